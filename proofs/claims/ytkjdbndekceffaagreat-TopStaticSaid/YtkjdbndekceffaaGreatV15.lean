/- A part of the proof; its text was made small by a program (no remarks, short names). -/
import Derived.Test.YtkjdbndekceffaaGreatV00
import Derived.Test.YtkjdbndekceffaaGreatV14
import Derived.Test.YtkjdbndekceffaaGreatV03
import Derived.Test.YtkjdbndekceffaaGreatV13
set_option linter.unusedSimpArgs false
set_option linter.unusedVariables false
set_option maxRecDepth 100000
set_option maxHeartbeats 16000000
namespace Go.Proofs.YtkjdbndekceffaaGreat
open Go.RowKit Go.Sort Go.Shelf Go.Lib Go.Maps
attribute [local irreducible] wpQuiet
attribute [local go_sem] Oper.fM
def kS (w:World) (Hb:Nat) (G:Nat->Prop) (m:Nat) (A:List eX) (N wk:Int):Prop:=
 ∃(X:Nat->Prop) (F:Nat->Nat->Prop) (Cb mb:Nat) (cv tv av lv:Value) (ch:List De) (T:List (Option Nat)) (al:List Bool) (eY:List Int),jr w X Hb Cb mb cv tv av lv ch T al eY A N wk/\pQ (ch.map (·.2.1)) al A N/\LvW (ch.map (·.2.1)) al eY/\pG w F X (ch.map (·.2.1)) T al/\
  N<=2*A.length/\T.length<=14/\(∀k,X k->k<w.heap.size/\G k)/\(∀i k,F i k->G k)/\al.length<=m/\SC (ch.map (·.2.1)) A.length wk m
theorem Vs:∀args w,(callFunc 139 args).run Tryz.prog w=.ok (.enter 139 args) w:=dF Tryz.func139 (by kernel_rfl) rfl
theorem Vt:∀args w,(callFunc 53 args).run Tryz.prog w=.ok (.enter 53 args) w:=dF Tryz.func53 (by kernel_rfl) rfl
section
variable {w w':World} {X S G:Nat->Prop} {F:Nat->Nat->Prop} {Hb Cb mb m:Nat} {cv tv av lv:Value} {ch:List De} {T:List (Option Nat)} {al:List Bool} {eY:List Int} {A A':List eX} {N wk:Int}
theorem jr.ZZ (h:jr w X Hb Cb mb cv tv av lv ch T al eY A N wk) (hg:w.grownBy w' (some mb)) (hm:mr w' mb A'):jr w' X Hb Cb mb cv tv av lv ch T al eY A' N wk:=by
 have K:aC (fun k=>k=mb) w w':=(aC.refl (fun k=>k=mb) w).grown hg fun k e=>.inl (by injection e with e;exact e.symm);have nb:∀{b:Nat} {cs:Array Value} {t':TypeId} {fr:Nat×Nat},w.heap[b]? =some (Obj.cells cs t' fr)->w'.heap[b]? =w.heap[b]? :=fun{b cs t' fr} hb=>K.block b (bn.1 hb).1 fun h9=>by
  obtain⟨D,⟨es,ck,hb2,-⟩,-⟩:=h.map;rw[h9,hb2]at hb;cases hb
 have nr:∀{e:TypeId} {sz n:Nat} {v:Value} {xs:List Value},w.ownsRow 0 e sz v n xs->w'.ownsRow 0 e sz v n xs:=fun{e sz n v xs} hr=>bB hr fun gb e9=>by
  obtain⟨cur,hc⟩:=dK hr e9;exact nb hc
 exact⟨(nb h.blk).trans h.blk,⟨bC _,h.gq.ds,(nb h.gq.blk).trans h.gq.blk,nr h.gq.row⟩,h.rows.kept fun b cur fr hb=>nb hb,nr h.jY,nr h.dR,nr h.oI,hm,h.jJ,h.inR⟩
theorem jr.aoj (h:jr w X Hb Cb mb cv tv av lv ch T al eY A N wk) {CB:List (List eX)} (ht:pG w F X CB T al) (j k:Nat) (hk:F j k):¬(k=Hb\/k=Cb\/k=mb\/cv.ownBlock=some k\/tv.ownBlock=some k\/av.ownBlock=some k\/lv.ownBlock=some k):=fun h9=>by
 refine ht.off j k hk ?_;rcases h9 with rfl|rfl|rfl|h9|h9|h9|h9
 .exact h.jJ.1
 .exact h.jJ.2.1
 .exact h.jJ.2.2.1
 .exact h.jJ.2.2.2.1 k h9
 .exact h.jJ.2.2.2.2.1 k h9
 .exact h.jJ.2.2.2.2.2.1 k h9
 .exact h.jJ.2.2.2.2.2.2 k h9
def DrC (a:Nat) (N N':Int) (n:Nat):Prop:=(2*(a:Int)<N/\n=a/\N'=a)\/(N<=2*(a:Int)/\n=0/\N'=N)
def aok (w:World) (Hb:Nat) (G:Nat->Prop) (m:Nat) (A:List eX) (N wk:Int) (p:Pt) (e:Ending) (w':World):Prop:=
 ∃(n:Nat) (N':Int),e=.returned (.tuple #[ag n,.bool true])/\kS w' Hb (fun k=>G k\/w.heap.size<=k) (m+1) (A.filter fun d=>decide (d.1≠p)) N' (wk+n)/\aC G w w'/\DrC (A.filter fun d=>decide (d.1≠p)).length N N' n
theorem aek (h:kS w Hb G m A N wk) (hm5:m<5000) (c:eX) (hc:c∈A) (x y d:Int) (SE:c.1=(x,y,d)):
  aO 59 #[ay Hb,ku x y d] w (aok w Hb G m A N wk (x,y,d)):=by
 obtain⟨X,F,Cb,mb,cv,tv,av,lv,ch,T,al,eY,hr,hw,hv,ht,oh,Z0,hX,hF,xE,QP⟩:=h;have zO:=hw.levels;have Yr:=(bQ.1 (hw.live.mem_iff.1 hc)).1;obtain⟨k,hk,gU⟩:=hw.num Yr;obtain⟨ck,-⟩:∃q,q=(c.1,c.2):=⟨_,rfl⟩;clear ck;have yo:KM (x,y,d):=by rw[<-SE];exact hw.good c Yr
 have xI:(A.map (·.1)).Nodup:=Fb hw.keys;obtain⟨uH,aiU,Rz⟩:=hw.dead oh hc;rw[SE,hk,iF]at uH aiU;rw[SE]at Rz;obtain⟨l,hl,qL⟩:=qR.1 Yr;obtain⟨i,hi,rfl⟩:=jA hl;have aiV:=hv.lvl i hi c qL;rw[hk,iF]at aiV;obtain⟨tb,n0,hTi,vE,hBk⟩:=ht.tr i hi (List.ne_nil_of_mem qL);have iC:(x,y,d)∈uI al (ch.map (·.2.1))[i]:=dY.2 ⟨c,bQ.2 ⟨qL,(bQ.1 (hw.live.mem_iff.1 hc)).2⟩,SE⟩;have LK:Hid (∀W,Below w.heap.size w W->(Instr.lookup 188 (.map (some mb)) (ku x y d) true).run Tryz.prog W=.ok (.tuple #[ag k,.bool true]) W):=fun W hb=>by
  rcases(hr.below hb).map.look yo xI with⟨c',hc',e1,e2⟩|⟨e1,-⟩
  .have h3:A.Pairwise fun p q=>p.1≠q.1:=dG.1 xI;have e4:c'=c:=by
    rcases gW h3 hc' hc with h1|h1|h1
    .exact h1
    .exact absurd (e1.trans SE.symm) h1
    .exact absurd (SE.trans e1.symm) h1
   rw[e4,hk]at e2;exact e2
  .exact absurd (dY.2 ⟨c,hc,SE⟩) e1
 have HMA:Hid ((x,y,d)∈A.map (·.1)):=dY.2 ⟨c,hc,SE⟩;have HND:=ae xI;have HR:=ae hr;have HT:=ae ht;have HW:=ae hw;have HV:=ae hv;have HX:=ae hX;have HF:=ae hF;have HP:=ae QP;have HDE:=ae uH;have Wm:=ae Rz;have HCI:Hid (c∈(ch.map (·.2.1))[i]):=qL;have HCX:=ae SE;have Uf:=ae hc;have HLS:=ae aiU;have Di:=ae iC;have uZ:=ae hBk;have HTI:=ae hTi;have HLE:=ae aiV;have B1:Below w.heap.size w (w.alloc (.cells #[ag x,ag y,aJ d] 29)):=(aM _ _).alloc (aG _) _;have P1:=ae (dE w (.cells #[ag x,ag y,aJ d] 29));have fK:=ae B1;have H1:=ae (hr.below B1);have CN:=ae (Dn H1.out);have hNm:N<=5000:=by have:=hw.stored;have:=zO.2.1;omega
 clear hr hw hv ht hX hF QP uH aiU Rz iC hBk hTi aiV hc hl qL Yr B1 SE xI;go_enter Tryz.func59,Tryz.ntmps59
 go_wp2_with (go_at_call 134;refine CN.out.mono ?_;rintro e w1 ⟨rfl,ew⟩;have kI:=ew.symm;clear ew;subst kI)
 generalize w.alloc (.cells #[ag x,ag y,aJ d] 29)=w1 at*;have e0:w1.cell? (ah w.heap.size 0)=some (ag x):=by simp only[World.cell?,P1.out];rfl
 have px:=aj e0;have e1:w1.cell? (ah w.heap.size 1)=some (ag y):=by simp only[World.cell?,P1.out];rfl
 have py:=aj e1;have e2:w1.cell? (ah w.heap.size 2)=some (aJ d):=by simp only[World.cell?,P1.out];rfl
 have pd:=aj e2;have g6:=aj (w:=w1) H1.out.cell.2.2.2.2.2.2;have lk:∀p:bg w1,(Instr.lookup 188 (.map (some mb)) (ku x y d) true).run Tryz.prog p.W=.ok (.tuple #[ag k,.bool true]) p.W:=fun p=>LK.out p.W (fK.out.trans (p.h.mono fK.out.size));refine aF (fun W=>∃p:bg w1,W=p.W) [] [(0,false),(1,false),(2,false),(3,true),(4,true),(5,true),(6,false),(7,false),(8,false),(9,false),(10,false)] (by kernel_rfl) (by kernel_rfl) (fun _ _ d _ _ h=>by cases d<;>exact h) ⟨⟨_,(aM _ _).drew⟩,rfl⟩ 0 rfl (by kernel_rfl) ?_;simp only[bG,bz,bA,bu,aS,aT,aU]
 repeat(refine aI (fun K hK=>?_);go_simp;first|(refine hK _ ?_;clear hK K)|(apply Exists.intro;refine⟨fun _=>?_,hK _ ?_⟩;rfl;clear hK K))
 refine aQ ?_;refine lZ (by kernel_rfl) ?_;clear px py pd g6 lk LK
 go_wp2_with fail
 have px:=aj (w:=w1.drew) e0;have py:=aj (w:=w1.drew) e1;have pd:=aj (w:=w1.drew) e2;have g6:=aj (w:=w1.drew) H1.out.cell.2.2.2.2.2.2;refine aF (fun W=>∃p:bg w1.drew,W=p.W) [5] [(0,false),(1,false),(2,false),(3,true),(4,true)] (by kernel_rfl) (by kernel_rfl) (fun _ _ d _ _ h=>by cases d<;>exact h) ⟨⟨_,(aM _ _).drew⟩,rfl⟩ 1 rfl (by kernel_rfl) ?_;simp only[bG,bz,bA,bu,aS,aT,aU]
 repeat(refine aI (fun K hK=>?_);go_simp;first|(refine hK _ ?_;clear hK K)|(apply Exists.intro;refine⟨fun _=>?_,hK _ ?_⟩;rfl;clear hK K))
 refine aQ ?_;refine aK [5] _ _ _ (by kernel_rfl) ?_;simp only[pick,bz,bA,bu,aS,aT];clear px py pd g6;have H2:=ae ((H1.out.below (aM _ _).drew).below (aM _ _).drew);obtain⟨D,hD1,hD2⟩:=H2.out.map;refine wpList_delete_own _ rfl _ _ _ _ rfl _ (Keyed.of_law Ml) IQ (plainElem Tryz.prog 3) mb A.length D rfl hD1 (ku x y d) (kp (x,y,d)) rfl (AY yo) ?_;intro w5 Ie ht5;have hA':(x,y,d)∈A.map (·.1):=HMA.out;have hM5:=ae (mr.fit Ie (hD2.del yo HND.out hA'));have H5:=ae (H2.out.ZZ ht5.grown hM5.out);have hg5:=ht5.grown;have mo:Hid (aC (fun k=>k=mb) w w5):=(((aC.refl (fun k=>k=mb) w).below fK.out).drew.drew).grown hg5 fun k e=>.inl (by injection e with e;exact e.symm);have P5:Hid (w5.heap[w.heap.size]? =some (Obj.cells #[ag x,ag y,aJ d] 29 (0,0))):=(hg5.block _ (bn.1 P1.out).1 (fun e=>by injection e with e;have:=HR.out.map.lt;omega)).trans P1.out;clear hD1 hD2 Ie ht5 hg5 e0 e1 e2;obtain⟨ga,gac,eav,-,TS,-,-⟩:=bf H5.out.dR (by omega);subst eav;have za:=H5.out.dR.cellAt k (by omega);rw[dD (by rw[cu];omega)]at za;have fa:=H5.out.dR.frozenAt k;obtain⟨-,-,-,-,c4,-,-⟩:=H5.out.cell;have KD:(k:Int)<(al.length:Int):=by omega
 have H6:=ae (H5.out.avh k false);have lD:Hid (aC (fun k=>k=mb\/k=ga) w (w5.setCell (ah ga k) (.bool false))):=(mo.out.mono fun k h=>.inl h).set _ (.inl (.inr rfl));have P6:Hid ((w5.setCell (ah ga k) (.bool false)).heap[w.heap.size]? =some (Obj.cells #[ag x,ag y,aJ d] 29 (0,0))):=(aH (a:=(ah ga k)) (fun e:ga=w.heap.size=>by have:=(HR.out.dR.lt ga rfl).2;omega)).trans P5.out
 go_wp2_with fail
 generalize w5.setCell (ah ga k) (.bool false)=w6 at*;have Cr:(A.filter fun q=>decide (q.1≠(x,y,d))).length<=A.length:=gG _ _;have hA5:A.length<=5000:=by have:=HW.out.PR.1;have:=HW.out.levels.2.1;omega
 clear c4 za fa;obtain⟨-,-,c2,-,-,-,c6⟩:=H6.out.cell;have g2:=aj c2;have g6:=aj c6;have CL:=ae (agJ (H6.out.below (aM _ _).drew).gq);refine aF (fun W=>∃p:bg w6,W=p.W) [9,10,11] [(0,false),(1,false),(2,false),(3,true),(5,false),(6,false),(7,false),(8,true)] (by kernel_rfl) (by kernel_rfl) (fun _ _ d _ _ h=>by cases d<;>exact h) ⟨⟨_,(aM _ _).drew⟩,rfl⟩ 4 rfl (by kernel_rfl) ?_;simp only[bG,bz,bA,bu,aS,aT,aU]
 repeat(refine aI (fun K hK=>?_);go_simp;first|(refine hK _ ?_;clear hK K)|(apply Exists.intro;refine⟨fun _=>?_,hK _ ?_⟩;rfl;clear hK K))
 refine aQ ?_;refine az [4] (by kernel_rfl) (by simp) ?_;refine ak.cons rfl (fun K hK=>?_) ak.nil;refine bD Vs rfl _ _ rfl (vals:=#[ay Cb]) rfl CL.out ?_;rintro e w7 ⟨rfl,uL⟩;have B7:Below w6.heap.size w6 w7:=(aM _ _).drew.trans uL;refine⟨_,rfl,?_⟩;refine hK _ _ (fun _ _=>⟨⟨_,B7⟩,rfl⟩) ?_;clear hK K g2 g6 c2 c6;have H7:=ae (H6.out.below B7);have sw:Hid (aC (fun k=>k=mb\/k=ga) w w7):=lD.out.below B7;have P7:Hid (w7.heap[w.heap.size]? =some (Obj.cells #[ag x,ag y,aJ d] 29 (0,0))):=(bI B7 P6.out).trans P6.out;have z6:=H7.out.map.size;clear uL B7 CL;generalize hA9:(A.filter fun q=>decide (q.1≠(x,y,d)))=A9 at*;have HA9:=ae hA9;clear hA9;have aiW:(-9223372036854775808:Int)<=2*(A9.length:Int)/\2*(A9.length:Int)<=9223372036854775807:=by omega
 have hwr:IntKind.i64.wrap (2*(A9.length:Int))=2*(A9.length:Int):=DZ _ (by omega);refine aK [9,10,11] _ _ _ (by kernel_rfl) ?_;simp only[pick,bz,bA,bu,aS,aT];by_cases hlt:2*(A9.length:Int)<N
 .have hX7:∀b,X b->b<w7.heap.size:=fun b hb=>bJ (HX.out b hb).1 sw.out.size;have CA:=ae (aeh H7.out HDE.out (by have:=HV.out.PQ;simpa using this) hX7)
  go_wp2_with fail
  refine CA.out.mono ?_;rintro e w8 ⟨rfl,X',F',kW,tv',iP,T',lev',Vd,-,hT8,hW8,hV8,afE,hX8,hF8,hK8⟩;have Yz:=ae Vd;have HT8:=ae hT8;have HW8:=ae hW8;have HV8:=ae hV8;have YA:=ae hX8;have HF8:=ae hF8;have Hu:=ae hK8;have avx:=ae afE;clear Vd hT8 hW8 hV8 hX8 hF8 hK8 afE CA z6 hwr aiW;go_wp2;go_ret2;have FI:=HP.out;rw[<-Wm.out]at FI;have hst:=HW.out.stored;have aEq:=HW8.out.stored;have um:A9.length+1<=(ch.map (·.2.1)).flatten.length:=by have:=HW.out.PR.1;have:=Wm.out;omega
  have WC:=(FI.drop um).anew (CB':=iP.map (·.2.1)) (by omega) (by omega);have ni:wrap64 (wk+(A9.length:Int))=wk+(A9.length:Int):=IntWalk.wrap64_in _ (by have h1:=HP.out.bound (by omega);have h2:=HP.out.1;omega);rw[ni]at Yz;have hs7:=sw.out.size;have hs8:=Hu.out.size;refine⟨A9.length,A9.length,rfl,?_,?_,by rw[HA9.out];exact .inl ⟨hlt,rfl,rfl⟩⟩
  .rw[HA9.out];exact⟨X',F',Cb,mb,kW,tv',_,lv,iP,T',_,lev',Yz.out,HW8.out,HV8.out,HT8.out,by omega,avx.out,fun b hb=>⟨(YA.out b hb).1,(YA.out b hb).2.imp (fun h=>(HX.out b h).2) fun h=>by omega⟩,fun j b hb=>.inr (by have:=HF8.out j b hb;omega),by simp;omega,WC⟩
  .refine aC.trans (sw.out.mono ?_) (Hu.out.mono ?_)
   .rintro b (rfl|rfl)
    .exact(HX.out _ HR.out.jJ.2.2.1).2
    .exact(HX.out _ (HR.out.jJ.2.2.2.2.2.1 _ rfl)).2
   .rintro b (rfl|rfl|h|h|h)
    .exact(HX.out _ HR.out.jJ.1).2
    .exact(HX.out _ HR.out.jJ.2.1).2
    .exact(HX.out _ (HR.out.jJ.2.2.2.1 _ h)).2
    .exact(HX.out _ (HR.out.jJ.2.2.2.2.1 _ h)).2
    .exact(HX.out _ (HR.out.jJ.2.2.2.2.2.2 _ h)).2
 .go_wp2_with fail
  clear z6 hwr aiW;have uy:=HV.out.PQ;have hiT:=(gD.1 HTI.out).1;obtain⟨gl,lc,elv,-,Uk,-,-⟩:=bf H7.out.oI (by omega);obtain⟨gt,tc,Np,-,hgt,-,-⟩:=bf H7.out.jY (by omega);have zl:w7.cell? (ah gl k)=some (ag i):=by
   have h1:=H7.out.oI;rw[elv]at h1;have h2:=h1.cellAt k (by omega);rw[iO,HLE.out]at h2;exact h2
  have zt:w7.cell? (ah gt i)=some (ay tb):=by
   have h1:=H7.out.jY;rw[Np]at h1;have h2:=h1.cellAt i (by omega);rw[iO,HTI.out]at h2;exact h2
  obtain⟨-,d1,-,d3,-,d5,-⟩:=H7.out.cell;rw[Np]at d3;rw[elv]at d5;have Uw:(k:Int)<(eY.length:Int):=by omega
  have aEr:(i:Int)<(T.length:Int):=by omega
  have q0:w7.cell? (ah w.heap.size 0)=some (ag x):=by simp only[World.cell?,P7.out];rfl
  have q1:w7.cell? (ah w.heap.size 1)=some (ag y):=by simp only[World.cell?,P7.out];rfl
  have q2:w7.cell? (ah w.heap.size 2)=some (aJ d):=by simp only[World.cell?,P7.out];rfl
  have g0:=aj q0;have g1:=aj q1;have g2:=aj q2;have g3:=aj d1;have g4:=aj d3;have g5:=aj d5;have g7:=aj zl;have g8:=aj zt;have hKF:∀j b,F j b->¬(b=mb\/b=ga):=fun j b hb h9=>HR.out.aoj HT.out j b hb (h9.elim (fun h=>.inr (.inr (.inl h))) fun h=>.inr (.inr (.inr (.inr (.inr (.inl (by rw[h];rfl)))))));have Cf:=ae ((uZ.out.kept sw.out (hKF i)).below (aM _ _).drew);have HT7:=ae ((HT.out.kept sw.out hKF));have CD:=ae (an3 Cf.out (x,y,d) Di.out);have hs7:=sw.out.size;clear hKF;refine aF (fun W=>∃p:bg w7,W=p.W) [18] [(0,false),(1,false),(2,false),(3,true),(4,false),(5,false),(6,false),(7,true),(8,false),(9,false),(10,false),(11,true),(12,false),(13,false),(14,true),(15,false),(16,true),(17,true)] (by kernel_rfl) (by kernel_rfl) (fun _ _ d _ _ h=>by cases d<;>exact h) ⟨⟨_,(aM _ _).drew⟩,rfl⟩ 1 rfl (by kernel_rfl) ?_;simp only[bG,bz,bA,bu,aS,aT,aU]
  repeat(refine aI (fun K hK=>?_);go_simp;first|(refine hK _ ?_;clear hK K)|(apply Exists.intro;refine⟨fun _=>?_,hK _ ?_⟩;rfl;clear hK K))
  refine aQ ?_;clear g0 g1 g2 g3 g4 g5 g7 g8 q0 q1 q2 d1 d3 d5 zl zt;refine az [18] (by kernel_rfl) (by simp) ?_;refine ak.cons rfl (fun K hK=>?_) ak.nil;refine FW Vt rfl _ _ _ rfl rfl (vals:=#[ay tb,ku x y d]) rfl CD.out ?_;rintro e w8 ⟨rfl,hB8,hK8⟩;refine⟨_,rfl,?_⟩;refine hK _ _ (fun _ h=>absurd (by decide) h) ?_;clear hK K;have MF:=ae hB8;have Hu:Hid (aC (F i) w7 w8):=((aC.refl _ w7).drew).trans hK8;have hs8:=hK8.size;clear hB8 hK8 CD Cf;refine lZ (by kernel_rfl) ?_
  go_wp2_with fail
  go_ret2;have FI:=HP.out;rw[<-Wm.out]at FI;have um:A9.length+1<=(ch.map (·.2.1)).flatten.length:=by have:=HW.out.PR.1;have:=Wm.out;omega
  have WC:=FI.drop um;have hX7:∀b,X b->b<w7.heap.size:=fun b hb=>bJ (HX.out b hb).1 hs7;have hno:∀(j:Nat) (hj:j<(ch.map (·.2.1)).length),j≠i->uI (al.set k false) (ch.map (·.2.1))[j]=uI al (ch.map (·.2.1))[j]:=fun j hj oK=>by
   rw[HLS.out _ fun q hq=>HW.out.inl hj hq];refine qc.2 fun q hq=>?_;simp only[bZ];rintro rfl;obtain⟨c',hc',e⟩:=dY.1 hq;have hcA:=HW.out.live.mem_iff.2 (bQ.2 ⟨HW.out.inl hj (bQ.1 hc').1,(bQ.1 hc').2⟩);have h3:A.Pairwise fun p q=>p.1≠q.1:=dG.1 HND.out;have e4:c'=c:=by
    rcases gW h3 hcA Uf.out with h1|h1|h1
    .exact h1
    .exact absurd (e.trans HCX.out.symm) h1
    .exact absurd (HCX.out.trans e.symm) h1
   subst e4;exact HW.out.apart hj hi oK (bQ.1 hc').1 HCI.out rfl
  refine⟨0,N,rfl,?_,?_,by rw[HA9.out];exact .inr ⟨by omega,rfl,rfl⟩⟩
  .rw[HA9.out,show wk+((0:Nat):Int)=wk by omega];refine⟨X,fun j b=>F j b\/(j=i/\w7.heap.size<=b/\b<w8.heap.size),Cb,mb,cv,tv,_,lv,ch,T,_,eY,H7.out.kept Hu.out (fun b hb h=>HT.out.off i b h hb),HDE.out,⟨by simpa using uy,HV.out.lvl⟩,⟨fun j hj hne=>?_,?_,?_,?_⟩,by omega,Z0,fun b hb=>⟨bJ (hX7 b hb) hs8,.inl (HX.out b hb).2⟩,?_,by simp;omega,WC⟩
   .by_cases e:j=i
    .subst e;refine⟨tb,n0,HTI.out,vE,?_⟩;rw[HLS.out _ fun q hq=>HW.out.inl hj hq];have:(fun b=>F j b\/(j=j/\w7.heap.size<=b/\b<w8.heap.size))=fun b=>F j b\/w7.drew.heap.size<=b/\b<w8.heap.size:=by funext b;simp
     rw[this];exact MF.out
    .obtain⟨tb',n1,h1,h2,h3⟩:=HT7.out.tr j hj hne;refine⟨tb',n1,h1,h2,?_⟩;have:(fun b=>F j b\/(j=i/\w7.heap.size<=b/\b<w8.heap.size))=F j:=by funext b;simp[e]
     rw[this,hno j hj e];exact h3.kept Hu.out fun b hb hb'=>e (HT.out.ap j i b hb hb')
   .rintro j b (hb|⟨-,hb,-⟩) hx
    .exact HT.out.off j b hb hx
    .have:=hX7 b hx;omega
   .rintro j j' b (hb|⟨rfl,hb,-⟩) (hb'|⟨rfl,hb',-⟩)
    .exact HT.out.ap j j' b hb hb'
    .have:=HT7.out.lt j b hb;omega
    .have:=HT7.out.lt j' b hb';omega
    .rfl
   .rintro j b (hb|⟨-,-,hb⟩)
    .exact bJ (HT7.out.lt j b hb) hs8
    .exact hb
   .rintro j b (hb|⟨-,hb,-⟩)
    .exact .inl (HF.out j b hb)
    .exact .inr (by omega)
  .refine aC.trans (sw.out.mono ?_) (Hu.out.mono fun b hb=>HF.out i b hb);rintro b (rfl|rfl)
   .exact(HX.out _ HR.out.jJ.2.2.1).2
   .exact(HX.out _ (HR.out.jJ.2.2.2.2.2.1 _ rfl)).2
end
theorem Vu:∀args w,(callFunc 135 args).run Tryz.prog w=.ok (.enter 135 args) w:=dF Tryz.func135 (by kernel_rfl) rfl
def xZ (T:List (Option Nat)) (n:Nat):List (Option Nat):=List.replicate n none++T.drop n
theorem FZ {T:List (Option Nat)} {n:Nat} (h:n<=T.length):(xZ T n).length=T.length:=by simp[xZ];omega
theorem Vv {T:List (Option Nat)}:xZ T 0=T:=by simp[xZ]
theorem Z4 {T:List (Option Nat)} {n:Nat} (h:n<T.length):(xZ T n).set n none=xZ T (n+1):=by
 unfold xZ;rw[wu _ _ (by simp),iN,jS,nP h,qO,sW,ek];rfl
theorem Z5 {T:List (Option Nat)} {n j:Nat} (h:n<=j):(xZ T n)[j]? =T[j]? :=by
 unfold xZ;rw[oO (by simpa using h),iN,IP,show n+(j-n)=j by omega]
section
variable {w w':World} {X S G:Nat->Prop} {F:Nat->Nat->Prop} {Hb Cb mb m:Nat} {cv tv av lv:Value} {ch:List De} {T:List (Option Nat)} {al al':List Bool} {eY lev':List Int} {A A':List eX} {N wk:Int}
theorem Cj {CB:List (List eX)} (h:pQ CB al A N):CB.flatten.length<=al.length:=by
 have h2:(CB.flatten.map fun c=>c.2.toNat).Nodup:=by
  refine dG.2 ((dG.1 h.ahC).imp_of_mem ?_);intro a b ha hb hab h9;exact hab (by rw[h.one ha hb h9])
 have h3:=zq h2 (n:=al.length) (fun k hk=>by
  obtain⟨c,hc,rfl⟩:=dY.1 hk;obtain⟨q,hq,NZ⟩:=h.num hc;omega)
 rwa [cu]at h3
theorem jr.aiX (h:jr w X Hb Cb mb cv tv av lv ch T al eY A N wk) {av' vM:Value} (K:aC (fun k=>k=Hb\/av.ownBlock=some k\/lv.ownBlock=some k) w w') (hblk:w'.heap[Hb]? =some (Obj.cells (xX Cb mb tv av' vM) sF (0,0))) (ha:w'.ownsRow 0 4 1 av' al'.length (al'.map Value.bool)) (hl:w'.ownsRow 0 3 1 vM lev'.length (lev'.map (Value.int .i64))):
  jr w' (fun k=>X k\/av'.ownBlock=some k\/vM.ownBlock=some k) Hb Cb mb cv tv av' vM ch T al' lev' A N wk:=by
 have nb:∀{b:Nat} {cs:Array Value} {t':TypeId} {fr:Nat×Nat},w.heap[b]? =some (Obj.cells cs t' fr)->t'≠sF->t'≠4->t'≠3->w'.heap[b]? =w.heap[b]? :=fun{b cs t' fr} hb h1 h2 h3=>K.block b (bn.1 hb).1 fun h9=>by
  rcases h9 with rfl|h9|h9
  .exact dV hb h.blk h1 rfl
  .obtain⟨cur,hc⟩:=dK h.dR h9;exact dV hb hc h2 rfl
  .obtain⟨cur,hc⟩:=dK h.oI h9;exact dV hb hc h3 rfl
 have nr:∀{e:TypeId} {sz n:Nat} {v:Value} {xs:List Value},w.ownsRow 0 e sz v n xs->e≠sF->e≠4->e≠3->w'.ownsRow 0 e sz v n xs:=fun{e sz n v xs} hr h1 h2 h3=>bB hr fun gb e9=>by
  obtain⟨cur,hc⟩:=dK hr e9;exact nb hc h1 h2 h3
 refine⟨hblk,⟨bC _,h.gq.ds,(nb h.gq.blk (by decide) (by decide) (by decide)).trans h.gq.blk,nr h.gq.row (by decide) (by decide) (by decide)⟩,h.rows.kept fun b cur fr hb=>nb hb (by decide) (by decide) (by decide),nr h.jY (by decide) (by decide) (by decide),ha,hl,h.map.same ?_,⟨.inl h.jJ.1,.inl h.jJ.2.1,.inl h.jJ.2.2.1,fun k e=>.inl (h.jJ.2.2.2.1 k e),fun k e=>.inl (h.jJ.2.2.2.2.1 k e),fun k e=>.inr (.inl e),fun k e=>.inr (.inr e)⟩,fun x hx hn a e=>.inl (h.inR x hx hn a e)⟩;refine K.block _ h.map.lt fun h9=>?_;obtain⟨D,⟨es,ck,hb,-⟩,-⟩:=h.map;rcases h9 with e|e|e
 .rw[e,h.blk]at hb;cases hb
 .obtain⟨cur,hc⟩:=dK h.dR e;rw[hc]at hb;cases hb
 .obtain⟨cur,hc⟩:=dK h.oI e;rw[hc]at hb;cases hb
def AdC (N:Int) (n:Nat):Prop:=∃i q:Nat,n=2^i/\N+1=((2^i+2^(i+1)*q:Nat):Int)
theorem AdC.pos {N:Int} {n:Nat} (h:AdC N n):1<=n:=by
 obtain⟨i,q,rfl,-⟩:=h;exact xx (by decide)
theorem Nv {d:Nat}:∀{L:List Nat},(∀x∈L,d∣x)->d∣L.sum
 |[],_=>⟨0,rfl⟩
 |x::L,h=>by
  rw[List.sum_cons];exact Nat.dvd_add (h x sQ) (Nv fun y hy=>h y (lU _ hy))
theorem pQ.adC {CB:List (List eX)} (h:pQ CB al A N) (i:Nat) (hi:i<=CB.length) (hne:∀j (hj:j<CB.length),j<i->CB[j]≠[]) (Hg:∀h:i<CB.length,CB[i]=[]):AdC N ((eu CB i).length+1):=by
 have hJ:=Bh CB i hi fun j hj oK=>(h.size j hj).elim (fun e=>absurd (jw e) (hne j hj oK)) id;have e3:(CB.take i).flatten++(CB.drop i).flatten=CB.flatten:=by rw[<-lV,lg]
 have h1:=congrArg List.length e3;rw[bF,<-(jW CB i).length_eq]at h1;have hd:2^(i+1)∣(CB.drop i).flatten.length:=by
  rw[IE];refine Nv fun x hx=>?_;obtain⟨l,hl,rfl⟩:=dY.1 hx;obtain⟨j,hj,rfl⟩:=jA hl;rw[qg]at hj;rw[List.getElem_drop];by_cases j0:j=0
  .subst j0;have h9:=Hg (by omega);simp only[eG];rw[h9];exact⟨0,rfl⟩
  .rcases h.size (i+j) (by omega)with e|e
   .rw[e];exact⟨0,rfl⟩
   .rw[e];exact Nat.pow_dvd_pow 2 (by omega)
 obtain⟨q,hq⟩:=hd;have hst:=h.stored;refine⟨i,q,hJ,?_⟩;rw[hst];omega
def aon (w:World) (Hb:Nat) (G:Nat->Prop) (m:Nat) (A:List eX) (N wk:Int) (p:Pt) (e:Ending) (w':World):Prop:=
 ∃(n:Nat) (q:Int),AdC N n/\e=.returned (.tuple #[.int .i64 n,.bool true])/\kS w' Hb (fun k=>G k\/w.heap.size<=k) (m+1) (A++[(p,q)]) (N+1) (wk+n)/\aC G w w'
theorem aiY (h:kS w Hb G m A N wk) (hm5:m<5000) (x y d:Int) (yo:KM (x,y,d)) (hno:d∉ids (A.map (·.1))):
  Calls Tryz.prog 57 #[.pointer (some ⟨Hb,0,none⟩),ku x y d] w (aon w Hb G m A N wk (x,y,d)):=by
 obtain⟨X,F,Cb,mb,cv,tv,av,lv,ch,T,al,eY,hr,hw,hv,ht,oh,Z0,hX,hF,xE,QP⟩:=h;have zO:=hw.levels;have xI:(A.map (·.1)).Nodup:=Fb hw.keys;have aiZ:(x,y,d)∉A.map (·.1):=fun h=>hno (dY.2 ⟨_,h,rfl⟩);have LK:Hid (∀W,Below w.heap.size w W->(Instr.lookup 188 (.map (some mb)) (ku x y d) true).run Tryz.prog W=.ok (.tuple #[.int .i64 0,.bool false]) W):=fun W hb=>by
  rcases(hr.below hb).map.look yo xI with⟨c',hc',e1,-⟩|⟨-,e2⟩
  .exact absurd (dY.2 ⟨c',hc',e1⟩) aiZ
  .exact e2
 have HR:=ae hr;have HT:=ae ht;have HW:=ae hw;have HV:=ae hv;have HX:=ae hX;have HF:=ae hF;have HP:=ae QP;have TY:=ae hno;have Uy:=ae aiZ;have B1:Below w.heap.size w (w.alloc (.cells #[.int .i64 x,.int .i64 y,.int .u32 d] 29)):=(aM _ _).alloc (aG _) _;have P1:=ae (dE w (.cells #[.int .i64 x,.int .i64 y,.int .u32 d] 29));have fK:=ae B1;have H1:=ae (hr.below B1);have CN:=ae (Dn H1.out);have hNm:0<=N/\N<=5000:=by have:=hw.stored;have:=zO.2.1;omega
 have qL:ch.length<=13:=by have:=zO.1;simpa using this
 have hA5:A.length<=5000:=by have:=hw.PR.1;have:=zO.2.1;omega
 have Cr:(ch.map (·.2.1)).flatten.length<=5000:=zO.2.1;clear hr hw hv ht hX hF QP hno aiZ B1 xI zO;go_enter Tryz.func57,Tryz.ntmps57
 go_wp2_with (go_at_call 134;refine CN.out.mono ?_;rintro e w1 ⟨rfl,ew⟩;have kI:=ew.symm;clear ew;subst kI)
 generalize w.alloc (.cells #[.int .i64 x,.int .i64 y,.int .u32 d] 29)=w1 at*;have e0:w1.cell? ⟨w.heap.size,0,none⟩=some (.int .i64 x):=by simp only[World.cell?,P1.out];rfl
 have e1:w1.cell? ⟨w.heap.size,1,none⟩=some (.int .i64 y):=by simp only[World.cell?,P1.out];rfl
 have e2:w1.cell? ⟨w.heap.size,2,none⟩=some (.int .u32 d):=by simp only[World.cell?,P1.out];rfl
 have px:=aj e0;have py:=aj e1;have pd:=aj e2;have g6:=aj (w:=w1) H1.out.cell.2.2.2.2.2.2;have lk:∀p:bg w1,(Instr.lookup 188 (.map (some mb)) (ku x y d) true).run Tryz.prog p.W=.ok (.tuple #[.int .i64 0,.bool false]) p.W:=fun p=>LK.out p.W (fK.out.trans (p.h.mono fK.out.size));refine aF (fun W=>∃p:bg w1,W=p.W) [] [(0,false),(1,false),(2,false),(3,true),(4,true),(5,true),(6,false),(7,false),(8,false),(9,false),(10,false)] (by kernel_rfl) (by kernel_rfl) (fun _ _ d _ _ h=>by cases d<;>exact h) ⟨⟨_,(aM _ _).drew⟩,rfl⟩ 0 rfl (by kernel_rfl) ?_;simp only[bG,bz,bA,bu,aS,aT,aU]
 repeat(refine aI (fun K hK=>?_);go_simp;first|(refine hK _ ?_;clear hK K)|(apply Exists.intro;refine⟨fun _=>?_,hK _ ?_⟩;rfl;clear hK K))
 refine aQ ?_;refine lZ (by kernel_rfl) ?_;clear px py pd g6 lk LK
 go_wp2_with fail
 have H2:=ae (H1.out.below (aM _ _).drew);obtain⟨ba,bc,eav,-,-,-⟩:=Rd.aL H2.out.dR;have px:=aj (w:=w1.drew) e0;have py:=aj (w:=w1.drew) e1;have pd:=aj (w:=w1.drew) e2;have c4:=H2.out.cell.2.2.2.2.1;rw[eav]at c4;have g4:=aj (w:=w1.drew) c4;have g6:=aj (w:=w1.drew) H2.out.cell.2.2.2.2.2.2;have EAV:=ae eav;clear eav c4;refine aF (fun W=>∃p:bg w1.drew,W=p.W) [10] [(0,false),(1,false),(2,false),(3,true),(4,true),(5,false),(6,false),(7,false),(8,true),(9,false)] (by kernel_rfl) (by kernel_rfl) (fun _ _ d _ _ h=>by cases d<;>exact h) ⟨⟨_,(aM _ _).drew⟩,rfl⟩ 1 rfl (by kernel_rfl) ?_;simp only[bG,bz,bA,bu,aS,aT,aU]
 repeat(refine aI (fun K hK=>?_);go_simp;first|(refine hK _ ?_;clear hK K)|(apply Exists.intro;refine⟨fun _=>?_,hK _ ?_⟩;rfl;clear hK K))
 refine aQ ?_;refine aK [10] _ _ _ (by kernel_rfl) ?_;simp only[pick,bz,bA,bu,aS,aT];clear px py pd g4 g6;have H3:=ae (H2.out.below (aM _ _).drew);obtain⟨D,hD1,hD2⟩:=H3.out.map;refine Dv _ rfl _ _ _ _ rfl _ _ (Keyed.of_law Ml) IQ (plainElem Tryz.prog 3) mb A.length D rfl hD1 (by unfold maxLen;omega) (ku x y d) (.int .i64 (al.length:Int)) (kp (x,y,d)) rfl rfl (AY yo) (.lit (.int .i64 (al.length:Int))) [] (Ao nQ (by simp[Lit.wf,IntKind.min,IntKind.max,IntKind.bits,IntKind.signed];omega)) ?_;intro w4 pq hg4;have hM4:mr w4 mb (A++[((x,y,d),(al.length:Int))]):=⟨_,by rw[bF];exact pq,hD2.put yo Uy.out _⟩;have H4:=ae (H3.out.ZZ hg4 hM4);have xG:Hid (aC (fun k=>k=mb) w w4):=(((aC.refl (fun k=>k=mb) w).below fK.out).drew.drew).grown hg4 fun k e=>.inl (by injection e with e;exact e.symm);have P4:Hid (w4.heap[w.heap.size]? =some (Obj.cells #[.int .i64 x,.int .i64 y,.int .u32 d] 29 (0,0))):=(hg4.block _ (bn.1 P1.out).1 (fun e=>by injection e with e;have:=HR.out.map.lt;omega)).trans P1.out;clear hD1 hD2 pq hg4 hM4 e0 e1 e2
 go_wp2_with fail
 have q0:w4.cell? ⟨w.heap.size,0,none⟩=some (.int .i64 x):=by simp only[World.cell?,P4.out];rfl
 have q1:w4.cell? ⟨w.heap.size,1,none⟩=some (.int .i64 y):=by simp only[World.cell?,P4.out];rfl
 have q2:w4.cell? ⟨w.heap.size,2,none⟩=some (.int .u32 d):=by simp only[World.cell?,P4.out];rfl
 have px:=aj q0;have py:=aj q1;have pd:=aj q2;have c2:=H4.out.cell.2.2.1;have c4:=H4.out.cell.2.2.2.2.1;rw[EAV.out]at c4;have g2:=aj c2;have g4:=aj c4;have CA:=ae (agy (H4.out.below (aM _ _).drew).gq (bC _) (H4.out.below (aM _ _).drew).rows x y d (al.length:Int) (by omega) (by omega) (by omega));have Rt:=xG.out.size;refine aF (fun W=>∃p:bg w4,W=p.W) [11,12,13,14,15,16] [(0,false),(1,false),(2,false),(3,true),(4,true),(5,false),(6,false),(7,false),(8,true),(9,false),(10,false)] (by kernel_rfl) (by kernel_rfl) (fun _ _ d _ _ h=>by cases d<;>exact h) ⟨⟨_,(aM _ _).drew⟩,rfl⟩ 6 rfl (by kernel_rfl) ?_;simp only[bG,bz,bA,bu,aS,aT,aU]
 repeat(refine aI (fun K hK=>?_);go_simp;first|(refine hK _ ?_;clear hK K)|(apply Exists.intro;refine⟨fun _=>?_,hK _ ?_⟩;rfl;clear hK K))
 refine aQ ?_;refine az [11] (by kernel_rfl) (by simp) ?_;refine ak.cons rfl (fun K hK=>?_) ak.nil;refine bD Vu rfl _ _ rfl (vals:=#[.pointer (some ⟨Cb,0,none⟩),alb x y d al.length]) rfl CA.out ?_;rintro e w5 ⟨i,v5,cv5,ch5,wk5,rfl,hi,hne,Hg,Vw,⟨hrs,-⟩,hmap,hown,Z6,hK5,Sk,aoo⟩;refine⟨_,rfl,?_⟩;refine hK _ _ (fun _ h=>absurd (by decide) h) ?_;clear hK K px py pd g2 g4 c2 c4 q0 q1 q2;have vP:=ae hne;have Jp:=ae Hg;have Vx:=ae hmap;have aop:=ae hown;have HWK:=ae aoo;have ael:aC (fun k=>k=Cb\/cv.ownBlock=some k) w4 w5:=((aC.refl _ w4).drew).trans hK5;have hs5:=ael.size;have h5a:=H4.out.ZP ael Vw hrs Sk (Z6.imp (fun h=>h) fun⟨b,e,hb⟩=>.inr ⟨b,e,hb⟩);have H5:Hid (jr w5 (fun k=>X k\/w.heap.size<=k/\k<w5.heap.size) Hb Cb mb cv5 tv av lv ch5 T al eY (A++[((x,y,d),(al.length:Int))]) (N+1) wk5):=h5a.more fun k hk=>by
  rcases hk with hk|⟨h1,h2⟩
  .exact .inl hk
  .refine .inr ⟨by omega,?_⟩;rcases h2 with h2|⟨q,hq,hqn,a,ha,rfl⟩
   .exact(Vw.row.lt k h2).2
   .rcases(hrs q hq).1 with h9|⟨b,off,cur,fr,ea,hb,-⟩
    .exact absurd h9 hqn
    .rw[ha]at ea;injection ea with ea;rw[ea];exact(bn.1 hb).1
 have mo:Hid (aC (fun k=>k=mb\/k=Cb\/cv.ownBlock=some k) w w5):=(xG.out.mono fun k h=>.inl h).trans (ael.mono fun k h=>.inr h);clear hne Hg Vw hrs hmap hown Z6 hK5 Sk aoo ael h5a CA;refine je (fun _=>True) [15,16] (by kernel_rfl) ?_;refine cK [(12,false),(13,false),(14,false)] (by kernel_rfl) (fun _ _ d _ _ h=>by cases d<;>exact h) trivial (by kernel_rfl) (by kernel_rfl) rfl ?_;simp only[bG,bz,bA,bu,aS,aT,aU]
 repeat(refine aI (fun K hK=>?_);go_simp;first|(refine hK _ ?_;clear hK K)|(apply Exists.intro;refine⟨fun _=>?_,hK _ ?_⟩;rfl;clear hK K))
 refine aQ ?_;refine aK [15,16] _ _ _ (by kernel_rfl) ?_;simp only[pick,bz,bA,bu,aS,aT]
 go_wp2_with fail
 have hW5:w.heap.size<=w5.heap.size:=mo.out.size
 go_cut []from 49 to 67 (fun wx=>∃av' vM:Value,Hid (jr wx (fun k=>X k\/w.heap.size<=k/\k<wx.heap.size) Hb Cb mb cv5 tv av' vM ch5 T (al++[true]) (eY++[(i:Int)]) (A++[((x,y,d),(al.length:Int))]) (N+1) wk5)/\Hid (vM.ownBlock=lv.ownBlock\/∃b,vM.ownBlock=some b/\w.heap.size<=b)/\Hid (aC (fun k=>k=Hb\/av.ownBlock=some k\/lv.ownBlock=some k) w5 wx))
 case first=>
  obtain⟨-,-,-,-,q4,q5,-⟩:=H5.out.cell;have hHb:=H5.out.lt;have hblk:=H5.out.blk;have naH:av.ownBlock≠some Hb:=H5.out.Ci H5.out.dR (by decide);have nlH:lv.ownBlock≠some Hb:=H5.out.Ci H5.out.oI (by decide);have nal:∀gb,av.ownBlock=some gb->lv.ownBlock≠some gb:=fun gb e e2=>bK H5.out.dR H5.out.oI (by decide) gb e e2;have hva:∀gb,av.ownBlock=some gb->gb<w5.heap.size:=fun gb e=>(H5.out.dR.lt gb e).2;have Ul:∀gb,lv.ownBlock=some gb->gb<w5.heap.size:=fun gb e=>(H5.out.oI.lt gb e).2;have g4:∀p:yH (fun k=>av.ownBlock=some k) w5,p.W.cell? ⟨Hb,4,none⟩=some av:=fun p=>((di p.h hHb naH).1 4).trans q4;have g5:∀p:yH (fun k=>av.ownBlock=some k) w5,p.W.cell? ⟨Hb,5,none⟩=some lv:=fun p=>((di p.h hHb naH).1 5).trans q5;have HAR:=ae H5.out.dR;have HLR:=ae H5.out.oI;have HNA:=ae naH;have HNL:=ae nlH;have aoq:=ae nal;have HVA:=ae hva;have HVL:=ae Ul;have Pd:=ae hblk;have uy:=HV.out.PQ;clear naH nlH nal hva Ul hblk q4 q5;refine aF (fun W=>∃p:yH (fun k=>av.ownBlock=some k) w5,W=p.W) [14,15,16,17,18,19,20] [(0,false),(1,false),(2,false),(3,false),(4,false),(5,true),(8,false),(9,false),(10,false),(11,true),(12,false)] (by kernel_rfl) (by kernel_rfl) (fun _ _ d _ _ h=>by cases d<;>exact h) ⟨⟨_,(aC.refl _ _).drew⟩,rfl⟩ 10 rfl (by kernel_rfl) ?_;simp only[bG,bz,bA,bu,aS,aT,aU]
  repeat(refine aI (fun K hK=>?_);go_simp;first|(refine hK _ ?_;clear hK K)|(apply Exists.intro;refine⟨fun _=>?_,hK _ ?_⟩;rfl;clear hK K))
  refine aQ ?_;clear g4 g5;have K0:aC (fun k=>av.ownBlock=some k) w5 w5.drew:=(aC.refl _ _).drew;refine az [6,13] (by kernel_rfl) (by simp) ?_;have Ka:aC (fun k=>av.ownBlock=some k) w5 (w5.alloc (.cells #[.bool true] 4)).drew:=((aC.refl _ _).alloc _).drew;have Kab:aC (fun k=>av.ownBlock=some k) w5 ((w5.alloc (.cells #[.bool true] 4)).alloc (.cells #[.int .i64 (i:Int)] 3)).drew:=(((aC.refl _ _).alloc _).alloc _).drew;have Kba:aC (fun k=>av.ownBlock=some k) w5 ((w5.alloc (.cells #[.int .i64 (i:Int)] 3)).alloc (.cells #[.bool true] 4)).drew:=(((aC.refl _ _).alloc _).alloc _).drew;have Ra:(w5.alloc (.cells #[.bool true] 4)).drew.ownsRow 0 4 1 av al.length (al.map Value.bool):=aY (S:=fun _=>False) HAR.out (((aC.refl _ _).alloc _).drew) (fun _ _ h=>h);have Rab:((w5.alloc (.cells #[.bool true] 4)).alloc (.cells #[.int .i64 (i:Int)] 3)).drew.ownsRow 0 4 1 av al.length (al.map Value.bool):=aY (S:=fun _=>False) HAR.out ((((aC.refl _ _).alloc _).alloc _).drew) (fun _ _ h=>h);have Rba:((w5.alloc (.cells #[.int .i64 (i:Int)] 3)).alloc (.cells #[.bool true] 4)).drew.ownsRow 0 4 1 av al.length (al.map Value.bool):=aY (S:=fun _=>False) HAR.out ((((aC.refl _ _).alloc _).alloc _).drew) (fun _ _ h=>h);refine ak.cons rfl (fun K hK=>?_) (ak.cons rfl (fun K hK=>?_) ak.nil);go_simp;refine hK _ _ (fun _ _=>⟨⟨_,Ka⟩,rfl⟩) ?_;clear hK K;refine az [7,13] (by kernel_rfl) (by simp) ?_;refine ak.cons rfl (fun K hK=>?_) (ak.cons rfl (fun K hK=>?_) ak.nil);refine bM Az 0 Ra [.bool true] rfl (by simp[Value.oneCell']) rfl (.tmp 54) (.tmp 55) rfl rfl _ rfl (lX _ _) (by unfold maxLen;omega) (by omega) (bC _) ?_;intro ga ca u2 hA hg qK hlt;have TS:av.ownBlock=some ga\/w5.heap.size<=ga:=qK.imp id fun e=>by rw[e];simp
  have K2:=Ka.grown hg (fun k e=>.inl e);refine hK _ _ (fun _ _=>⟨⟨_,K2⟩,rfl⟩) ?_;clear hK K qK;refine az [13] (by kernel_rfl) (by simp) ?_;refine ak.cons rfl (fun K hK=>?_) ak.nil;go_simp;refine hK _ _ (fun _ _=>⟨⟨_,K2.alloc _⟩,rfl⟩) ?_;clear hK K;have LIT:=dE u2 (.cells #[.int .i64 (i:Int)] 3);have K3:=K2.alloc (.cells #[.int .i64 (i:Int)] 3);have hA3:=hA.alloc (.cells #[.int .i64 (i:Int)] 3);have adn:ga<(u2.alloc (.cells #[.int .i64 (i:Int)] 3)).heap.size:=by simp;omega
  clear hg K2 hA hlt;generalize u2.alloc (.cells #[.int .i64 (i:Int)] 3)=u3 at*;generalize u2.heap.size=lb at*;clear u2
  rotate_left
  go_simp;refine hK _ _ (fun _ _=>⟨⟨_,Kab⟩,rfl⟩) ?_;clear hK K;refine az [7] (by kernel_rfl) (by simp) ?_;refine ak.cons rfl (fun K hK=>?_) ak.nil;refine bM Az 0 Rab [.bool true] rfl (by simp[Value.oneCell']) rfl (.tmp 54) (.tmp 55) rfl rfl _ rfl (GQ _ _ _) (by unfold maxLen;omega) (by omega) (bC _) ?_;intro ga ca u3 hA3 hg qK adn;have TS:av.ownBlock=some ga\/w5.heap.size<=ga:=qK.imp id fun e=>by rw[e];simp;omega
  have K3:=Kab.grown hg (fun k e=>.inl e);refine hK _ _ (fun _ _=>⟨⟨_,K3⟩,rfl⟩) ?_;clear hK K qK;have LIT:=(hg.block (w5.heap.size+1) (by simp) (fun e=>by have:=HVA.out _ e.symm;omega)).trans (GR w5 (.cells #[.bool true] 4) (.cells #[.int .i64 (i:Int)] 3));clear hg;obtain⟨lb,Sl⟩:∃lb,lb=w5.heap.size+1:=⟨_,rfl⟩;rw[<-Sl]at LIT;rw[<-Sl];clear Sl
  rotate_left
  go_simp;refine hK _ _ (fun _ _=>⟨⟨_,((aC.refl _ _).alloc (.cells #[.int .i64 (i:Int)] 3)).drew⟩,rfl⟩) ?_;clear hK K;refine az [6] (by kernel_rfl) (by simp) ?_;refine ak.cons rfl (fun K hK=>?_) ak.nil;go_simp;refine hK _ _ (fun _ _=>⟨⟨_,Kba⟩,rfl⟩) ?_;clear hK K;refine az [7] (by kernel_rfl) (by simp) ?_;refine ak.cons rfl (fun K hK=>?_) ak.nil;refine bM Az 0 Rba [.bool true] rfl (by simp[Value.oneCell']) rfl (.tmp 54) (.tmp 55) rfl rfl _ rfl (GR _ _ _) (by unfold maxLen;omega) (by omega) (bC _) ?_;intro ga ca u3 hA3 hg qK adn;have TS:av.ownBlock=some ga\/w5.heap.size<=ga:=qK.imp id fun e=>by rw[e];simp;omega
  have K3:=Kba.grown hg (fun k e=>.inl e);refine hK _ _ (fun _ _=>⟨⟨_,K3⟩,rfl⟩) ?_;clear hK K qK;have LIT:=(hg.block w5.heap.size (by simp;omega) (fun e=>by have:=HVA.out _ e.symm;omega)).trans (GQ w5 (.cells #[.int .i64 (i:Int)] 3) (.cells #[.bool true] 4));clear hg;obtain⟨lb,Sl⟩:∃lb,lb=w5.heap.size:=⟨_,rfl⟩;rw[<-Sl]at LIT;rw[<-Sl];clear Sl
  all_goals
   refine az [14] (by kernel_rfl) (by simp) ?_;refine ak.cons rfl (fun K hK=>?_) ak.nil;refine bM oU 0 (aY HLR.out K3 (fun gb e e2=>aoq.out gb e2 e)) [.int .i64 (i:Int)] rfl (by simp[Value.oneCell']) rfl (.tmp 60) (.tmp 62) rfl rfl _ rfl LIT (by unfold maxLen;omega) (by omega) (bC _) ?_;intro gl cl u4 hL hg qK aEy;have Uk:lv.ownBlock=some gl\/w5.heap.size<=gl:=qK.imp id fun e=>by rw[e];exact K3.size
   have K4:aC (fun k=>av.ownBlock=some k\/lv.ownBlock=some k) w5 u4:=(K3.mono fun k h=>.inl h).grown hg (fun k e=>.inl (.inr e));refine hK _ _ (fun _ h=>absurd (by decide) h) ?_;have hA4:=aY hA3 ((aC.refl (fun k=>lv.ownBlock=some k) u3).grown hg fun k e=>.inl e) (fun gb e e2=>by
    have e3:ga=gb:=by injection e
    rcases TS with h9|h9
    .exact aoq.out ga h9 (by rw[e3];exact e2)
    .have:=HVL.out gb e2;omega)
   have hb4:=bL K4 Pd.out (fun e=>e.elim (fun e=>HNA.out e) (fun e=>HNL.out e));have z4:u4.cell? ⟨Hb,4,none⟩=some av:=by simp only[World.cell?,hb4];rfl
   have z5:u4.cell? ⟨Hb,5,none⟩=some lv:=by simp only[World.cell?,hb4];rfl
   have fz:∀j,u4.frozen? ⟨Hb,j,none⟩=false:=fun j=>by simp[World.frozen?,hb4]
   clear hK K qK hg LIT K3 hA3;refine aK [15,16,17,18,19,20] _ _ _ (by kernel_rfl) ?_;simp only[pick,bz,bA,bu,aS,aT]
   go_wp2_with fail
   go_meet;have avA:ga≠Hb:=fun e=>TS.elim (fun h=>HNA.out (by rw[h,e])) fun h=>by omega
   have avB:gl≠Hb:=fun e=>Uk.elim (fun h=>HNL.out (by rw[h,e])) fun h=>by omega
   have Rt:=K4.size;have o7:(u4.setCell ⟨Hb,4,none⟩ (.slice (some ⟨ga,0,none⟩) (al.length+1) ca)).heap[Hb]? =some (Obj.cells (xX Cb mb tv (.slice (some ⟨ga,0,none⟩) (al.length+1) ca) lv) sF (0,0)):=by
    rw[dH u4 Hb 4 _ _ _ hb4];rfl
   have jR:((u4.setCell ⟨Hb,4,none⟩ (.slice (some ⟨ga,0,none⟩) (al.length+1) ca)).setCell ⟨Hb,5,none⟩ (.slice (some ⟨gl,0,none⟩) (al.length+1) cl)).heap[Hb]? =some (Obj.cells (xX Cb mb tv (.slice (some ⟨ga,0,none⟩) (al.length+1) ca) (.slice (some ⟨gl,0,none⟩) (al.length+1) cl)) sF (0,0)):=by
    rw[dH _ Hb 5 _ _ _ o7];rfl
   have K5:aC (fun k=>k=Hb\/av.ownBlock=some k\/lv.ownBlock=some k) w5 ((u4.setCell ⟨Hb,4,none⟩ (.slice (some ⟨ga,0,none⟩) (al.length+1) ca)).setCell ⟨Hb,5,none⟩ (.slice (some ⟨gl,0,none⟩) (al.length+1) cl)):=((K4.mono fun k h=>.inr h).set (a:=⟨Hb,4,none⟩) _ (.inl (.inl rfl))).set (a:=⟨Hb,5,none⟩) _ (.inl (.inl rfl));have Kh:aC (fun k=>k=Hb) u4 ((u4.setCell ⟨Hb,4,none⟩ (.slice (some ⟨ga,0,none⟩) (al.length+1) ca)).setCell ⟨Hb,5,none⟩ (.slice (some ⟨gl,0,none⟩) (al.length+1) cl)):=((aC.refl (fun k=>k=Hb) u4).set (a:=⟨Hb,4,none⟩) _ (.inl rfl)).set (a:=⟨Hb,5,none⟩) _ (.inl rfl);rw[uy]at hL;have r1:=aY hA4 Kh (fun gb e e2=>avA (by have e3:ga=gb:=(by injection e);rw[e3];exact e2));have r2:=aY hL Kh (fun gb e e2=>avB (by have e3:gl=gb:=(by injection e);rw[e3];exact e2));refine⟨_,_,(H5.out.aiX (al':=al++[true]) (lev':=eY++[(i:Int)]) K5 jR (by rw[bF,dh];exact r1) (by rw[bF,dh,uy];exact r2)).more (fun k hk=>?_),Uk.elim (fun h=>.inl h.symm) (fun h=>.inr ⟨gl,rfl,by omega⟩),K5⟩;have hsz:((u4.setCell ⟨Hb,4,none⟩ (.slice (some ⟨ga,0,none⟩) (al.length+1) ca)).setCell ⟨Hb,5,none⟩ (.slice (some ⟨gl,0,none⟩) (al.length+1) cl)).heap.size=u4.heap.size:=by simp
   rcases hk with(hk|hk)|hk|hk
   .exact .inl hk
   .exact .inr ⟨hk.1,by omega⟩
   .have e3:ga=k:=by injection hk
    have h8:=(r1.lt ga rfl).2;rcases TS with h9|h9
    .exact .inl (e3▸HR.out.jJ.2.2.2.2.2.1 ga h9)
    .exact .inr ⟨by omega,by omega⟩
   .have e3:gl=k:=by injection hk
    have h8:=(r2.lt gl rfl).2;rcases Uk with h9|h9
    .exact .inl (e3▸HR.out.jJ.2.2.2.2.2.2 gl h9)
    .exact .inr ⟨by omega,by omega⟩
 case rest=>
  obtain⟨av6,lv6,H6,Oc,lD⟩:=hcut;obtain⟨w6,rO⟩:∃w6:World,w6=wc:=⟨_,rfl⟩;subst rO;have Xh:=lD.out.size;have HO6:=ae (aY aop.out lD.out (fun gb e h=>by
   have h1:w4.heap.size<=gb:=(aop.out.lt gb e).1;have h2:=HR.out.lt;rcases h with h|h|h
   .omega
   .have:=(HR.out.dR.lt gb h).2;omega
   .have:=(HR.out.oI.lt gb h).2;omega))
  obtain⟨ta,tc,Np,-,-,-⟩:=Rd.aL (enc:=vTr) H6.out.jY;have ETV:=ae Np;have c3:=H6.out.cell.2.2.2.1;rw[Np]at c3;clear Np;obtain⟨mn,aot,avC,hmn⟩:∃mn:Nat,mn=min i T.length/\mn<=T.length/\min (i:Int) (T.length:Int)=(mn:Int):=⟨min i T.length,rfl,by omega,by omega⟩;have HMN:=ae aot;clear aot;have LM:Hid (jr w6 (fun k=>X k\/w.heap.size<=k/\k<w6.heap.size) Hb Cb mb cv5 tv av6 lv6 ch5 (xZ T 0) (al++[true]) (eY++[(i:Int)]) (A++[((x,y,d),(al.length:Int))]) (N+1) wk5):=by rw[Vv];exact H6.out
  have HTL:Hid (∀gb,tv.ownBlock=some gb->gb<w.heap.size):=fun gb e=>(HR.out.jY.lt gb e).2
  go_upto_block 0 with fail
  go_cut [11,75]from 76 to 85 (fun bv iv wx=>Hid (jr wx (fun k=>X k\/w.heap.size<=k/\k<w6.heap.size) Hb Cb mb cv5 tv av6 lv6 ch5 (xZ T mn) (al++[true]) (eY++[(i:Int)]) (A++[((x,y,d),(al.length:Int))]) (N+1) wk5)/\Hid (aC (fun k=>tv.ownBlock=some k) w6 wx))
  case first=>
   go_wp2_with fail
   go_loopw [75] (fun iv wr=>∃n:Nat,iv=.int .i64 n/\n<=mn/\Hid (jr wr (fun k=>X k\/w.heap.size<=k/\k<w6.heap.size) Hb Cb mb cv5 tv av6 lv6 ch5 (xZ T n) (al++[true]) (eY++[(i:Int)]) (A++[((x,y,d),(al.length:Int))]) (N+1) wk5)/\Hid (aC (fun k=>tv.ownBlock=some k) w6 wr)) (fun iv _=>mn-(intOf iv).toNat)
   case atStart=>exact⟨0,rfl,bC _,LM,aC.refl _ _⟩
   case round=>
    obtain⟨n,rfl,hn,HC,HK⟩:=hrel;by_cases hlt:n<mn
    .have hlen:=FZ (T:=T) (n:=n) (by omega);obtain⟨gt,tc2,et2,-,hgt,-,-⟩:=bf HC.out.jY (by omega);have hzc:=HC.out.jY;rw[hlen]at et2 hzc;rw[et2]at hzc;have zt:=hzc.cellAt n (by omega);rw[dD (by rw[cu];omega)]at zt;have ft:=hzc.frozenAt n;have HP9:Hid (jr (wr.setCell ⟨gt,n,none⟩ (vTr none)) (fun k=>X k\/w.heap.size<=k/\k<w6.heap.size) Hb Cb mb cv5 tv av6 lv6 ch5 (xZ T (n+1)) (al++[true]) (eY++[(i:Int)]) (A++[((x,y,d),(al.length:Int))]) (N+1) wk5):=by
      have h1:=HC.out;rw[et2]at h1 |-;rw[<-Z4 (by omega)];exact h1.an5 n none
     have JP:Hid (aC (fun k=>tv.ownBlock=some k) w6 (wr.setCell ⟨gt,n,none⟩ (vTr none))):=HK.out.set _ (.inl (by rw[et2];rfl));have c3:=HC.out.cell.2.2.2.1;rw[et2]at c3;have hni:(n:Int)<(T.length:Int):=by omega
     have hnm:(n:Int)<(mn:Int):=by omega
     clear et2 hzc;go_wp2;go_roundw
     case rel=>exact⟨n+1,by go_num,by omega,HP9,JP⟩
     case measure=>simp[intOf];omega
    .obtain rfl:n=mn:=by omega
     have hge:¬(n:Int)<(n:Int):=by omega
     go_wp2_with fail
     go_meet;exact⟨HC,HK⟩
  case rest=>
   obtain⟨H9,JP⟩:=hcut;obtain⟨w9,Cw⟩:∃w9:World,w9=wc:=⟨_,rfl⟩;subst Cw;have Zw:=JP.out.size;have HO9:=ae (aY HO6.out JP.out (fun gb e h=>by
    have h1:w4.heap.size<=gb:=(HO6.out.lt gb e).1;have:=HTL.out gb h;omega))
   obtain⟨va,vc,rfl,-,-,ZW⟩:=TN.aL HO9.out;have j6:=HW.out.add oh (x,y,d) yo TY.out (by omega) i (by simpa using hi) (fun j hj oK=>by rw[fZ];exact vP.out j (by simpa using hj) oK) (fun hj=>by rw[fZ];exact Jp.out (by simpa using hj));have kE:i<(kX (ch.map (·.2.1)) i ((x,y,d),(al.length:Int))).length:=by rw[qE _ _ _ (by simpa using hi)];split<;>omega
   have nX:(kX (ch.map (·.2.1)) i ((x,y,d),(al.length:Int)))[i]=eu (ch.map (·.2.1)) i++[((x,y,d),(al.length:Int))]:=by rw[qF,aP (by omega),aR rfl]
   have qK:=j6.bk i kE;have Z7:=j6.few i kE;rw[nX]at qK Z7;have avD:=ae j6;have hX9:∀k,(X k\/w.heap.size<=k/\k<w6.heap.size)->k<w9.heap.size:=fun k hk=>by
    rcases hk with hk|hk
    .have:=(HX.out k hk).1;omega
    .omega
   have FL:=ae (Sz H9.out va vc (eu (ch.map (·.2.1)) i++[((x,y,d),(al.length:Int))]) i ZW (by omega) (by rw[FZ (by omega)];omega) Z7 qK.2.2 (by simp[HV.out.PQ]) (by simp;omega) qK.1 qK.2.1 hX9);have Ee:0<(eu (ch.map (·.2.1)) i++[((x,y,d),(al.length:Int))]).length:=by simp
   generalize hJ:eu (ch.map (·.2.1)) i++[((x,y,d),(al.length:Int))]=J at*;have HJ:=ae hJ;clear j6 nX qK hJ ZW kE
   go_wp2_with fail
   refine FL.out.mono ?_;rintro e sH ⟨rfl,tv',tb,mm,Fn,aov,aow,hFn,aox,-,aoy⟩;have adx:=ae aov;have Z8:=ae aow;have HFn:=ae hFn;have avE:=ae aox;have Fj:=ae aoy;clear aov aow hFn aox aoy FL;go_wp2;go_ret2;have hJl:=congrArg List.length HJ.out;rw[bF,Dt]at hJl;have avF:=Fj.out.size;obtain⟨G7,Wi⟩:=avE.out;have Wh:w.heap.size<=mm:=by omega
   have hKt:aC (fun k=>k=Hb\/k=Cb\/k=mb\/cv.ownBlock=some k\/tv.ownBlock=some k\/av.ownBlock=some k\/lv.ownBlock=some k) w sH:=by
    refine aC.strip ((((mo.out.mono fun k h=>?_).trans (lD.out.mono fun k h=>?_)).trans (JP.out.mono fun k h=>?_)).trans (Fj.out.mono fun k h=>?_))
    .rcases h with h|h|h
     .exact .inl (.inr (.inr (.inl h)))
     .exact .inl (.inr (.inl h))
     .exact .inl (.inr (.inr (.inr (.inl h))))
    .rcases h with h|h|h
     .exact .inl (.inl h)
     .exact .inl (.inr (.inr (.inr (.inr (.inr (.inl h))))))
     .exact .inl (.inr (.inr (.inr (.inr (.inr (.inr h))))))
    .exact .inl (.inr (.inr (.inr (.inr (.inl h)))))
    .rcases h with h|h|h
     .exact .inl (.inl h)
     .exact .inl (.inr (.inr (.inr (.inr (.inl h)))))
     .rcases Oc.out with h9|⟨b,h9,h8⟩
      .exact .inl (.inr (.inr (.inr (.inr (.inr (.inr (h9.symm.trans h)))))))
      .rw[h9]at h;injection h with h;exact .inr (by omega)
   have htr:=(HT.out.kept hKt (HR.out.aoj HT.out)).step (X':=fun k=>(X k\/w.heap.size<=k/\k<w6.heap.size)\/w9.heap.size<=k/\k<mm) (i:=i) (m0:=w.heap.size) (m:=mm) (CB':=kX (ch.map (·.2.1)) i ((x,y,d),(al.length:Int))) (T':=CJ (xZ T mn) i tb) Z8.out (by unfold uI;rw[cu];exact gG _ _) (fun j hj hne=>by
     rw[qF]at hne |-;by_cases h1:j<i
     .rw[aR h1]at hne;exact absurd rfl hne
     .rw[aP h1]at hne |-;by_cases h2:j=i
      .left;rw[aR h2,h2];exact⟨rfl,HJ.out⟩
      .right;rw[aP h2]at hne |-;have OH:j<(ch.map (·.2.1)).length:=by rw[qE _ _ _ (by simpa using hi)]at hj;split at hj<;>omega
       rw[jy,dD OH,fV];refine⟨h2,OH,rfl,fun q hq=>SA h2 (by rw[Z5 (by have:=HMN.out;omega)];exact hq),?_⟩;unfold uI;rw[RJ HW.out true fun q hq=>HW.out.inl OH hq]) Nr (fun k hk=>by
     rcases hk with(hk|hk)|hk
     .exact .inl hk
     .exact .inr ⟨hk.1,by omega⟩
     .exact .inr ⟨by omega,hk.2⟩) HFn.out (fun j k hk=>HT.out.lt j k hk) (fun k hk=>bJ (HX.out k hk).1 Wh) Wh
   have hlv:=HV.out.add HW.out (x,y,d) i (by simpa using hi);rw[HJ.out,<-Vx.out]at hlv;rw[<-Vx.out]at htr;have hpy:=HP.out.add HW.out.PR.1 (bO (Cj HW.out) xE) i (by simpa using hi) HW.out.size (fun j hj oK=>by rw[fZ];exact vP.out j (by simpa using hj) oK) (fun hj=>by rw[fZ];exact Jp.out (by simpa using hj)) ((x,y,d),(al.length:Int));have j6:=avD.out;rw[<-Vx.out]at j6 hpy;have aoz:SC (ch5.map (·.2.1)) (A.length+1) (wk+(J.length:Int)) (m+1):=by
    rw[<-hJl];exact hpy
   have ni:wk5=wk+(J.length:Int):=(HWK.out.trans (congrArg (fun z=>wrap64 (wk+z)) (show _=(J.length:Int) by rw[<-hJl];rfl))).trans (IntWalk.wrap64_in _ (by have h1:=aoz.bound (by omega);have h2:=HP.out.1;omega));have aoA:=HW.out.adC i (by simpa using hi) (fun j hj oK=>by rw[fZ];exact vP.out j (by simpa using hj) oK) (fun hj=>by rw[fZ];exact Jp.out (by simpa using hj));rw[hJl]at aoA;refine⟨J.length,al.length,aoA,rfl,⟨_,_,Cb,mb,cv5,tv',av6,lv6,ch5,CJ (xZ T mn) i tb,al++[true],iJ (eY++[(i:Int)]) J i,?_,j6,hlv,htr,?_,Ns (by rw[FZ avC];exact Z0) (by omega),fun k hk=>?_,?_,by simp;omega,?_⟩,hKt.mono ?_⟩
   .rw[<-ni];exact adx.out
   .rw[bF,Dt];omega
   .rcases hk with(hk|hk)|hk
    .exact⟨by have:=(HX.out k hk).1;omega,.inl (HX.out k hk).2⟩
    .exact⟨by omega,.inr hk.1⟩
    .exact⟨by omega,.inr (by omega)⟩
   .rintro j k (⟨-,hk⟩|⟨-,hk⟩)
    .have:=HFn.out k hk;exact .inr (by omega)
    .exact .inl (HF.out j k hk)
   .rw[bF,Dt];exact aoz
   .have hg:∀k,X k->G k:=fun k hk=>(HX.out k hk).2;rintro k (rfl|rfl|rfl|h|h|h|h)
    .exact hg _ HR.out.jJ.1
    .exact hg _ HR.out.jJ.2.1
    .exact hg _ HR.out.jJ.2.2.1
    .exact hg _ (HR.out.jJ.2.2.2.1 k h)
    .exact hg _ (HR.out.jJ.2.2.2.2.1 k h)
    .exact hg _ (HR.out.jJ.2.2.2.2.2.1 k h)
    .exact hg _ (HR.out.jJ.2.2.2.2.2.2 k h)
end
end Go.Proofs.YtkjdbndekceffaaGreat
namespace Go.Proofs.YtkjdbndekceffaaGreat
open Go.RowKit Go.Sort Go.Shelf Go.Lib Go.Maps
attribute [local irreducible] wpQuiet
section
variable {w w':World} {S G:Nat->Prop} {Hb m:Nat} {A:List eX} {N wk:Int}
theorem kS.kept (h:kS w Hb G m A N wk) (K:aC S w w') (hS:∀k,G k->¬S k):kS w' Hb G m A N wk:=by
 obtain⟨X,F,Cb,mb,cv,tv,av,lv,ch,T,al,eY,h1,h2,h3,h4,h5,h6,h7,h8,h9⟩:=h;exact⟨X,F,Cb,mb,cv,tv,av,lv,ch,T,al,eY,h1.kept K fun k hk=>hS k (h7 k hk).2,h2,h3,h4.kept K fun i k hk=>hS k (h8 i k hk),h5,h6,fun k hk=>⟨bJ (h7 k hk).1 K.size,(h7 k hk).2⟩,h8,h9⟩
theorem kS.facts (h:kS w Hb G m A N wk):(A.length:Int)<=N/\N<=2*A.length/\N<=m/\(ids (A.map (·.1))).Nodup/\(∀c∈A,KM c.1)/\0<=wk/\(∀L,m<2^L->wk<=(L*m:Nat))/\Hb<w.heap.size/\G Hb:=by
 obtain⟨X,F,Cb,mb,cv,tv,av,lv,ch,T,al,eY,h1,h2,h3,h4,h5,h6,h7,h8,h9,h10⟩:=h;have e1:=h2.stored;have e2:=h2.PR.1;have e3:=Cj h2;refine⟨by omega,h5,by omega,h2.keys,fun c hc=>h2.good c (bQ.1 (h2.live.mem_iff.1 hc)).1,h10.1,fun L hL=>?_,h1.lt,(h7 _ h1.jJ.1).2⟩;have:=h10.2 L hL;omega
theorem aoB (h:kS w Hb G m A N wk):aO 60 #[ay Hb] w fun e w'=>e=.returned (ag A.length)/\w'=w:=by
 obtain⟨X,F,Cb,mb,cv,tv,av,lv,ch,T,al,eY,h1,h9⟩:=h;exact aiL h1
structure zH (w:World) (G:Nat->Prop) (F:Nat->Nat->Prop) (B:List (Nat×Nat×List Pt)):Prop where
 bk:∀(i:Nat) (h:i<B.length),Bk w (F i) B[i].1 B[i].2.1 B[i].2.2
 inG:∀i k,F i k->G k
 ap:∀i j k,F i k->F j k->i=j
def CK (B:List (Nat×Nat×List Pt)):List Pt:=B.flatMap fun b=>b.2.2
theorem zH.kept {F:Nat->Nat->Prop} {B:List (Nat×Nat×List Pt)} (h:zH w G F B) (K:aC S w w') (hS:∀k,G k->¬S k):zH w' G F B:=⟨fun i hi=>(h.bk i hi).kept K fun k hk=>hS k (h.inG i k hk),h.inG,h.ap⟩
theorem aoC (w:World):aO 51 #[BH,Ia] w fun e w'=>e=.returned (ay (w.heap.size+2))/\kS w' (w.heap.size+2) (fun k=>w.heap.size<=k) 0 [] 0 0/\Below w.heap.size w w':=by
 have XR:=@run_makeMap Tryz.prog;have q1:∀w,(binOp .eql 107 BH .nilFunc).run Tryz.prog w=.ok (.bool false) w:=fun w=>by
  have h:∀d:Nat,(Op.equalIn (d+1) 107 BH .nilFunc).run Tryz.prog w=.ok false w:=fun d=>by simp[Op.equalIn,pM Tryz.underlying107]
  simp only[binOp];simp[Op.equal,Op.maxDepth,h 9999]
 have q2:∀w,(binOp .eql 108 Ia .nilFunc).run Tryz.prog w=.ok (.bool false) w:=fun w=>by
  have h:∀d:Nat,(Op.equalIn (d+1) 108 Ia .nilFunc).run Tryz.prog w=.ok false w:=fun d=>by simp[Op.equalIn,pM Tryz.underlying108]
  simp only[binOp];simp[Op.equal,Op.maxDepth,h 9999]
 go_enter Tryz.func51,Tryz.ntmps51;go_wp2;go_ret;have s1:(w.alloc (.cells #[.bool true,aN,ag 0,ag 0] 278)).heap.size=w.heap.size+1:=by simp
 have s2:((w.alloc (.cells #[.bool true,aN,ag 0,ag 0] 278)).alloc (.map #[] 0)).heap.size=w.heap.size+2:=by simp
 have c0:=dE w (.cells #[.bool true,aN,ag 0,ag 0] 278);have c1:=wO (w.alloc (.cells #[.bool true,aN,ag 0,ag 0] 278)) (.map #[] 0);have m1:mr ((w.alloc (.cells #[.bool true,aN,ag 0,ag 0] 278)).alloc (.map #[] 0)) (w.heap.size+1) []:=by
  rw[<-s1];exact⟨.map [],DF _ _ _ _,uz.empty⟩
 have b1:Below w.heap.size w (((w.alloc (.cells #[.bool true,aN,ag 0,ag 0] 278)).alloc (.map #[] 0)).alloc (.cells (xX w.heap.size (w.heap.size+1) (aN) (aN) (aN)) sF)):=(((aM _ _).alloc (aG _) _).alloc (by simp) _).alloc (by simp;omega) _;have c3:=dE ((w.alloc (.cells #[.bool true,aN,ag 0,ag 0] 278)).alloc (.map #[] 0)) (.cells (xX w.heap.size (w.heap.size+1) (aN) (aN) (aN)) sF);rw[s2]at c3;refine⟨rfl,⟨fun k=>w.heap.size<=k/\k<w.heap.size+3,fun _ _=>False,w.heap.size,w.heap.size+1,aN,aN,aN,aN,[],[],[],[],⟨c3,⟨bC _,ar1,(dB _ _ _ (by simp;omega)).trans ((dB _ _ _ (by simp)).trans c0),dL _ _ _ _⟩,fun h hh=>absurd hh jC,dL _ _ _ _,dL _ _ _ _,dL _ _ _ _,m1.same (dB _ _ _ (by simp)),⟨by omega,by omega,by omega,(fun k e=>by cases e),(fun k e=>by cases e),(fun k e=>by cases e),(fun k e=>by cases e)⟩,fun h hh=>absurd hh jC⟩,ahD,ahE,⟨fun i h=>absurd h (ll _),fun _ _ h=>h.elim,fun _ _ _ h=>h.elim,fun _ _ h=>h.elim⟩,by simp,by simp,fun k hk=>⟨by simp;omega,hk.1⟩,fun _ _ h=>h.elim,aG _,aej⟩,b1⟩
end
end Go.Proofs.YtkjdbndekceffaaGreat
namespace Go.Proofs.YtkjdbndekceffaaGreat
open Go.RowKit Go.Sort Go.Shelf Go.Lib Go.Maps
theorem uQ {α β:Type} (p:α->Bool) (f:α->List β):∀(l:List α),(∀x∈l,p x=false->f x=[])->(l.filter p).flatMap f=l.flatMap f
 |[],_=>rfl
 |x::l,h=>by
  have ih:=uQ p f l fun y hy=>h y (lU _ hy);rw[mV,oP];cases hp:p x with
  |true=>rw[aR rfl,oP,ih]
  |false=>rw[aP (by simp),h x sQ hp,iV,ih]
theorem Z9 {CB:List (List eX)} {i:Nat} (h:i∈dN CB 0):∃hi:i<CB.length,CB[i]≠[]:=by
 unfold dN at h;obtain⟨h1,h2⟩:=bQ.1 h;have hi:i<CB.length:=by simpa using h1
 rw[jy,dD hi,fV]at h2;exact⟨hi,fun e=>by rw[e]at h2;cases h2⟩
theorem Vy {CB:List (List eX)} {i:Nat} (hi:i<CB.length) (h:CB[i]≠[]):i∈dN CB 0:=by
 unfold dN;refine bQ.2 ⟨by simpa using hi,?_⟩;rw[jy,dD hi,fV];cases e:CB[i]with
 |nil=>exact absurd e h
 |cons=>rfl
theorem QQ (CB:List (List eX)):(dN CB 0).Nodup:=by
 unfold dN;refine mQ _ ?_;rw[lI];exact(wV _).nodup_iff.2 List.nodup_range
theorem aaa (CB:List (List eX)):((dN CB 0).flatMap fun i=>CB.getD i []).Perm CB.flatten:=by
 unfold dN;rw[uQ _ _ _ fun i _ hi=>by simpa using hi,lI];refine((wV _).flatMap_right _).trans (List.Perm.of_eq ?_);rw[DT];congr 1;refine tO (by simp) fun i h1 h2=>?_;rw[fZ,zW,jy,dD h2,fV]
section
variable {w w':World} {S G:Nat->Prop} {Hb m:Nat} {A:List eX} {N wk:Int}
def pTr (b:Nat×Nat×List Pt):Value:=ay b.1
def aoE (w:World) (Hb:Nat) (G:Nat->Prop) (m:Nat) (A:List eX) (N wk:Int) (e:Ending) (w':World):Prop:=
 ∃(v:Value) (B:List (Nat×Nat×List Pt)) (F:Nat->Nat->Prop),e=.returned v/\w'.ownsRow w.heap.size 106 1 v B.length (B.map pTr)/\Below w.heap.size w w'/\zH w' G F B/\(CK B).Perm (A.map (·.1))/\(B.length≠0->2^(B.length-1)<=N)/\(∀b∈B,(b.2.1:Int)<=N/\b.2.1<=20000)/\B.length<=13/\
  ∀w2 F2 (G2:Nat->Prop),aC (fun k=>∃i,F i k) w' w2->zH w2 G2 F2 B->(∀k,G k->G2 k)->(∀i k,F2 i k->F i k\/w'.heap.size<=k)->kS w2 Hb G2 m A N wk
theorem aem (h:kS w Hb G m A N wk):aO 61 #[ay Hb] w (aoE w Hb G m A N wk):=by
 obtain⟨X,F,Cb,mb,cv,tv,av,lv,ch,T,al,eY,hr,hw,hv,ht,oh,Z0,hX,hF,xE,QP⟩:=h;have hTl:∀(i:Nat) (hi:i<(ch.map (·.2.1)).length),(ch.map (·.2.1))[i]≠[]->i<T.length:=fun i hi hne=>by
  obtain⟨tb,n0,h1,-⟩:=ht.tr i hi hne;exact(gD.1 h1).1
 refine(ZR hr hw hTl).mono ?_;rintro e w' ⟨v,rfl,hown,hb⟩;have zO:=hw.levels;have hst:=hw.stored;have Cr:=fun i hi=>hw.few i hi;have hlen:dN (ch.map (·.2.1)) 0≠[]->(dN (ch.map (·.2.1)) 0).length<=(ch.map (·.2.1)).length:=fun _=>vL _ _;have hlp:=hw.live;generalize hCB:ch.map (·.2.1)=CB at*;have hf:∀i:Nat,∃b:Nat×Nat×List Pt,i∈dN CB 0->T[i]? =some (some b.1)/\(b.2.1:Int)<=N/\b.2.1<=20000/\b.2.2=uI al (CB.getD i [])/\Bk w (F i) b.1 b.2.1 b.2.2/\b.2.1<=(CB.getD i []).length:=fun i=>by
  by_cases hi:i∈dN CB 0
  .obtain⟨h1,h2⟩:=Z9 hi;obtain⟨tb,n0,h3,h4,h5⟩:=ht.tr i h1 h2;have h6:CB[i].length<=CB.flatten.length:=(Ip (bW h1)).length_le;exact⟨(tb,n0,uI al CB[i]),fun _=>⟨h3,by show(n0:Int)<=N;omega,by show n0<=20000;omega,by rw[jy,dD h1,fV],h5,by rw[jy,dD h1,fV];exact h4⟩⟩
  .exact⟨(0,0,[]),fun h=>absurd h hi⟩
 obtain⟨f,hf⟩:=Classical.axiomOfChoice hf;have hB:(dN CB 0).map (trV T)=((dN CB 0).map f).map pTr:=by
  rw[xu];refine IK fun i hi=>?_;unfold trV;rw[jy,(hf i hi).1];rfl
 have xI:=QQ CB;refine⟨v,(dN CB 0).map f,fun p k=>∃hp:p<(dN CB 0).length,F (dN CB 0)[p] k,rfl,?_,hb,⟨fun p hp=>?_,fun p k hk=>hF _ k hk.2,fun p q k hp hq=>?_⟩,?_,fun h0=>?_,?_,?_,?_⟩
 .rw[<-hB,cu];exact hown
 .rw[cu]at hp;rw[fZ];have:(fun k=>∃hp:p<(dN CB 0).length,F (dN CB 0)[p] k)=F (dN CB 0)[p]:=by funext k;simp[hp]
  rw[this];exact((hf _ (bW hp)).2.2.2.2.1).below hb
 .obtain⟨h1,h2⟩:=hp;obtain⟨h3,h4⟩:=hq;exact(List.getElem_inj xI).1 (ht.ap _ _ k h2 h4)
 .have e1:CK ((dN CB 0).map f)=(((dN CB 0).flatMap fun i=>CB.getD i []).filter (dx al)).map (·.1):=by
   unfold CK;rw[List.flatMap_map,List.filter_flatMap,List.map_flatMap];rw[DT,DT];congr 1;exact IK fun i hi=>(hf i hi).2.2.2.1
  rw[e1];exact(((aaa CB).filter _).trans hlp.symm).map _
 .rw[cu]at h0 |-;have h1:=vL CB 0;have h2:=zO.2.2.2 (by omega);have h3:=Iz (n:=2) (by decide) (show(dN CB 0).length-1<=CB.length-1 by omega);have h4:((2:Int)^((dN CB 0).length-1))=((2^((dN CB 0).length-1):Nat):Int):=by simp
  rw[h4];omega
 .intro b hbm;obtain⟨i,hi,rfl⟩:=dY.1 hbm;exact⟨(hf i hi).2.1,(hf i hi).2.2.1⟩
 .rw[cu];have h1:=vL CB 0;omega
 .intro w2 F2 G2 K W2 hG hF2;have hs:=hb.size;have hs2:=K.size;have ML:pG w2 (fun i k=>∃p,∃hp:p<(dN CB 0).length,(dN CB 0)[p]=i/\F2 p k) X CB T al:=by
   refine⟨fun i hi hne=>?_,?_,?_,?_⟩
   .obtain⟨p,hp,rfl⟩:=jA (Vy hi hne);have h1:=hf _ (bW hp);have h2:=W2.bk p (by rw[cu];exact hp);rw[fZ]at h2;refine⟨_,(f (dN CB 0)[p]).2.1,h1.1,?_,?_⟩
    .have h3:=h1.2.2.2.2.2;rwa [jy,dD hi,fV]at h3
    .have e:(fun k=>∃q,∃hq:q<(dN CB 0).length,(dN CB 0)[q]=(dN CB 0)[p]/\F2 q k)=F2 p:=by
      funext k;refine propext ⟨?_,fun h=>⟨p,hp,rfl,h⟩⟩;rintro⟨q,hq,e1,e2⟩;rw[<-(List.getElem_inj xI).1 e1];exact e2
     have h3:=h1.2.2.2.1;rw[jy,dD hi,fV]at h3;rw[e,<-h3];exact h2
   .rintro i k ⟨p,hp,-,hk⟩ hx;rcases hF2 p k hk with⟨KU,h1⟩|h1
    .exact ht.off _ k h1 hx
    .have:=(hX k hx).1;omega
   .rintro i j k ⟨p,hp,e1,h1⟩ ⟨q,hq,e2,h2⟩;have:=W2.ap p q k h1 h2;subst this;rw[<-e1,<-e2]
   .rintro i k ⟨p,hp,-,hk⟩;exact(W2.bk p (by rw[cu];exact hp)).lt k hk
  exact⟨X,_,Cb,mb,cv,tv,av,lv,ch,T,al,eY,(hr.below hb).kept K (fun k hk h=>by obtain⟨p,hp,h1⟩:=h;exact ht.off _ k h1 hk),by rw[hCB];exact hw,by rw[hCB];exact hv,by rw[hCB];exact ML,oh,Z0,fun k hk=>⟨by have:=(hX k hk).1;omega,hG k (hX k hk).2⟩,(fun i k h=>by obtain⟨p,hp,-,hk⟩:=h;exact W2.inG p k hk),xE,by rw[hCB];exact QP⟩
end
end Go.Proofs.YtkjdbndekceffaaGreat
namespace Go.Proofs.YtkjdbndekceffaaGreat
open Go.RowKit Go.Sort Go.Shelf Go.Lib Go.Maps
attribute [local irreducible] wpQuiet
theorem ai3 (b off:Nat) (x y:Int) (w:World) (hc:w.cell? (ah b off)=some (ag x)) (hz:w.frozen? (ah b off)=false):
  aO 151 #[.pointer (some (ah b off)),ag y] w fun e w'=>e=.returned (ag (wrap64 (x+y)))/\w'=w.setCell (ah b off) (.int .i64 (wrap64 (x+y))):=by
 have j6:=run_call_add (P:=Tryz.prog) Tryz.func227 (by kernel_rfl) (by kernel_rfl) (by kernel_rfl) .i64 (by kernel_rfl) (y:=y) (s:=wrap64 (x+y)) hc hz (by rw[<-IntWalk.i64_left];simp[go_sem];try rfl);go_enter Tryz.func151,Tryz.ntmps151;go_wp2;go_ret;exact⟨rfl,rfl⟩
abbrev F3:TypeId:=74
section
variable {w:World} {Pb Hb:Nat} {dv av:Value} {jF:Int} {GH:Nat->Prop} {m:Nat} {A:List eX} {N wk:Int}
theorem zI (hblk:w.heap[Pb]? =some (Obj.cells #[ay Hb,dv,av,ag jF] F3 (0,0))):aO 55 #[ay Pb] w fun e w'=>e=.returned (.bool false)/\w'=w:=by
 have c0:w.cell? (ah Pb 0)=some (ay Hb):=by simp[World.cell?,hblk]
 clear hblk;go_enter Tryz.func55,Tryz.ntmps55;go_wp2;go_ret;exact⟨rfl,rfl⟩
def SumB (bd:Nat->Nat->Prop):Nat->Nat->Prop
 |0,n=>n=0
 |i+1,n=>∃n' t,SumB bd i n'/\bd i t/\n=n'+t
theorem SumB.le {bd:Nat->Nat->Prop} {b:Nat} (h:∀i t,bd i t->t<=b):∀{i n:Nat},SumB bd i n->n<=i*b
 |0,n,hn=>by simp[SumB]at hn;omega
 |i+1,n,hn=>by
  obtain⟨n',t,h1,h2,rfl⟩:=hn;have h3:=SumB.le h h1;have h4:=h i t h2;rw[Nat.succ_mul];omega
def avH (fn:FuncId) (cs:Array Value) (Sx:Nat->Prop) (Q:List (Nat×Nat×List Pt)->Nat->World->Prop) (w1:World) (B:List (Nat×Nat×List Pt)):Prop:=
 ∃(I:Nat->Nat->World->Prop),I 0 0 w1/\(∀i n u,I i n u->aC Sx w1 u)/\(∀i n u,I i n u->n<=i*1000000)/\(∀i n (hi:i<B.length) u,I i n u->aO fn (#[ay (B[i].1)]++cs) u fun e u'=>∃c:Nat,e=.returned (ag c)/\I (i+1) (n+c) u')/\∀n u,I B.length n u->Q B n u
def aoF (w:World) (Pb:Nat) (jF:Int) (Sx:Nat->Prop) (Q:List (Nat×Nat×List Pt)->Nat->World->Prop) (e:Ending) (w':World):Prop:=
 ∃(B:List (Nat×Nat×List Pt)) (jX:Nat) (u:World),e=.returned (ag jX)/\Q B jX u/\aC Sx w u/\w'=u.setCell (ah Pb 3) (.int .i64 (wrap64 (jF+jX)))
theorem SF {fn:FuncId} {cs:Array Value} {Sx:Nat->Prop} {Q:List (Nat×Nat×List Pt)->Nat->World->Prop} (ef:∀args w,(callFunc fn args).run Tryz.prog w=.ok (.enter fn args) w) (hblk:w.heap[Pb]? =some (Obj.cells #[ay Hb,dv,av,ag jF] F3 (0,0))) (h:kS w Hb GH m A N wk) (hSx:∀k,Sx k->k≠Pb/\k<w.heap.size)
  (nH:∀w1 B F,Below w.heap.size w w1->zH w1 GH F B->(CK B).Perm (A.map (·.1))->(B.length≠0->(2:Int)^(B.length-1)<=N)->(∀b∈B,(b.2.1:Int)<=N/\b.2.1<=20000)->B.length<=13->avH fn cs Sx Q w1 B):
  aO 69 #[ay Pb,.func (.func fn) #[] cs] w (aoF w Pb jF Sx Q):=by
 have CN:=ae (zI hblk);have CT:=ae (aem h);have c0:w.cell? (ah Pb 0)=some (ay Hb):=by simp[World.cell?,hblk]
 have BD:=ae nH;have KJ:=ae hSx;have Pd:=ae hblk;clear nH hSx hblk h;go_enter Tryz.func69,Tryz.ntmps69
 go_wp2_with (go_at_call 55;refine CN.out.mono ?_;rintro e w1 ⟨rfl,ew⟩;have kI:=ew.symm;clear ew;subst kI)
 refine CT.out.mono ?_;rintro e w1 ⟨v,B,F,rfl,hown,hb,hW,Ck,Vz,vE,h13,-⟩;obtain⟨I,WK,hIK,Mk,afG,hend⟩:=BD.out w1 B F hb hW Ck Vz vE h13;obtain⟨va,vc,rfl,-,-,-⟩:=Rd.aL (enc:=pTr) hown;have HOW:=ae hown;have HB:=ae hb;have HIK:=ae hIK;have aoG:=ae afG;have avI:=ae hend;have HC:=ae Mk;have OV:=ae WK;clear hown hb hIK afG hend WK hW Ck Vz vE Mk CT CN c0
 go_wp2_with fail
 go_loopw [16,5] (fun iv nv wr=>∃i n:Nat,iv=.int .i64 i/\nv=.int .i64 n/\i<=B.length/\Hid (I i n wr)) (fun iv _ _=>B.length-(intOf iv).toNat)
 case atStart=>exact⟨0,0,rfl,rfl,bC _,OV⟩
 case round=>
  obtain⟨i,n,rfl,rfl,hi,HI⟩:=hrel;have K:=ae (HIK.out i n wr HI.out);have hKw:Hid (aC Sx w wr):=⟨K.out.os.trans HB.out.os,K.out.tape.trans HB.out.tape,K.out.output.trans HB.out.output,bO HB.out.size K.out.size,fun k hk hn=>(K.out.block k (bJ hk HB.out.size) hn).trans (HB.out.block k hk)⟩;have hct:=HC.out i n wr HI.out;by_cases hlt:i<B.length
  .have hrow:=aY HOW.out K.out (fun gb e h9=>by have h1:=(HOW.out.lt gb e).1;have h2:=(KJ.out gb h9).2;omega);obtain⟨va',vc',ev,-,-,jE⟩:=Rd.aL (enc:=pTr) hrow;injection ev with ev _ ev2;subst ev ev2;obtain⟨ba,bo,ea,-,hcs⟩:=jE.get (by omega);have zb:=hcs i hlt;have CA:=ae (aoG.out i n hlt wr HI.out);unfold pTr at zb;subst ea;generalize B[i].1=tb at*;clear hcs jE hrow;have OC:(i:Int)<(B.length:Int):=by omega
   have aoH:(i+1)*1000000<=13*1000000:=qM _ (by omega)
   go_wp2_with (refine CA.out.mono ?_;rintro e u ⟨c,rfl,hI⟩;have hcn:=HC.out (i+1) (n+c) u hI;have hb1:(-9223372036854775808:Int)<=(n:Int)+(c:Int)/\(n:Int)+(c:Int)<=9223372036854775807:=(by omega);have HI2:=ae hI;clear hI)
   go_roundw
   case rel=>exact⟨i+1,n+c,by go_num,by go_num,by omega,HI2⟩
   case measure=>simp[intOf];omega
  .obtain rfl:i=B.length:=by omega
   have hge:¬(B.length:Int)<(B.length:Int):=by omega
   have hT:wr.heap[Pb]? =some (Obj.cells #[ay Hb,dv,av,ag jF] F3 (0,0)):=bL hKw.out Pd.out (fun h9=>(KJ.out Pb h9).1 rfl);have CA:=ae (ai3 Pb 3 jF n wr (by simp[World.cell?,hT]) (by simp[World.frozen?,hT]));clear hT
   go_wp2_with fail
   refine CA.out.mono ?_;rintro e w9 ⟨rfl,rfl⟩;go_wp2;go_ret;exact⟨B,n,wr,rfl,avI.out n wr HI.out,hKw.out,rfl⟩
end
theorem VA:∀args w,(callFunc 150 args).run Tryz.prog w=.ok (.enter 150 args) w:=dF Tryz.func150 (by kernel_rfl) rfl
theorem aab (l:List Int):l.map (Value.int .u32)=l.flatMap fun x=>[aJ x]:=by
 induction l with
 |nil=>rfl
 |cons x l ih=>simp[ih]
theorem aac {fn:FuncId} {cs:Array Value} (ef:∀args w,(callFunc fn args).run Tryz.prog w=.ok (.enter fn args) w) {u:World} {ab ob tb:Nat} {ov:Value} {acc R:List Int} {base:Nat} {bd:Nat->Prop} (ha:u.cell? (ah ab 0)=some (.func (.func fn) #[] cs)) (ho:u.heap[ob]? =some (Obj.cells #[ov] 35 (0,0))) (V6:ob<base) (hbu:base<=u.heap.size) (hrow:u.ownsRow base 27 1 ov acc.length (acc.map (Value.int .u32))) (hl:acc.length+R.length<=1000000)
  (hc:aO fn (#[ay tb]++cs) u fun e u'=>∃(v:Value) (c:Nat),e=.returned (.tuple #[v,ag (c:Nat)])/\bd c/\u'.ownsRow u.heap.size 27 1 v R.length (R.map (Value.int .u32))/\Below u.heap.size u u'):
  aO 150 #[ay tb,ay ab,ay ob] u fun e u'=>∃c:Nat,e=.returned (ag (c:Nat))/\bd c/\∃ov',u'.heap[ob]? =some (Obj.cells #[ov'] 35 (0,0))/\u'.ownsRow base 27 1 ov' (acc++R).length ((acc++R).map (Value.int .u32))/\aC (fun k=>k=ob\/ov.ownBlock=some k) u u':=by
 have HC:=ae hc;have HO:=ae ho;have HR:=ae hrow;obtain⟨oa,oc,rfl,-,-,-⟩:=Rd.aL hrow;have hou:=(bn.1 ho).1;clear hc ho hrow;go_enter Tryz.func150,Tryz.ntmps150
 go_wp2_with fail
 refine HC.out.mono ?_;rintro e u1 ⟨v,c,rfl,zA,hown,hb⟩;have HBD:=ae zA;clear zA;have HOW:=ae hown;have HB:=ae hb;clear hown hb;obtain⟨va,vc,rfl,-,-,hr5⟩:=Rd.aL HOW.out;have Gc:=ae (Rd.toK (show Rd (.int .u32) u1 va R from hr5));have HO1:=ae ((bI HB.out HO.out).trans HO.out);have EB:=ae (au HR.out HB.out);have hs1:=HB.out.size;have z1:u1.cell? (ah ob 0)=some (.slice oa acc.length oc):=by simp only[World.cell?,HO1.out];rfl
 have UN:acc.length+R.length<=maxLen:=by unfold maxLen;omega
 have Gt:(acc.length+R.length)*4<=140737488355328:=by omega
 have hbs:base<=u1.heap.size:=by omega
 have TY:Hid (Value.ownBlock (.slice oa acc.length oc)≠some ob):=fun e=>by have:=(HR.out.lt ob e).1;omega
 clear hr5
 go_wp2_with (at_builtin;go_loud (refine jc yw (enc:=fun x=>[aJ x]) (fun _=>rfl) (fun x u hu=>by simp at hu;subst hu;rfl) base EB.out Gc.out rfl _ _ rfl rfl vc rfl UN Gt hbs ?_;intro v6 u6 Ig hg6;have k6:=(hg6.block ob (by omega) (fun e=>TY.out e.symm)).trans HO1.out;have q1:u6.cell? (ah ob 0)=some (.slice oa acc.length oc):=(by simp only[World.cell?,k6];rfl);have q2:u6.frozen? (ah ob 0)=false:=(by simp[World.frozen?,k6]);have mg:u6.ownsRow base 27 1 v6 (acc++R).length ((acc++R).map (Value.int .u32)):=(by rw[dh,bF,aab R];exact Ig);obtain⟨a6,c6,rfl,-,-,-⟩:=Rd.aL mg))
 go_ret;rw[bF]at mg;have jR:(u6.setCell (ah ob 0) (.slice a6 (acc.length+R.length) c6)).heap[ob]? =some (Obj.cells #[.slice a6 (acc.length+R.length) c6] 35 (0,0)):=by
  rw[dH u6 ob 0 _ _ _ k6];rfl
 refine⟨c,rfl,HBD.out,_,jR,?_,((((aC.refl (fun k=>k=ob\/Value.ownBlock (.slice oa acc.length oc)=some k) u).below HB.out).grown hg6 fun k e=>.inl (.inr e))).set (a:=(ah ob 0)) _ (.inl (.inl rfl))⟩;rw[bF];exact aY mg ((aC.refl (fun k=>k=ob) u6).set (a:=(ah ob 0)) _ (.inl rfl)) (fun gb e h=>by have:=(mg.lt gb e).1;omega)
section
variable {w:World} {Pb Hb:Nat} {dv av:Value} {jF:Int} {GH:Nat->Prop} {m:Nat} {A:List eX} {N wk:Int}
structure Kb (w w1:World) (GH:Nat->Prop) (A:List eX) (N:Int) (B:List (Nat×Nat×List Pt)) (F:Nat->Nat->Prop):Prop where
 below:Below w.heap.size w w1
 wd:zH w1 GH F B
 perm:(CK B).Perm (A.map (·.1))
 log:B.length≠0->(2:Int)^(B.length-1)<=N
 built:∀b∈B,(b.2.1:Int)<=N/\b.2.1<=20000
 few:B.length<=13
def avK (w:World) (GH:Nat->Prop) (fn:FuncId) (cs:Array Value) (B:List (Nat×Nat×List Pt)) (F:Nat->Nat->Prop) (R:Nat->List Int) (bd:Nat->Nat->Prop):Prop:=
 ∀(i:Nat) (hi:i<B.length) (u:World),Below w.heap.size w u->zH u GH F B->aO fn (#[ay (B[i].1)]++cs) u fun e u'=>∃(v:Value) (c:Nat),e=.returned (.tuple #[v,ag (c:Nat)])/\bd i c/\u'.ownsRow u.heap.size 27 1 v (R i).length ((R i).map (Value.int .u32))/\Below u.heap.size u u'
def aoI (w:World) (Pb Hb:Nat) (dv av:Value) (jF:Int) (Q:List Int->Nat->Prop) (e:Ending) (w':World):Prop:=
 ∃(v:Value) (L:List Int) (jX:Nat),e=.returned (.tuple #[v,ag jX])/\w'.ownsRow w.heap.size 27 1 v L.length (L.map (Value.int .u32))/\Q L jX/\aC (fun k=>k=Pb) w w'/\w'.heap[Pb]? =some (Obj.cells #[ay Hb,dv,av,ag (wrap64 (jF+jX))] F3 (0,0))
theorem Kc {R:Nat->List Int} {b:Nat} (h:∀i,(R i).length<=b):∀i,((List.range i).flatMap R).length<=i*b
 |0=>by simp
 |i+1=>by
  have e:([i].flatMap R).length=(R i).length:=by simp
  rw[Ai,lW,bF,Nat.succ_mul,e];have h1:=Kc h i;have h2:=h i;omega
theorem SG {r:Nat->Nat} {b:Nat} (h:∀i,r i<=b):∀i,((List.range i).map r).sum<=i*b
 |0=>by simp
 |i+1=>by
  have e:([i].map r).sum=r i:=by simp
  rw[Ai,dh,DV,Nat.succ_mul,e];have h1:=SG h i;have h2:=h i;omega
theorem aen {fn:FuncId} {cs:Array Value} {Q:List Int->Nat->Prop} (ef:∀args w,(callFunc fn args).run Tryz.prog w=.ok (.enter fn args) w) (hblk:w.heap[Pb]? =some (Obj.cells #[ay Hb,dv,av,ag jF] F3 (0,0))) (h:kS w Hb GH m A N wk) (hG:∀k,GH k->k<w.heap.size)
  (nH:∀w1 B F,Kb w w1 GH A N B F->∃R bd,(∀i t,bd i t->t<=1000000)/\(∀i,(R i).length<=20000)/\avK w GH fn cs B F R bd/\∀n,SumB bd B.length n->Q (gu ((List.range B.length).flatMap R)) n):
  aO 65 #[ay Pb,.func (.func fn) #[] cs] w (aoI w Pb Hb dv av jF Q):=by
 have hPb:=(bn.1 hblk).1;have k2:aC (fun _=>False) w ((w.alloc (.cells #[.func (.func fn) #[] cs] 121)).alloc (.cells #[aN] 35)):=((aC.refl _ w).alloc _).alloc _;have a2:=OM w (.cells #[.func (.func fn) #[] cs] 121) (.cells #[aN] 35);have o2:=Jb w (.cells #[.func (.func fn) #[] cs] 121) (.cells #[aN] 35);have b2:Below w.heap.size w ((w.alloc (.cells #[.func (.func fn) #[] cs] 121)).alloc (.cells #[aN] 35)):=((aM _ _).alloc (aG _) _).alloc (by simp) _;have s2:((w.alloc (.cells #[.func (.func fn) #[] cs] 121)).alloc (.cells #[aN] 35)).heap.size=w.heap.size+2:=by simp
 have oW:=bL k2 hblk (fun h=>h);have CE:=ae (SF (Sx:=fun k=>k=w.heap.size+1) (cs:=#[ay w.heap.size,ay (w.heap.size+1)]) (Q:=fun B jX u=>∃(L:List Int) (ov:Value),u.heap[w.heap.size+1]? =some (Obj.cells #[ov] 35 (0,0))/\u.ownsRow w.heap.size 27 1 ov L.length (L.map (Value.int .u32))/\w.heap.size+2<=u.heap.size/\(∀gb,ov.ownBlock=some gb->w.heap.size+2<=gb)/\L.length<=1000000/\Q (gu L) jX) VA oW (h.kept k2 (fun _ _ h=>h)) (fun k hk=>by rw[s2];omega) (fun w1 B F hb hW Ck Vz vE h13=>by
  obtain⟨R,bd,hc,hR,hA,hQ⟩:=nH w1 B F ⟨b2.trans (hb.mono (by omega)),hW,Ck,Vz,vE,h13⟩;have hs1:=hb.size;have a1:=(bI hb a2).trans a2;have o1:=(bI hb o2).trans o2;refine⟨fun i n u=>SumB bd i n/\∃ov,u.heap[w.heap.size+1]? =some (Obj.cells #[ov] 35 (0,0))/\u.ownsRow w1.heap.size 27 1 ov ((List.range i).flatMap R).length (((List.range i).flatMap R).map (Value.int .u32))/\aC (fun k=>k=w.heap.size+1) w1 u,⟨rfl,_,o1,dL _ _ _ _,aC.refl _ _⟩,fun i n u hI=>hI.2.choose_spec.2.2,fun i n u hI=>hI.1.le hc,fun i n hi u hI=>?_,fun n u hI=>?_⟩
  .obtain⟨aad,ov,ho,hrow,hK⟩:=hI;have hsu:=hK.size;have ha:u.cell? (ah w.heap.size 0)=some (.func (.func fn) #[] cs):=by
    have:=bL hK a1 (by omega);simp only[World.cell?,this];rfl
   have hbu:Below w.heap.size w u:=b2.trans ((hb.mono (by omega)).trans (hK.toBelow (by omega) (by rintro k rfl;omega)));have hl:=Kc hR i;have aoH:i*20000<=13*20000:=qM _ (by omega);have hRi:=hR i;refine(aac (bd:=bd i) ef ha ho (by omega) hsu hrow (by omega) (hA i hi u hbu (hW.kept hK fun k hk e=>by have:=hG k hk;omega))).mono ?_;rintro e u' ⟨c,rfl,zA,ov',ho',hrow',hK'⟩;refine⟨c,rfl,⟨n,c,aad,zA,rfl⟩,ov',ho',?_,?_⟩
   .rw[Ai,lW];simpa using hrow'
   .refine aC.strip ((hK.mono fun k h=>.inl h).trans (hK'.mono fun k h=>?_));rcases h with h|h
    .exact .inl h
    .exact .inr (hrow.lt k h).1
  .obtain⟨aad,ov,ho,hrow,hK⟩:=hI;have hl:=Kc hR B.length;have aoH:B.length*20000<=13*20000:=qM _ h13;exact⟨_,ov,ho,kR hrow (by omega),by have:=hK.size;omega,fun gb e=>by have:=(hrow.lt gb e).1;omega,by omega,hQ n aad⟩))
 have Pd:=ae hblk;have fP:=ae b2;have avL:=ae oW;clear nH h k2 a2 o2 b2 hblk oW hG;go_enter Tryz.func65,Tryz.ntmps65
 go_wp2_with fail
 refine CE.out.mono ?_;rintro e w9 ⟨B,jX,u,rfl,⟨L,ov,ho,hrow,hsu,hov,hlL,hQ⟩,hK,rfl⟩;have vR:Hid (aC (fun k=>k=w.heap.size+1) ((w.alloc (.cells #[.func (.func fn) #[] cs] 121)).alloc (.cells #[aN] 35)) u):=hK;have hTu:=bL hK avL.out (by omega);have hT9:Hid ((u.setCell (ah Pb 3) (.int .i64 (wrap64 (jF+(jX:Int))))).heap[Pb]? =some (Obj.cells #[ay Hb,dv,av,ag (wrap64 (jF+(jX:Int)))] F3 (0,0))):=by
  show _=_;rw[dH u Pb 3 _ _ _ hTu];rfl
 have ho9:(u.setCell (ah Pb 3) (.int .i64 (wrap64 (jF+(jX:Int))))).heap[w.heap.size+1]? =some (Obj.cells #[ov] 35 (0,0)):=(aH (a:=(ah Pb 3)) (fun e:Pb=w.heap.size+1=>by omega)).trans ho;have hr9:=aY hrow ((aC.refl (fun k=>k=Pb) u).set (a:=(ah Pb 3)) (.int .i64 (wrap64 (jF+(jX:Int)))) (.inl rfl)) (fun gb e h=>by have:=hov gb e;omega);have JP:Hid (aC (fun k=>k=Pb) w (u.setCell (ah Pb 3) (.int .i64 (wrap64 (jF+(jX:Int)))))):=aC.strip ((((aC.refl (fun k=>k=Pb\/w.heap.size<=k) w).below fP.out).trans (hK.mono fun k h=>.inr (by omega))).set (a:=(ah Pb 3)) _ (.inl (.inl rfl)));have HOV:=ae hov;have HQ:=ae hQ;have z9:(u.setCell (ah Pb 3) (.int .i64 (wrap64 (jF+(jX:Int))))).cell? (ah (w.heap.size+1) 0)=some ov:=by simp only[World.cell?,ho9];rfl
 have CS:=ae (Jc hr9 hlL);have HO9:=ae ho9;obtain⟨oa,oc,rfl,-,-,-⟩:=Rd.aL hr9;clear hov hQ hTu ho9 hr9 hrow ho hK CE vR;generalize u.setCell (ah Pb 3) (.int .i64 (wrap64 (jF+(jX:Int))))=w9 at*
 go_wp2_with (go_at_call 64;refine CS.out.mono ?_;rintro e sH ⟨rfl,hown,hK⟩;have aoJ:=bL hK HO9.out (fun e=>by have:=HOV.out _ e;omega);have z10:sH.cell? (ah (w.heap.size+1) 0)=some (.slice oa L.length oc):=(by simp only[World.cell?,aoJ];rfl);have HOW:=ae hown;have Fj:=ae hK;clear hown hK aoJ)
 go_ret2;refine⟨_,gu L,jX,rfl,by rw[jK];exact HOW.out,HQ.out,aC.strip ((JP.out.mono fun k h=>.inl h).trans (Fj.out.mono fun k h=>.inr (by have:=HOV.out k h;omega))),bL Fj.out hT9.out (fun e=>by have:=HOV.out _ e;omega)⟩
end
end Go.Proofs.YtkjdbndekceffaaGreat
namespace Go.Proofs.YtkjdbndekceffaaGreat
open Go.RowKit Go.Sort Go.Shelf Go.Lib Go.Maps
attribute [local irreducible] wpQuiet
attribute [local go_sem] Oper.fM
def GG (l:List Pt) (x y way:Int):List Int:=if way<=3 then Fp l (Fq x y (decide (way%2=1)) (decide (2<=way)))else[]
theorem VB {way:Int} (h0:0<=way) (h:way<=3):way=(if decide (way%2=1)then 1 else 0)+(if decide (2<=way)then 2 else 0):=by
 have:way=0\/way=1\/way=2\/way=3:=by omega
 rcases this with rfl|rfl|rfl|rfl<;>decide
theorem afH {w:World} {lo hi cb n0:Nat} {l:List Pt} (h:oC w lo hi cb n0 l) (hl:wfL l) (x y way:Int) (h0:0<=way):
  aO 40 #[ay cb,ag x,ag y,.int .u8 way] w fun e w'=>∃v,∃c:Nat,e=.returned (.tuple #[v,ag ((c+(GG l x y way).length:Nat):Int)])/\c<=8*Lib.bitLen n0+1/\w'.ownsRow w.heap.size 27 1 v (GG l x y way).length ((GG l x y way).map (Value.int .u32))/\Below w.heap.size w w':=by
 unfold GG;by_cases hw:way<=3
 .rw[aR hw];exact YZ h hl x y _ _ way (VB h0 hw)
 .rw[aP hw];refine(MS h x y way (by omega)).mono ?_;rintro e w' ⟨rfl,rfl⟩;exact⟨_,0,rfl,bC _,dL _ _ _ _,aM _ _⟩
theorem Ny:∀args w,(callFunc 39 args).run Tryz.prog w=.ok (.enter 39 args) w:=dF Tryz.func39 (by kernel_rfl) rfl
theorem Nz:∀args w,(callFunc 66 args).run Tryz.prog w=.ok (.enter 66 args) w:=dF Tryz.func66 (by kernel_rfl) rfl
theorem VC {u:World} {F:Nat->Prop} {tb n0:Nat} {l:List Pt} (h:Bk u F tb n0 l) (x1 x2 y1 y2 bi:Int) {xb:Nat} (h0:u.cell? (ah xb 0)=some (ag x1)) (h1:u.cell? (ah xb 1)=some (ag x2)) (h2:u.cell? (ah xb 2)=some (ag y1)) (h3:u.cell? (ah xb 3)=some (ag y2)) (h4:u.cell? (ah xb 4)=some (aJ bi)):
  aO 66 #[ay tb,ay xb] u fun e u'=>∃v,∃t:Nat,e=.returned (.tuple #[v,ag t])/\(∃c:Nat,t=c+(hasB l x1 x2 y1 y2).length/\c<=8*Lib.bitLen n0+1)/\u'.ownsRow u.heap.size 27 1 v (hasB l x1 x2 y1 y2).length ((hasB l x1 x2 y1 y2).map (Value.int .u32))/\Below u.heap.size u u':=by
 obtain⟨lo,m0,m1,m2,m3,m4,hi,bx,cn,hp,lw,ob,tl,sv,dn,h⟩:=h;have H:=ae h;have c0:u.cell? (ah tb 1)=some (ay bx):=by simp[World.cell?,h.blk]
 have K0:aC (fun _=>False) u u.drew:=(aC.refl _ u).drew;have CC:=ae (JX (H.out.box.kept K0 (fun _ _ _ h=>h)) x1 x2 y1 y2 bi);have gt:=aj c0;have g0:=aj h0;have g1:=aj h1;have g2:=aj h2;have g3:=aj h3;have g4:=aj h4;clear h c0;go_enter Tryz.func66,Tryz.ntmps66
 go_wp2_with fail
 refine aF (fun W=>∃p:bg u,W=p.W) [5,6,7,8,9] [(0,false),(1,false),(2,false),(3,true),(4,true)] (by kernel_rfl) (by kernel_rfl) (fun _ _ d _ _ h=>by cases d<;>exact h) ⟨⟨_,(aM _ _).drew⟩,rfl⟩ 5 rfl (by kernel_rfl) ?_;simp only[bG,bz,bA,bu,aS,aT,aU]
 repeat(refine aI (fun K hK=>?_);go_simp;first|(refine hK _ ?_;clear hK K)|(apply Exists.intro;refine⟨fun _=>?_,hK _ ?_⟩;rfl;clear hK K))
 refine aQ ?_;refine az [5] (by kernel_rfl) (by simp) ?_;refine ak.cons rfl (fun K hK=>?_) ak.nil;refine bD Ny rfl _ _ rfl (vals:=#[ay bx,.agg #[ag x1,ag x2,ag y1,ag y2,aJ bi]]) rfl CC.out ?_;rintro e u1 ⟨v,c,rfl,hc,hown,hb⟩;have HB:Hid (Below u.heap.size u u1):=(aM _ _).drew.trans hb;refine⟨_,rfl,?_⟩;refine hK _ _ (fun _ h=>absurd (by decide) h) ?_;clear hK K gt CC K0;have HO:=ae hown;clear hown;refine je (fun _=>True) [8,9] (by kernel_rfl) ?_;refine cK [(6,false),(7,false)] (by kernel_rfl) (fun _ _ d _ _ h=>by cases d<;>exact h) trivial (by kernel_rfl) (by kernel_rfl) rfl ?_;simp only[bG,bz,bA,bu,aS,aT,aU]
 repeat(refine aI (fun K hK=>?_);go_simp;first|(refine hK _ ?_;clear hK K)|(apply Exists.intro;refine⟨fun _=>?_,hK _ ?_⟩;rfl;clear hK K))
 refine aQ ?_;refine aK [8,9] _ _ _ (by kernel_rfl) ?_;simp only[pick,bz,bA,bu,aS,aT];go_wp2;go_ret2;exact⟨_,_,rfl,⟨c,rfl,hc⟩,HO.out,HB.out⟩
theorem QR:∀args w,(callFunc 41 args).run Tryz.prog w=.ok (.enter 41 args) w:=dF Tryz.func41 (by kernel_rfl) rfl
theorem QT:∀args w,(callFunc 68 args).run Tryz.prog w=.ok (.enter 68 args) w:=dF Tryz.func68 (by kernel_rfl) rfl
theorem aae {u:World} {F:Nat->Prop} {tb n0:Nat} {l:List Pt} (h:Bk u F tb n0 l) (x1 x2 y:Int) {b0 b1 b2:Nat} (h0:u.cell? (ah b0 0)=some (ag x1)) (h1:u.cell? (ah b1 0)=some (ag x2)) (h2:u.cell? (ah b2 0)=some (ag y)):
  aO 68 #[ay tb,ay b0,ay b1,ay b2] u fun e u'=>∃v,∃t:Nat,e=.returned (.tuple #[v,ag t])/\((vX l x1 x2 y).length<=t/\t<=2*(vX l x1 x2 y).length+Sr n0)/\u'.ownsRow u.heap.size 27 1 v (vX l x1 x2 y).length ((vX l x1 x2 y).map (Value.int .u32))/\Below u.heap.size u u':=by
 obtain⟨lo,m0,m1,m2,m3,m4,hi,bx,cn,hp,lw,ob,tl,sv,dn,h⟩:=h;have H:=ae h;have c0:u.cell? (ah tb 3)=some (ay hp):=by simp[World.cell?,h.blk]
 have K0:aC (fun _=>False) u u.drew:=(aC.refl _ u).drew;have CC:=ae (ZB (H.out.hep.kept K0 (fun _ _ _ h=>h)) x1 x2 y);have gt:=aj c0;have g0:=aj h0;have g1:=aj h1;have g2:=aj h2;clear h c0;go_enter Tryz.func68,Tryz.ntmps68
 go_wp2_with fail
 refine aF (fun W=>∃p:bg u,W=p.W) [7,8,9,10,11] [(0,false),(1,false),(2,false),(3,true),(4,true),(5,true),(6,true)] (by kernel_rfl) (by kernel_rfl) (fun _ _ d _ _ h=>by cases d<;>exact h) ⟨⟨_,(aM _ _).drew⟩,rfl⟩ 5 rfl (by kernel_rfl) ?_;simp only[bG,bz,bA,bu,aS,aT,aU]
 repeat(refine aI (fun K hK=>?_);go_simp;first|(refine hK _ ?_;clear hK K)|(apply Exists.intro;refine⟨fun _=>?_,hK _ ?_⟩;rfl;clear hK K))
 refine aQ ?_;refine az [7] (by kernel_rfl) (by simp) ?_;refine ak.cons rfl (fun K hK=>?_) ak.nil;refine bD QR rfl _ _ rfl (vals:=#[ay hp,ag x1,ag x2,ag y]) rfl CC.out ?_;rintro e u1 ⟨v,c,rfl,hc,hown,hb⟩;have HB:Hid (Below u.heap.size u u1):=(aM _ _).drew.trans hb;refine⟨_,rfl,?_⟩;refine hK _ _ (fun _ h=>absurd (by decide) h) ?_;clear hK K gt CC K0;have HO:=ae hown;clear hown;refine je (fun _=>True) [10,11] (by kernel_rfl) ?_;refine cK [(8,false),(9,false)] (by kernel_rfl) (fun _ _ d _ _ h=>by cases d<;>exact h) trivial (by kernel_rfl) (by kernel_rfl) rfl ?_;simp only[bG,bz,bA,bu,aS,aT,aU]
 repeat(refine aI (fun K hK=>?_);go_simp;first|(refine hK _ ?_;clear hK K)|(apply Exists.intro;refine⟨fun _=>?_,hK _ ?_⟩;rfl;clear hK K))
 refine aQ ?_;refine aK [10,11] _ _ _ (by kernel_rfl) ?_;simp only[pick,bz,bA,bu,aS,aT];go_wp2;go_ret2;exact⟨_,_,rfl,hc,HO.out,HB.out⟩
theorem NA:∀args w,(callFunc 40 args).run Tryz.prog w=.ok (.enter 40 args) w:=dF Tryz.func40 (by kernel_rfl) rfl
theorem NC:∀args w,(callFunc 67 args).run Tryz.prog w=.ok (.enter 67 args) w:=dF Tryz.func67 (by kernel_rfl) rfl
theorem VD {u:World} {F:Nat->Prop} {tb n0:Nat} {l:List Pt} (h:Bk u F tb n0 l) (x y way:Int) (hwl:wfL l) (xO:0<=way) {b0 b1 b2:Nat} (h0:u.cell? (ah b0 0)=some (ag x)) (h1:u.cell? (ah b1 0)=some (ag y)) (h2:u.cell? (ah b2 0)=some (.int .u8 way)):
  aO 67 #[ay tb,ay b0,ay b1,ay b2] u fun e u'=>∃v,∃t:Nat,e=.returned (.tuple #[v,ag t])/\(∃c:Nat,t=c+(GG l x y way).length/\c<=8*Lib.bitLen n0+1)/\u'.ownsRow u.heap.size 27 1 v (GG l x y way).length ((GG l x y way).map (Value.int .u32))/\Below u.heap.size u u':=by
 obtain⟨lo,m0,m1,m2,m3,m4,hi,bx,cn,hp,lw,ob,tl,sv,dn,h⟩:=h;have H:=ae h;have c0:u.cell? (ah tb 2)=some (ay cn):=by simp[World.cell?,h.blk]
 have K0:aC (fun _=>False) u u.drew:=(aC.refl _ u).drew;have CC:=ae (afH (H.out.cor.kept K0 (fun _ _ _ h=>h)) hwl x y way xO);have gt:=aj c0;have g0:=aj h0;have g1:=aj h1;have g2:=aj h2;clear h c0;go_enter Tryz.func67,Tryz.ntmps67
 go_wp2_with fail
 refine aF (fun W=>∃p:bg u,W=p.W) [7,8,9,10,11] [(0,false),(1,false),(2,false),(3,true),(4,true),(5,true),(6,true)] (by kernel_rfl) (by kernel_rfl) (fun _ _ d _ _ h=>by cases d<;>exact h) ⟨⟨_,(aM _ _).drew⟩,rfl⟩ 5 rfl (by kernel_rfl) ?_;simp only[bG,bz,bA,bu,aS,aT,aU]
 repeat(refine aI (fun K hK=>?_);go_simp;first|(refine hK _ ?_;clear hK K)|(apply Exists.intro;refine⟨fun _=>?_,hK _ ?_⟩;rfl;clear hK K))
 refine aQ ?_;refine az [7] (by kernel_rfl) (by simp) ?_;refine ak.cons rfl (fun K hK=>?_) ak.nil;refine bD NA rfl _ _ rfl (vals:=#[ay cn,ag x,ag y,.int .u8 way]) rfl CC.out ?_;rintro e u1 ⟨v,c,rfl,hc,hown,hb⟩;have HB:Hid (Below u.heap.size u u1):=(aM _ _).drew.trans hb;refine⟨_,rfl,?_⟩;refine hK _ _ (fun _ h=>absurd (by decide) h) ?_;clear hK K gt CC K0;have HO:=ae hown;clear hown;refine je (fun _=>True) [10,11] (by kernel_rfl) ?_;refine cK [(8,false),(9,false)] (by kernel_rfl) (fun _ _ d _ _ h=>by cases d<;>exact h) trivial (by kernel_rfl) (by kernel_rfl) rfl ?_;simp only[bG,bz,bA,bu,aS,aT,aU]
 repeat(refine aI (fun K hK=>?_);go_simp;first|(refine hK _ ?_;clear hK K)|(apply Exists.intro;refine⟨fun _=>?_,hK _ ?_⟩;rfl;clear hK K))
 refine aQ ?_;refine aK [10,11] _ _ _ (by kernel_rfl) ?_;simp only[pick,bz,bA,bu,aS,aT];go_wp2;go_ret2;exact⟨_,_,rfl,⟨c,rfl,hc⟩,HO.out,HB.out⟩
end Go.Proofs.YtkjdbndekceffaaGreat
