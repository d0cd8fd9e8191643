/- A part of the proof; its text was made small by a program (no remarks, short names). -/
import Derived.Test.YtkjdbndekceffaaGreatV00
import Derived.Test.YtkjdbndekceffaaGreatV07
set_option linter.unusedSimpArgs false
set_option linter.unusedVariables false
set_option maxRecDepth 100000
set_option maxHeartbeats 16000000
namespace Go.Proofs.YtkjdbndekceffaaGreat
open Go.RowKit Go.Sort Go.Shelf Go.Lib Go.Maps
attribute [local irreducible] wpQuiet
attribute [local go_sem] Oper.fM
theorem PX (a:Option Addr) (c:Nat) (l:List Pt) (w:World) (hl:dU fH 3 w a l) (hn:l.length<=20000) (hw:Mm l) (hu:Eg l=true):
  aO 35 #[.slice a l.length c] w fun e w'=>∃tb fb V,e=.returned (.tuple #[ay tb,ag 0])/\jZ w' w.heap.size w'.heap.size tb fb (gM l) (List.replicate (gM l).length false) (dQ (gM l)) V/\Below w.heap.size w w':=by
 have CU:=Mo a c l w hl (by omega) hw;rw[hu]at CU;have HL:=ae hl;obtain⟨n,KH⟩:∃n,n=l.length:=⟨_,rfl⟩;have CC:=ae (fun W (hb:Below w.heap.size w W)=>uu a l n c W KH.symm (hl.below hb) (by omega));have KI:=ae KH;rw[<-KH]at hn CU |-;have CF:=ae (fun W=>AU n (by omega) W);clear KH hl;have d1:decide ((n:Int)>2147483648)=false:=by simp;omega
 have d2:decide ((2147483648:Int)<(n:Int))=false:=by simp;omega
 have d3:decide (2147483648<n)=false:=by simp;omega
 go_enter Tryz.func35,Tryz.ntmps35
 go_wp2_with (go_at_call 89;refine CU.mono ?_;rintro e w1 ⟨rfl,hb1⟩;clear CU)
 go_wp2_with fail
 refine(CF.out w1).mono ?_;rintro e w2 ⟨rfl,kI⟩;have fP:Hid (Below w.heap.size w w2):=by rw[kI];exact hb1.alloc hb1.size _
 have BR:Hid (w2.heap[w1.heap.size]? =some (ma 0 0 (aN) n)):=by rw[kI];exact dE w1 _
 obtain⟨fb,vS⟩:∃fb,fb=w1.heap.size:=⟨_,rfl⟩;have Cv:w.heap.size<=fb/\fb<w2.heap.size:=by rw[kI,vS];exact⟨hb1.size,by simp⟩
 rw[<-vS]at BR |-;clear kI hb1 vS CF
 go_upto_region 8 with fail
 go_cut [6]from 6 (fun v6 wx=>∃tb rv gv nv fv,v6=ay tb/\Hid (xJ wx w.heap.size fb n rv gv nv fv l)/\Hid (wx.heap[tb]? =some (zg rv (aN) gv fb nv (aN) (aN) n))/\Hid (Below w.heap.size w wx)/\w.heap.size<=tb)
 case first=>
  have hmk:=X9 n (by omega);have fin:∀(w5:World) rv gv nv fv,w5.ownsRow w.heap.size 29 3 rv n (l.flatMap fH)->w5.ownsRow w.heap.size 4 1 gv n ((List.replicate n false).map Value.bool)->w5.ownsRow w.heap.size 163 7 fv (aZ n).length ((aZ n).flatMap qo)->w5.ownsRow w.heap.size 163 7 nv (aZ n).length ((aZ n).flatMap qo)->w5.heap[fb]? =some (ma 1 0 fv n)->Below w.heap.size w w5->
    xJ (w5.alloc (.cells #[rv,aN,gv,ay fb,nv,aN,aN,ag n] 146)) w.heap.size fb n rv gv nv fv l/\(w5.alloc (.cells #[rv,aN,gv,ay fb,nv,aN,aN,ag n] 146)).heap[w5.heap.size]? =some (zg rv (aN) gv fb nv (aN) (aN) n)/\Below w.heap.size w (w5.alloc (.cells #[rv,aN,gv,ay fb,nv,aN,aN,ag n] 146)):=fun w5 rv gv nv fv h1 h2 h3 h4 h5 h6=>
   ⟨(xJ.mk h1 h2 ⟨h5,h3⟩ Cv.1 h4).kept ((aC.refl (fun _=>False) w5).alloc _) (fun k _ h=>h.elim),dE w5 _,h6.alloc h6.size _⟩
  have Xn:=ae fin;clear fin;refine aF (fun W=>True) [1,4,7,10,11,12] [(0,false),(2,false),(3,false),(5,false),(6,false),(8,false),(9,false)] (by kernel_rfl) (by kernel_rfl) (fun _ _ d _ _ h=>by cases d<;>exact h) trivial 6 rfl (by kernel_rfl) ?_;simp only[bG,bz,bA,bu,aS,aT,aU]
  repeat(refine aI (fun K hK=>?_);go_simp;first|(refine hK _ ?_;clear hK K)|(apply Exists.intro;refine⟨fun _=>?_,hK _ ?_⟩;rfl;clear hK K))
  refine aQ ?_;have UE:Below w.heap.size w w2.drew:=fP.out.drew;have ahF:w2.drew.heap[fb]? =some (ma 0 0 (aN) n):=BR.out;have aBQ:w2.drew.heap.size=w2.heap.size:=rfl;refine az [1,4] (by kernel_rfl) (by simp) ?_;refine ak.cons rfl (fun K hK=>?_) (ak.cons rfl (fun K hK=>?_) ak.nil)
  .
   refine bD zh rfl _ _ rfl (vals:=#[.slice a n c]) rfl (CC.out w2.drew UE) ?_;rintro e w3 ⟨rv,rfl,hr,hbC⟩;refine⟨_,rfl,hK _ _ (fun _ _=>trivial) ?_⟩;clear hK K;have hf3:w3.heap[fb]? =some (ma 0 0 (aN) n):=(hbC.block fb (by omega)).trans ahF;have hb3:Below w.heap.size w w3:=UE.trans (hbC.mono UE.size);have hr3:=bR hr UE.size;have hs3:=hbC.size;have FF3:=ae hf3;have BB3:=ae hb3;have RR3:=ae hr3;obtain⟨ra,rc,rfl⟩:=fI hr3;clear hr hbC UE ahF hf3 hb3 hr3;refine az [4,7] (by kernel_rfl) (by simp) ?_;refine ak.cons rfl (fun K hK=>?_) (ak.cons rfl (fun K hK=>?_) ak.nil)
   .go_simp;refine hK _ _ (fun _ _=>trivial) ?_;clear hK K;refine az [7] (by kernel_rfl) (by simp) ?_;refine ak.cons rfl (fun K hK=>?_) ak.nil;have Yt:(w3.alloc (.cells (madeCells #[.bool false] n) 4)).heap[fb]? =some (ma 0 0 (aN) n):=(dB _ _ _ (by omega)).trans FF3.out;refine bD xK rfl _ _ rfl (vals:=#[ay fb]) rfl (gX fb n (by omega) _ Yt) ?_;rintro e w5 ⟨fv,nv,rfl,jP,su,JO,UF⟩;refine⟨_,rfl,hK _ _ (fun _ _=>trivial) ?_⟩;clear hK K;have hb4:Below w.heap.size w (w3.alloc (.cells (madeCells #[.bool false] n) 4)):=BB3.out.alloc BB3.out.size _;have o7:Below w.heap.size w w5:=hb4.trans (UF.toBelow hb4.size (fun k h=>by omega));have F:=Xn.out w5 _ (aD w3.heap.size n n) nv fv (PL (au RR3.out ((aM _ _).alloc (aG _) _)) (by decide) Yt UF) (PL (Bc w3 w.heap.size n BB3.out.size (by omega)) (by decide) Yt UF) (bR jP hb4.size) (bR su hb4.size) JO o7;have HF:=ae F;have hs5:=o7.size;obtain⟨na,nc,rfl⟩:=fI su;clear F jP su JO UF hb4 o7 Yt;refine aK [10,11,12] _ _ _ (by kernel_rfl) ?_;simp only[pick,bz,bA,bu,aS,aT];go_wp2;go_meet;exact⟨_,_,_,_,_,rfl,HF.out.1,HF.out.2.1,HF.out.2.2,hs5⟩
   .refine bD xK rfl _ _ rfl (vals:=#[ay fb]) rfl (gX fb n (by omega) _ FF3.out) ?_;rintro e w5 ⟨fv,nv,rfl,jP,su,JO,UF⟩;refine⟨_,rfl,hK _ _ (fun _ _=>trivial) ?_⟩;clear hK K;have o7:Below w.heap.size w w5:=BB3.out.trans (UF.toBelow BB3.out.size (fun k h=>by omega));have jR:Below w.heap.size w (w5.alloc (.cells (madeCells #[.bool false] n) 4)):=o7.alloc o7.size _;have xE:Below w5.heap.size w5 (w5.alloc (.cells (madeCells #[.bool false] n) 4)):=(aM _ _).alloc (aG _) _;have atn:=(bn.1 JO).1;have F:=Xn.out (w5.alloc (.cells (madeCells #[.bool false] n) 4)) _ (aD w5.heap.size n n) nv fv (au (PL RR3.out (by decide) FF3.out UF) xE) (Bc w5 w.heap.size n o7.size (by omega)) (au (bR jP BB3.out.size) xE) (au (bR su BB3.out.size) xE) ((dB _ _ _ atn).trans JO) jR;have hsz:(w5.alloc (.cells (madeCells #[.bool false] n) 4)).heap.size=w5.heap.size+1:=by simp
    rw[hsz]at F;have HF:=ae F;have hs5:=jR.size;rw[hsz]at hs5;obtain⟨na,nc,rfl⟩:=fI su;clear F jP su JO UF o7 jR xE;refine aK [4,10,11,12] _ _ _ (by kernel_rfl) ?_;simp only[pick,bz,bA,bu,aS,aT];go_wp2;go_meet;exact⟨_,_,_,_,_,rfl,HF.out.1,HF.out.2.1,HF.out.2.2,hs5⟩
  .
   go_simp;refine hK _ _ (fun _ _=>trivial) ?_;clear hK K;refine az [1] (by kernel_rfl) (by simp) ?_;refine ak.cons rfl (fun K hK=>?_) ak.nil;have hb3:Below w.heap.size w (w2.alloc (.cells (madeCells #[.bool false] n) 4)).drew:=(fP.out.alloc fP.out.size _).drew;have hf3:(w2.alloc (.cells (madeCells #[.bool false] n) 4)).drew.heap[fb]? =some (ma 0 0 (aN) n):=(dB w2 _ _ Cv.2).trans BR.out;have hg3:(w2.alloc (.cells (madeCells #[.bool false] n) 4)).drew.ownsRow w.heap.size 4 1 (aD w2.heap.size n n) n ((List.replicate n false).map Value.bool):=Bc w2 w.heap.size n fP.out.size (by omega);have hs3:fb<(w2.alloc (.cells (madeCells #[.bool false] n) 4)).drew.heap.size:=by
    show fb<(w2.alloc (.cells (madeCells #[.bool false] n) 4)).heap.size;simp;omega
   obtain⟨w3,jQ⟩:∃w3,w3=(w2.alloc (.cells (madeCells #[.bool false] n) 4)).drew:=⟨_,rfl⟩;rw[<-jQ]at hb3 hf3 hg3 hs3;refine bD zh rfl _ _ rfl (vals:=#[.slice a n c]) rfl (by rw[<-jQ];exact CC.out w3 hb3) ?_;rintro e w4 ⟨rv,rfl,hr,hbC⟩;refine⟨_,rfl,hK _ _ (fun _ _=>trivial) ?_⟩;clear hK K;have Yt:w4.heap[fb]? =some (ma 0 0 (aN) n):=(hbC.block fb hs3).trans hf3;have hb4:Below w.heap.size w w4:=hb3.trans (hbC.mono hb3.size);have hr4:=bR hr hb3.size;have hg4:=au hg3 hbC;have FF4:=ae Yt;have BB4:=ae hb4;have RR4:=ae hr4;have GG4:=ae hg4;obtain⟨ra,rc,rfl⟩:=fI hr4;clear hr hbC UE ahF Yt hb4 hr4 hf3 hb3 hg3 hg4 hs3 jQ;refine az [7] (by kernel_rfl) (by simp) ?_;refine ak.cons rfl (fun K hK=>?_) ak.nil;refine bD xK rfl _ _ rfl (vals:=#[ay fb]) rfl (gX fb n (by omega) _ FF4.out) ?_;rintro e w5 ⟨fv,nv,rfl,jP,su,JO,UF⟩;refine⟨_,rfl,hK _ _ (fun _ _=>trivial) ?_⟩;clear hK K;have o7:Below w.heap.size w w5:=BB4.out.trans (UF.toBelow BB4.out.size (fun k h=>by omega));have F:=Xn.out w5 _ (aD w2.heap.size n n) nv fv (PL RR4.out (by decide) FF4.out UF) (PL GG4.out (by decide) FF4.out UF) (bR jP BB4.out.size) (bR su BB4.out.size) JO o7;have HF:=ae F;have hs5:=o7.size;obtain⟨na,nc,rfl⟩:=fI su;clear F jP su JO UF o7;refine aK [10,11,12] _ _ _ (by kernel_rfl) ?_;simp only[pick,bz,bA,bu,aS,aT];go_wp2;go_meet;exact⟨_,_,_,_,_,rfl,HF.out.1,HF.out.2.1,HF.out.2.2,hs5⟩
 case rest=>
  obtain⟨tb,rv,gv,nv,fv,rfl,HR,HT,HB,Wj⟩:=hcut;clear fP BR CC;obtain⟨ra,rc,rfl⟩:=fI HR.out.row;have jk:=(bn.1 HT.out).1;have huu:(ids l).Nodup:=by unfold Eg at hu;simpa using hu
  have CS:=ae (Bb KI.out.symm (by omega) HR.out.row huu);have kU:=HT.out;have c0:wc.cell? (ah tb 0)=some (.slice ra n rc):=by simp[World.cell?,kU]
  clear kU
  go_wp2_with fail
  refine CS.out.mono ?_;rintro e w4 ⟨rfl,hr4,hk4⟩;have hR4:xJ w4 w.heap.size fb n (.slice ra n rc) gv nv fv (gM l):=by
   have h:=HR.out;have hp:∀k,k<wc.heap.size->(Value.slice ra n rc).ownBlock=some k->∃cs t fr,wc.heap[k]? =some (.cells cs t fr)/\t=29:=fun k hk he=>by
    rcases h.row.2 with⟨e9,-⟩|⟨g,cap,cur,e9,-,hh,-⟩
    .rw[e9]at he;cases he
    .rw[e9]at he;injection he with he;subst he;exact⟨_,_,_,hh,rfl⟩
   refine⟨hr4,qD h.Hd hk4 fun k h1 h2=>?_,⟨bL hk4 h.iT.blk fun h2=>?_,qD h.iT.row hk4 fun k h1 h2=>?_⟩,h.lof,qD h.jG hk4 fun k h1 h2=>?_⟩
   .obtain⟨cs,t,fr,a,rfl⟩:=hp k h1 h2;exact⟨cs,_,fr,a,by decide⟩
   .obtain⟨cs,t,fr,a,rfl⟩:=hp fb (bn.1 h.iT.blk).1 h2;have h9:=a.symm.trans h.iT.blk;injection h9 with h9;injection h9 with _ h9 _;exact absurd h9 (by decide)
   .obtain⟨cs,t,fr,a,rfl⟩:=hp k h1 h2;exact⟨cs,_,fr,a,by decide⟩
   .obtain⟨cs,t,fr,a,rfl⟩:=hp k h1 h2;exact⟨cs,_,fr,a,by decide⟩
  have F8:Hid (w4.heap[tb]? =some (zg (.slice ra n rc) (aN) gv fb nv (aN) (aN) n)):=bL hk4 HT.out (fun h=>bH HR.out.row HT.out (by decide) tb h rfl);have kJ:Hid (Below w.heap.size w w4):=HB.out.trans (hk4.toBelow HB.out.size (fun k h=>(HR.out.row.lt k h).1));have Gq:=ae hR4;have vV:(gM l).length=n:=by rw[(eZ l).length_eq];exact KI.out.symm
  have hRu:(ids (gM l)).Nodup:=((eZ l).map _).nodup_iff.2 huu;have RL:Hid ((gM l).Pairwise sK/\(ids (gM l)).Nodup):=⟨jd huu,hRu⟩;have N7:Hid (Mm (gM l)):=fun p hp=>hw p ((Eh l p).1 hp);clear hr4 hk4 hR4 HR HT HB CS hRu c0 jk;generalize hRR:gM l=R at*;have Co:Hid (gM l=R):=hRR;clear hRR;have jk:=(bn.1 F8.out).1;have kU:=F8.out;have c0:w4.cell? (ah tb 0)=some (.slice ra n rc):=by simp[World.cell?,kU]
  clear kU
  go_wp2_with fail
  go_loopg [52] n (fun kx s52 wr=>∃(i:Nat) (xv:Value),s52=.int .i64 i/\i<=n/\n-i<=kx/\Hid (wr.heap[tb]? =some (zg (.slice ra n rc) xv gv fb nv (aN) (aN) n))/\Hid (wr.ownsRow w4.heap.size 2 1 xv i (((bX R).take i).map (Value.int .i64)))/\Hid (aC (fun k=>k=tb) w4 wr))
  case atStart=>exact⟨0,_,rfl,bC _,by omega,F8,dL _ _ _ _,aC.refl _ _⟩
  case round=>
   obtain⟨i,xv,rfl,hi,PH,Ce,uJ,mo⟩:=hrel;by_cases iC:i<n
   .have LA:=aY Gq.out.row mo.out (fun g h h2=>bH Gq.out.row F8.out (by decide) g h h2.symm);obtain⟨_,_,ee,-,-,jE⟩:=dU.aL cZ (by decide) LA;injection ee with e1 e2 e3;subst e1;clear e2 e3;obtain⟨b,off,ea,hbl,hcs⟩:=jE.get (by omega);have x0:=hcs i (by omega) 0 (by omega);have x1:=hcs i (by omega) 1 (by omega);have x2:=hcs i (by omega) 2 (by omega);simp only[fH,aT,aS,eG]at x0 x1 x2;have hxt:(bX R).take (i+1)=(bX R).take i++[R[i].1]:=by
     have h:i<(bX R).length:=by unfold bX;simp;omega
     rw[fG h];simp[bX]
    have HXT:=ae hxt;subst ea;clear hcs jE hxt LA;generalize R[i]=p at*;obtain⟨px,py,pi⟩:=p;simp only at HXT x0 x1 x2;have kU:=Ce.out;have yS:=(bn.1 kU).1;obtain⟨xa,xc,rfl⟩:=fI uJ.out
    go_upto_region 13 with fail
    obtain⟨w6,rO⟩:∃w6,w6=wr.alloc (.cells #[ag px,ag py,aJ pi] 29):=⟨_,rfl⟩;have jR:Below wr.heap.size wr w6:=by rw[rO];exact(aM _ _).alloc (aG _) _
    have N9:w6.heap[wr.heap.size]? =some (.cells #[ag px,ag py,aJ pi] 29 (0,0)):=by rw[rO];exact dE wr _
    have PY:=(jR.block tb yS).trans kU;have Yu:=mo.out.size;have Yv:=jR.size;have g1:=aj (w:=w6) (ad:=(ah tb 1)) (v:=.slice xa i xc) (by simp[World.cell?,PY]);have g2:=aj (w:=w6) (ad:=(ah wr.heap.size 0)) (v:=.int .i64 px) (by simp[World.cell?,N9]);have RN:=ae (au uJ.out jR);have lD:Hid (aC (fun k=>k=tb) w4 w6):=mo.out.below jR;have Yw:=ae PY;rw[<-rO];clear rO jR N9 PY kU x0 x1 x2;refine aF (fun W=>∃p:bg w6,W=p.W) [8,9,10,11] [(0,false),(1,false),(2,false),(3,false),(4,true),(5,false),(6,true)] (by kernel_rfl) (by kernel_rfl) (fun _ _ d _ _ h=>by cases d<;>exact h) ⟨⟨_,(aM _ _).drew⟩,rfl⟩ 5 rfl (by kernel_rfl) ?_;simp only[bG,bz,bA,bu,aS,aT,aU]
    repeat(refine aI (fun K hK=>?_);go_simp;first|(refine hK _ ?_;clear hK K)|(apply Exists.intro;refine⟨fun _=>?_,hK _ ?_⟩;rfl;clear hK K))
    refine aQ ?_;refine az [7] (by kernel_rfl) (by simp) ?_;refine ak.cons rfl (fun K hK=>?_) ak.nil;go_simp;refine hK _ _ (fun _ _=>⟨⟨_,(aM _ w6).alloc (aG _) _|>.drew⟩,rfl⟩) ?_;clear hK K;refine az [8] (by kernel_rfl) (by simp) ?_;refine ak.cons rfl (fun K hK=>?_) ak.nil;refine bM CV w4.heap.size (w:=(w6.alloc (.cells #[ag px] 2)).drew) (au RN.out ((aM _ w6).alloc (aG _) _|>.drew)) [.int .i64 px] rfl (by simp[Value.oneCell']) rfl (.tmp 60) (.tmp 63) rfl rfl w6.heap.size rfl (lX _ _) (by unfold maxLen;omega) (by omega) (by simp;omega) ?_;intro ga gz w8 uK hg8 ae9 amr;refine hK _ _ (fun _ h=>absurd (by simp) h) ?_;clear hK K;refine aK [9,10,11] _ _ _ (by kernel_rfl) ?_;simp only[pick,bz,bA,bu,aS,aT];have Ff:w6.grownBy w8 (Value.slice xa i xc).ownBlock:=dP (bV ((aM _ w6).alloc (aG _) _|>.drew)) hg8;have Gr:aC (fun k=>(Value.slice xa i xc).ownBlock=some k) w6 w8:=(aC.refl _ w6).grown Ff (fun k hk=>.inl hk);have Ha:∀g,(Value.slice xa i xc).ownBlock=some g->w4.heap.size<=g:=fun g h=>(RN.out.lt g h).1;have RO:=bL Gr Yw.out (fun h=>by have:=Ha tb h;omega);have q8:w8.cell? (ah tb 1)=some (.slice xa i xc):=by simp[World.cell?,RO]
    have f8:w8.frozen? (ah tb 1)=false:=by simp[World.frozen?,RO]
    have PZ:Hid ((w8.setCell (ah tb 1) (aD ga (i+1) gz)).heap[tb]? =some (zg (.slice (some (ah b off)) n rc) (aD ga (i+1) gz) gv fb nv (aN) (aN) n)):=dH w8 tb 1 _ _ _ RO;have Oa:Hid ((w8.setCell (ah tb 1) (aD ga (i+1) gz)).ownsRow w4.heap.size 2 1 (aD ga (i+1) gz) (i+1) (((bX R).take (i+1)).map (Value.int .i64))):=by
     have h9:=aY (S:=fun k=>k=tb) uK ((aC.refl (fun k=>k=tb) w8).set (a:=(ah tb 1)) (aD ga (i+1) gz) (.inl rfl)) (fun g h h2=>by have:=(uK.lt g h).1;omega);show World.ownsRow _ _ _ _ _ _ _;rw[HXT.out,dh];exact h9
    have JP:Hid (aC (fun k=>k=tb) w4 (w8.setCell (ah tb 1) (aD ga (i+1) gz))):=((lD.out.mono (S':=fun k=>k=tb\/w4.heap.size<=k) (fun k h=>.inl h)).trans (Gr.mono (fun k h=>.inr (Ha k h)))).strip.set (a:=(ah tb 1)) _ (.inl rfl);clear Gr Ff hg8 uK RO g1 g2 RN Yw lD Ha;go_wp2
    go_roundg (n-(i+1))
    case measure=>omega
    case rel=>exact⟨i+1,_,by go_num,by omega,aG _,PZ,Oa,JP⟩
   .obtain rfl:i=n:=by omega
    have hR5:xJ wr w.heap.size fb i (.slice ra i rc) gv nv fv R:=Gq.out.kept mo.out (fun k h1 h2=>by subst h2;exact⟨_,_,_,F8.out,by decide,by decide,by decide,by decide⟩);have hB5:Below w.heap.size w wr:=kJ.out.trans (mo.out.toBelow kJ.out.size (fun k h=>by omega));have LU:=uJ.out;rw[kZ (by unfold bX;simp;omega)]at LU;have om:=ae hB5;have Gc:=ae hR5;have hs5:=hB5.size;have ams:=ae (bR LU kJ.out.size);obtain⟨xa,xc,rfl⟩:=fI LU;clear hB5 hR5 LU mo uJ kJ Gq F8 c0 jk;have jk:=(bn.1 Ce.out).1;have XR:=@run_makeMap Tryz.prog
    go_upto_region 16 with fail
    obtain⟨pm,We⟩:∃pm,pm=wr.heap.size:=⟨_,rfl⟩;obtain⟨wm,ewm⟩:∃wm,wm=wr.alloc (.map #[] 0):=⟨_,rfl⟩;have hbm:Below wr.heap.size wr wm:=by rw[ewm];exact(aM _ _).alloc (aG _) _
    have HMm:Hid (∃D:DataW Unit,wm.ownsMap Tryz.prog 27 (plainElem Tryz.prog 3) pm 0 D/\pg D R 0):=by rw[ewm,We];exact⟨.map [],DF _ _ _ _,[],IsM.empty _ _⟩
    have Ub:=(hbm.block tb jk).trans Ce.out;have HTm:=ae Ub;have HRm:Hid (xJ wm w.heap.size fb i (.slice ra i rc) gv nv fv R):=Gc.out.kept ((aC.refl (fun _=>False) wr).below hbm) (fun k _ h=>h.elim);have HXm:=ae (au ams.out hbm);have HBm:Hid (Below w.heap.size w wm):=om.out.trans (hbm.mono hs5);have hpw:w.heap.size<=pm/\pm<wm.heap.size/\tb<pm:=by rw[ewm,We];simp;omega
    have c0:wm.cell? (ah tb 0)=some (.slice ra i rc):=by simp[World.cell?,Ub]
    rw[<-ewm,<-We];clear ewm We hbm Ub Ce Gc ams om hs5 jk XR
    go_wp2_with fail
    go_loopg [74] i (fun kx s74 wr=>∃(j:Nat),s74=.int .i64 j/\j<=i/\i-j<=kx/\Hid (aC (fun k=>k=pm) wm wr)/\Hid (∃D:DataW Unit,wr.ownsMap Tryz.prog 27 (plainElem Tryz.prog 3) pm j D/\pg D R j))
    case atStart=>exact⟨0,rfl,bC _,by omega,aC.refl _ _,HMm.out⟩
    case round=>
     obtain⟨j,rfl,hj,atr,vR,vT⟩:=hrel;by_cases hjn:j<i
     .have LA:=aY HRm.out.row vR.out (fun g h h2=>by
       subst h2;obtain⟨es,ck,hmb,-⟩:=HMm.out.choose_spec.1;rcases HRm.out.row.2 with⟨e9,-⟩|⟨g9,cap,cur,e9,-,hh,-⟩
       .rw[e9]at h;cases h
       .rw[e9]at h;injection h with h;subst h;rw[hh]at hmb;cases hmb)
      obtain⟨_,_,ee,-,-,jE⟩:=dU.aL cZ (by decide) LA;injection ee with e1 e2 e3;subst e1;clear e2 e3;obtain⟨b,off,ea,hbl,hcs⟩:=jE.get (by omega);have x0:=hcs j (by omega) 0 (by omega);have x1:=hcs j (by omega) 1 (by omega);have x2:=hcs j (by omega) 2 (by omega);simp only[fH,aT,aS,eG]at x0 x1 x2;have hjR:j<R.length:=by omega
      have hkey:Hid (keyOf Tryz.prog 27 (.int .u32 R[j].2.2)=some (.int .u32 R[j].2.2)):=keyOf_int_mk lh (N7.out _ (bW _));obtain⟨D,mf,hD⟩:=vT.out;have V8:=ae (hD.put hjR);have hs2:=vR.out.size;subst ea;clear hcs jE LA hD vT;generalize R[j]=p at*;obtain⟨px,py,pi⟩:=p;simp only at V8 hkey x0 x1 x2;have hown:=mf.kept (sO wr (.cells #[ag px,ag py,aJ pi] 29) none) (by simp)
      go_wp2_with (at_mapUpdate;refine Dv _ rfl _ _ _ 26 rfl 27 3 (int_keyed lh) tK _ pm j _ rfl hown (by unfold maxLen;omega) _ _ _ rfl rfl hkey.out _ [] (Ao nQ (by simp[Lit.wf,IntKind.min,IntKind.max,IntKind.bits,IntKind.signed];omega)) ?_;intro w3 kF oq)
      have Gh:Hid (aC (fun k=>k=pm) wm w3):=((vR.out.alloc _).grown oq (fun k h=>.inl (by injection h with h;exact h.symm)));have Hf:Hid (∃D:DataW Unit,w3.ownsMap Tryz.prog 27 (plainElem Tryz.prog 3) pm (j+1) D/\pg D R (j+1)):=⟨_,kF,V8.out⟩;clear kF oq hown mf V8;go_wp2
      go_roundg (i-(j+1))
      case measure=>omega
      case rel=>exact⟨j+1,by go_num,by omega,aG _,Gh,Hf⟩
     .obtain rfl:j=i:=by omega
      obtain⟨D0,⟨es0,ck0,ahJ,-⟩,-⟩:=HMm.out;have Gc:=ae (HRm.out.ama vR.out ahJ);have uJ:=ae (Yb HXm.out vR.out ahJ);have Ce:Hid (wr.heap[tb]? =_):=bL vR.out HTm.out (fun h=>by omega);have om:Hid (Below w.heap.size w wr):=HBm.out.trans (vR.out.toBelow HBm.out.size (fun k h=>by omega));obtain⟨D,hM5,hPD⟩:=vT.out;have Yx:=ae hM5;have HPD:=ae hPD;have hs5:=om.out.size;have att:pm<wr.heap.size:=by
       obtain⟨es,ck,hh,-⟩:=hM5;exact(bn.1 hh).1
      obtain⟨_,_,ee,-,-,jE⟩:=dU.aL cZ (by decide) Gc.out.row;injection ee with e1 e2 e3;subst e1;clear e2 e3;have CC2:=ae (uu ra R j rc wr vV jE (by omega));have yS:=(bn.1 Ce.out).1;have kU:=Ce.out;have c0:wr.cell? (ah tb 0)=some (.slice ra j rc):=by simp[World.cell?,kU]
      clear kU jE ahJ hM5 hPD vT HRm HXm HTm HBm HMm vR
      go_wp2_with fail
      refine CC2.out.mono ?_;rintro e w7 ⟨hv,rfl,hh7,uL⟩;have CS2:=ae (Uq vV (by omega) hh7 RL.out.2);have HH7:=ae hh7;have Cf:=ae uL;obtain⟨ha,hc,rfl⟩:=fI hh7;clear hh7 uL CC2
      go_wp2_with fail
      refine CS2.out.mono ?_;rintro e w8 ⟨rfl,hh8,Yy⟩;have JQ:Below wr.heap.size wr w8:=Cf.out.trans (Yy.toBelow Cf.out.size (fun k h=>(HH7.out.lt k h).1));have MF:=ae JQ;have HH8:=ae hh8;have Yz:Hid (xJ w8 w.heap.size fb j (.slice ra j rc) gv nv fv R):=Gc.out.kept ((aC.refl (fun _=>False) wr).below JQ) (fun k _ h=>h.elim);have YA:=ae (au uJ.out JQ);have HT8:Hid (w8.heap[tb]? =some (zg (.slice ra j rc) (.slice xa j xc) gv fb nv (aN) (aN) j)):=(JQ.block tb yS).trans Ce.out;have HM8:Hid (w8.ownsMap Tryz.prog 27 (plainElem Tryz.prog 3) pm j D):=zf Yx.out (JQ.block pm att);have YB:Hid (Below w.heap.size w w8):=om.out.trans (JQ.mono hs5);have hs8:=JQ.size;obtain⟨na,nc,rfl⟩:=fI Yz.out.jG;have hNl:=dA j;have aBV:=Ya (aZ j).length (by omega);generalize atu:(aZ j).length=NL at*;have HNL:Hid (NL=2*j-1):=hNl;have aBW:NL<=40000:=by omega
      clear hNl;clear Yy JQ hh8 CS2 Gc uJ Ce Yx om HH7 Cf MF c0;have kU:=HT8.out;have UG:tb<w8.heap.size:=by omega
      have c4:w8.cell? (ah tb 4)=some (.slice na NL nc):=by simp[World.cell?,kU]
      have xE:Below w8.heap.size w8 (w8.alloc (.cells (madeCells #[aN,aN] (NL*2)) 150)):=(aM _ _).alloc (aG _) _;have c5:(w8.alloc (.cells (madeCells #[aN,aN] (NL*2)) 150)).cell? (ah tb 5)=some (aN):=(xE.cell (p:=(ah tb 5)) UG).trans (by simp[World.cell?,kU]);have z5:(w8.alloc (.cells (madeCells #[aN,aN] (NL*2)) 150)).frozen? (ah tb 5)=false:=(xE.frozen (p:=(ah tb 5)) UG).trans (by simp[World.frozen?,kU]);have hta:=(xE.block tb UG).trans kU;have atv:=ae xE;have HTa:=ae hta;clear xE hta kU
      go_upto_region 24 with fail
      obtain⟨gl,YC⟩:∃gl,gl=w8.heap.size:=⟨_,rfl⟩;obtain⟨w9,Cw⟩:∃w9,w9=(w8.setCell (ah tb 5) (aD w8.heap.size NL NL)).alloc (.cells (madeCells #[aN,aN] (NL*2)) 150):=⟨_,rfl⟩;have Pp:aC (fun k=>k=tb) w8 w9:=by rw[Cw];exact((aC.refl (fun k=>k=tb) w8).set (a:=(ah tb 5)) _ (.inl rfl)).alloc _
      have hT9:w9.heap[tb]? =some (zg (.slice ra j rc) (.slice xa j xc) gv fb (.slice na NL nc) (aD gl NL NL) (aN) j):=by rw[Cw,YC];exact(dB _ _ _ (by simpa using UG)).trans (dH w8 tb 5 _ _ _ HT8.out)
      have hL9:dw w9 w.heap.size gl NL NL (fun _=>aN) (fun _=>aN):=by
       have h:=Ut (w8.setCell (ah tb 5) (aD w8.heap.size NL NL)) w.heap.size NL (by simp;exact YB.out.size) (by omega);rw[Cw,YC];simpa using h
      have ahK:gl<w9.heap.size/\tb<gl/\w.heap.size<=gl:=by rw[Cw,YC];simp;exact⟨UG,YB.out.size⟩
      have amv:Else w8 (fun k=>k=tb):=fun k h1 h2=>by subst h2;exact⟨_,_,_,HT8.out,by decide,by decide,by decide,by decide⟩
      have hR9:xJ w9 w.heap.size fb j (.slice ra j rc) gv (.slice na NL nc) fv R:=Yz.out.kept Pp amv;have hX9:w9.ownsRow w.heap.size 2 1 (.slice xa j xc) j ((bX R).map (Value.int .i64)):=qD YA.out Pp (fun k h1 h2=>by subst h2;exact⟨_,_,_,HT8.out,by decide⟩);have hH9:w9.ownsRow wr.heap.size 29 3 (.slice ha j hc) j ((kY R).flatMap fH):=qD HH8.out Pp (fun k h1 h2=>by subst h2;exact⟨_,_,_,HT8.out,by decide⟩);have hM9:w9.ownsMap Tryz.prog 27 (plainElem Tryz.prog 3) pm j D:=zf HM8.out (Pp.block pm (by omega) (by omega));have hB9:Below w.heap.size w w9:=YB.out.trans (Pp.toBelow YB.out.size (fun k h=>by omega));have PZ:=ae hT9;have HL9:=ae hL9;have HR9:=ae hR9;have Oa:=ae hX9;have HH9:=ae hH9;have UH:=ae hM9;have Gs:=ae hB9;have atx:=PZ.out;have aBY:=Pp.size;have aty:pm<w9.heap.size:=by omega
      have amy:∀g,(Value.slice xa j xc).ownBlock=some g->g<w9.heap.size:=fun g h=>(hX9.lt g h).2;have atz:=ae amy;clear atx amy;rw[<-Cw];clear Cw YC Pp hT9 hL9 amv hR9 hX9 hH9 hM9 hB9 HT8 Yz YA HH8 HM8 YB atv HTa c4 c5 z5 UG;obtain⟨bj,Qa⟩:∃bj,bj=decide (0<j):=⟨_,rfl⟩;have kj1:decide ((j:Int)>0)=bj:=by rw[Qa];simp
      have kj2:decide ((0:Int)<(j:Int))=bj:=by rw[Qa];simp
      have kj3:decide (0<j)=bj:=Qa.symm;have YD:=ae Qa;clear Qa
      go_upto_if 102 with fail
      clear kj1 kj2 kj3
      go_cut []from 12 (fun wx=>∃(yv:Value) (LN:Nat->Value),Hid (wx.heap[tb]? =some (zg (.slice ra j rc) (.slice xa j xc) gv fb (.slice na NL nc) (aD gl NL NL) yv j))/\Hid (wx.ownsRow w9.heap.size 2 1 yv j ((jL R (dQ R)).map (Value.int .i64)))/\Hid (dw wx w.heap.size gl NL NL LN (fun _=>aN))/\Hid (aC (fun k=>k=tb\/k=gl) w9 wx)/\
       Hid (∀k,k<NL->k≠2*j-2->LN k=aN)/\Hid (0<j->wx.ownsRow w9.heap.size 27 1 (LN (2*j-2)) j (((dQ R).map (ko R)).map (Value.int .u32))))
      case first=>
       by_cases hj0:j=0
       .obtain rfl:bj=false:=by rw[YD.out];simp;omega
        have hR0:R=[]:=jw (by omega);have hys:jL R (dQ R)=[]:=by subst hR0;simp[jL,dQ,kY]
        have HJ:=ae hj0;clear hj0;go_wp2;go_meet;refine⟨aN,fun _=>aN,PZ.out,?_,HL9.out,aC.refl _ _,fun _ _ _=>rfl,fun h=>absurd HJ.out (by omega)⟩;show World.ownsRow _ _ _ _ _ _ _;rw[hys,HJ.out];exact dL _ _ _ _
       .obtain rfl:bj=true:=by rw[YD.out];simp;omega
        have UI:2*j-2<NL:=by have:=HNL.out;omega
        obtain⟨rt,hrt⟩:∃rt,rt=2*j-2:=⟨_,rfl⟩;have HRT:=ae hrt;rw[<-hrt]at UI;clear hrt
        go_wp2_with fail
        go_loopg [105] j (fun kx atC wr=>∃(i:Nat) (yv vr:Value),atC=.int .i64 i/\i<=j/\j-i<=kx/\Hid (wr.heap[tb]? =some (zg (.slice ra j rc) (.slice xa j xc) gv fb (.slice na NL nc) (aD gl NL NL) yv j))/\Hid (wr.ownsRow w9.heap.size 2 1 yv i (((jL R (dQ R)).take i).map (Value.int .i64)))/\
         Hid (dw wr w.heap.size gl NL NL (upd (fun _=>aN) rt vr) (fun _=>aN))/\Hid (wr.ownsRow w9.heap.size 27 1 vr i ((((dQ R).take i).map (ko R)).map (Value.int .u32)))/\Hid (aC (fun k=>k=tb\/k=gl) w9 wr))
        case atStart=>
         refine⟨0,aN,aN,rfl,bC _,by omega,PZ.out,dL _ _ _ _,?_,dL _ _ _ _,aC.refl _ _⟩;show dw _ _ _ _ _ _ _;rw[PE _ rt _ rfl];exact HL9.out
        case round=>
         obtain⟨i,yv,vr,rfl,hi,aB2,Wl,HY1,Wm,HV1,nL⟩:=hrel;by_cases oV:i<j
         .have LA:=aY HH9.out nL.out (fun g h h2=>by
           rcases h2 with h2|h2
           .exact bH HH9.out PZ.out (by decide) g h h2.symm
           .subst h2;exact bK HL9.out HH9.out (by decide) g rfl h)
          obtain⟨_,_,ee,-,-,jE⟩:=dU.aL cZ (by decide) LA;injection ee with e1' e2' e3';subst e1';clear e2' e3';have hYl:(kY R).length=j:=by rw[(jo R).length_eq];exact vV
          obtain⟨b,off,ea,hbl,hcs⟩:=jE.get (by omega);have x0:=hcs i (by omega) 0 (by omega);have x1:=hcs i (by omega) 1 (by omega);have x2:=hcs i (by omega) 2 (by omega);simp only[fH,aT,aS,eG]at x0 x1 x2;have NU:i<(dQ R).length:=by rw[kL];omega
          have Xv:=ac3 NU;have hyt:(jL R (dQ R)).take (i+1)=(jL R (dQ R)).take i++[((kY R)[i]'(by omega)).2.1]:=by
           have h:i<(jL R (dQ R)).length:=by unfold jL;simp;exact NU
           rw[fG h];simp only[jL,fZ,mD,Xv]
          have hnt:((dQ R).take (i+1)).map (ko R)=((dQ R).take i).map (ko R)++[((kY R)[i]'(by omega)).2.2]:=by
           rw[fG NU,dh];simp only[mY,qX,ko,Xv]
          have HYT:=ae hyt;have HNT:=ae hnt;subst ea;clear hcs jE hyt hnt LA Xv;generalize(kY R)[i]'(by omega)=p at*;obtain⟨px,py,pi⟩:=p;simp only at HYT HNT x0 x1 x2;have kU:=Wl.out;have yS:=(bn.1 kU).1;obtain⟨ya,yc,rfl⟩:=fI HY1.out;obtain⟨wI,wJ,rfl⟩:=fI HV1.out
          go_upto_region 28 with fail
          obtain⟨xb,ahM⟩:∃xb,xb=wr.heap.size:=⟨_,rfl⟩;obtain⟨w6,rO⟩:∃w6,w6=wr.alloc (.cells #[ag px,ag py,aJ pi] 29):=⟨_,rfl⟩;have jR:Below wr.heap.size wr w6:=by rw[rO];exact(aM _ _).alloc (aG _) _
          have N9:w6.heap[xb]? =some (.cells #[ag px,ag py,aJ pi] 29 (0,0)):=by rw[rO,ahM];exact dE wr _
          have PY:=(jR.block tb yS).trans kU;have Yu:=nL.out.size;have Yv:=jR.size;have aB6:w9.heap.size<=xb:=by omega
          have g1:=aj (w:=w6) (ad:=(ah tb 6)) (v:=.slice ya i yc) (by simp[World.cell?,PY]);have g2:=aj (w:=w6) (ad:=(ah xb 1)) (v:=.int .i64 py) (by simp[World.cell?,N9]);have HY6:=ae (au HY1.out jR);have HV6:=ae (au HV1.out jR);have HL6:Hid (dw w6 w.heap.size gl NL NL (upd (fun _=>aN) rt (.slice wI i wJ)) (fun _=>aN)):=au Wm.out jR;have lD:Hid (aC (fun k=>k=tb\/k=gl) w9 w6):=nL.out.below jR;have Yw:=ae PY;have ahN:=ae N9;rw[<-rO,<-ahM];clear rO jR N9 PY kU x0 x1 x2 ahM HY1 HV1 Wm nL Wl;refine aF (fun W=>∃p:bg w6,W=p.W) [8,9,10,11] [(0,false),(1,false),(2,false),(3,false),(4,true),(5,false),(6,true)] (by kernel_rfl) (by kernel_rfl) (fun _ _ d _ _ h=>by cases d<;>exact h) ⟨⟨_,(aM _ _).drew⟩,rfl⟩ 5 rfl (by kernel_rfl) ?_;simp only[bG,bz,bA,bu,aS,aT,aU]
          repeat(refine aI (fun K hK=>?_);go_simp;first|(refine hK _ ?_;clear hK K)|(apply Exists.intro;refine⟨fun _=>?_,hK _ ?_⟩;rfl;clear hK K))
          refine aQ ?_;refine az [7] (by kernel_rfl) (by simp) ?_;refine ak.cons rfl (fun K hK=>?_) ak.nil;go_simp;refine hK _ _ (fun _ _=>⟨⟨_,(aM _ w6).alloc (aG _) _|>.drew⟩,rfl⟩) ?_;clear hK K;refine az [8] (by kernel_rfl) (by simp) ?_;refine ak.cons rfl (fun K hK=>?_) ak.nil;refine bM CV w9.heap.size (w:=(w6.alloc (.cells #[ag py] 2)).drew) (au HY6.out ((aM _ w6).alloc (aG _) _|>.drew)) [.int .i64 py] rfl (by simp[Value.oneCell']) rfl (.tmp 113) (.tmp 116) rfl rfl w6.heap.size rfl (lX _ _) (by unfold maxLen;omega) (by omega) (by simp;omega) ?_;intro ga gz wA YE hgA amA adn;refine hK _ _ (fun _ h=>absurd (by simp) h) ?_;clear hK K;refine aK [9,10,11] _ _ _ (by kernel_rfl) ?_;simp only[pick,bz,bA,bu,aS,aT];have Ff:w6.grownBy wA (Value.slice ya i yc).ownBlock:=dP (bV ((aM _ w6).alloc (aG _) _|>.drew)) hgA;have Gr:aC (fun k=>(Value.slice ya i yc).ownBlock=some k) w6 wA:=(aC.refl _ w6).grown Ff (fun k hk=>.inl hk);have hyb:∀g,(Value.slice ya i yc).ownBlock=some g->w9.heap.size<=g:=fun g h=>(HY6.out.lt g h).1;have htA:=bL Gr Yw.out (fun h=>by have:=hyb tb h;omega);have q8:wA.cell? (ah tb 6)=some (.slice ya i yc):=by simp[World.cell?,htA]
          have f8:wA.frozen? (ah tb 6)=false:=by simp[World.frozen?,htA]
          obtain⟨wB,ewB⟩:∃wB,wB=wA.setCell (ah tb 6) (aD ga (i+1) gz):=⟨_,rfl⟩;have Ho:aC (fun k=>k=tb) wA wB:=by rw[ewB];exact(aC.refl (fun k=>k=tb) wA).set (a:=(ah tb 6)) _ (.inl rfl)
          have htB:wB.heap[tb]? =some (zg (.slice ra j rc) (.slice xa j xc) gv fb (.slice na NL nc) (aD gl NL NL) (aD ga (i+1) gz) j):=by rw[ewB];exact dH wA tb 6 _ _ _ htA
          have Wn:Hid (wB.ownsRow w9.heap.size 2 1 (aD ga (i+1) gz) (i+1) (((jL R (dQ R)).take (i+1)).map (Value.int .i64))):=by
           have h9:=aY (S:=fun k=>k=tb) YE Ho (fun g h h2=>by have:=(YE.lt g h).1;omega);show World.ownsRow _ _ _ _ _ _ _;rw[HYT.out,dh];exact h9
          have hVB:wB.ownsRow w9.heap.size 27 1 (.slice wI i wJ) i ((((dQ R).take i).map (ko R)).map (Value.int .u32)):=aY (S:=fun k=>k=tb) (aY (S:=fun k=>(Value.slice ya i yc).ownBlock=some k) HV6.out Gr (fun g h h2=>bK HV6.out HY6.out (by decide) g h h2)) Ho (fun g h h2=>by have:=(HV6.out.lt g h).1;omega);have hLB:dw wB w.heap.size gl NL NL (upd (fun _=>aN) rt (.slice wI i wJ)) (fun _=>aN):=(dw.kept HL6.out Gr (fun h=>by have:=hyb gl h;omega)).kept Ho (by omega);have Ob:Hid (aC (fun k=>k=tb\/k=gl) w9 wB):=(((lD.out.mono (S':=fun k=>(k=tb\/k=gl)\/w9.heap.size<=k) (fun k h=>.inl h)).trans (Gr.mono (fun k h=>.inr (hyb k h)))).strip).trans (Ho.mono (fun k h=>.inl h));have hxB:wB.heap[xb]? =some (.cells #[ag px,ag py,aJ pi] 29 (0,0)):=bL Ho (bL Gr ahN.out (fun h=>bH HY6.out ahN.out (by decide) xb h rfl)) (by omega);have YF:=ae hVB;have Oc:=ae hLB;have Yf:=ae htB;have hsB:=Ob.out.size;clear Gr Ff hgA YE htA g1 g2 HY6 Yw lD hyb HV6 HL6 ahN Ho hVB amA adn
          go_upto_region 29 with fail
          rw[<-ewB];clear ewB q8 f8;have Qb:∀g,(Value.slice wI i wJ).ownBlock=some g->w9.heap.size<=g:=fun g h=>(YF.out.lt g h).1;have keep:∀{bk o:Nat} {v:Value},bk<wB.heap.size->¬(Value.slice wI i wJ).ownBlock=some bk->wB.cell? (ah bk o)=some v->∀p:yH (fun k=>(Value.slice wI i wJ).ownBlock=some k) wB,p.W.cell? (ah bk o)=some v:=fun hb hd hv p=>((di p.h hb hd).1 _).trans hv;have k1:=keep (bk:=tb) (o:=5) (v:=aD gl NL NL) (by omega) (fun h=>by have:=Qb tb h;omega) (by simp[World.cell?,htB]);have k2:=keep (bk:=xb) (o:=2) (v:=.int .u32 pi) (bn.1 hxB).1 (fun h=>bH YF.out hxB (by decide) xb h rfl) (by simp[World.cell?,hxB]);have k3:=keep (bk:=gl) (o:=rt*2) (v:=.slice wI i wJ) (by omega) (fun h=>by have:=Qb gl h;omega) ((hLB.get UI).1.trans (by rw[upd_same]));have q9:=(hLB.get UI).1;rw[upd_same]at q9;have f9:=hLB.frozenAt (rt*2);have hgB:gl<wB.heap.size:=by omega
          have NW:Hid (∀W,aC (fun k=>(Value.slice wI i wJ).ownBlock=some k) wB W->aO 95 #[ay fb] W fun e w'=>e=.returned (ag (rt:Nat))/\w'=W):=fun W hb=>by
           have hf9:=HR9.out.iT.blk;have Cr:=(bn.1 hf9).1;have hfB:=bL Ob.out hf9 (fun h=>by
            rcases h with h|h
            .subst h;have h9:=hf9.symm.trans PZ.out;injection h9 with h9;injection h9 with _ h9 _;exact absurd h9 (by decide)
            .subst h;exact bH HL9.out hf9 (by decide) fb rfl rfl)
           have hfW:=bL hb hfB (fun h=>by have:=Qb fb h;omega);have h:=jV fb j (by omega) (by omega) W (by simp[World.cell?,hfW]) (by simp[World.cell?,hfW]);rw[<-HRT.out]at h;exact h
          clear htB hxB hLB keep;refine aF (fun W=>∃p:yH (fun k=>(Value.slice wI i wJ).ownBlock=some k) wB,W=p.W) [19,20,21] [(0,false),(1,false),(2,false),(3,true),(4,false),(6,false),(7,false),(8,false),(9,true),(10,false),(15,false),(16,true)] (by kernel_rfl) (by kernel_rfl) (fun _ _ d _ _ h=>by cases d<;>exact h) ⟨⟨_,(aC.refl _ _).drew⟩,rfl⟩ 10 rfl (by kernel_rfl) ?_;simp only[bG,bz,bA,bu,aS,aT,aU]
          repeat(refine aI (fun K hK=>?_);go_simp;first|(refine hK _ ?_;clear hK K)|(apply Exists.intro;refine⟨fun _=>?_,hK _ ?_⟩;rfl;clear hK K))
          refine aQ ?_;refine az [5,17] (by kernel_rfl) (by simp) ?_;refine ak.cons rfl (fun K hK=>?_) (ak.cons rfl (fun K hK=>?_) ak.nil)
          .
           refine bD nM rfl _ _ rfl (vals:=#[ay fb]) rfl (NW.out _ ((aC.refl (fun k=>(Value.slice wI i wJ).ownBlock=some k) wB).drew)) ?_;rintro e w' ⟨rfl,JE⟩;subst JE;refine⟨_,rfl,hK _ _ (fun h _=>h) ?_⟩;clear hK K;refine az [11,17] (by kernel_rfl) (by simp) ?_;refine ak.cons rfl (fun K hK=>?_) (ak.cons rfl (fun K hK=>?_) ak.nil)
           .refine bD nM rfl _ _ rfl (vals:=#[ay fb]) rfl (NW.out _ ((aC.refl (fun k=>(Value.slice wI i wJ).ownBlock=some k) wB).drew)) ?_;rintro e w' ⟨rfl,JE⟩;subst JE;refine⟨_,rfl,hK _ _ (fun h _=>h) ?_⟩;clear hK K;refine cK [(12,false),(13,false),(14,true)] (by kernel_rfl) (fun _ _ d _ _ h=>by cases d<;>exact h) ⟨⟨_,((aC.refl (fun k=>(Value.slice wI i wJ).ownBlock=some k) wB).drew)⟩,rfl⟩ (by kernel_rfl) (by kernel_rfl) rfl ?_;simp only[bG,bz,bA,bu,aS,aT,aU]
            repeat(refine aI (fun K hK=>?_);go_simp;first|(refine hK _ ?_;clear hK K)|(apply Exists.intro;refine⟨fun _=>?_,hK _ ?_⟩;rfl;clear hK K))
            refine aQ ?_;refine az [17] (by kernel_rfl) (by simp) ?_;refine ak.cons rfl (fun K hK=>?_) ak.nil;go_simp;refine hK _ _ (fun _ _=>⟨⟨_,(((aC.refl (fun k=>(Value.slice wI i wJ).ownBlock=some k) wB).alloc _).drew)⟩,rfl⟩) ?_;clear hK K;refine az [18] (by kernel_rfl) (by simp) ?_;refine ak.cons rfl (fun K hK=>?_) ak.nil;refine bM yw w9.heap.size (w:=(wB.alloc (.cells #[aJ pi] 27)).drew) (au YF.out ((aM _ wB).alloc (aG _) _|>.drew)) [.int .u32 pi] rfl (by simp[Value.oneCell']) rfl (.tmp 134) (.tmp 137) rfl rfl wB.heap.size rfl (lX _ _) (by unfold maxLen;omega) (by omega) (by simp;omega) ?_;intro gc kQ wC uM V3 MG YG;have MH:wB.grownBy wC (Value.slice wI i wJ).ownBlock:=dP (bV ((aM _ wB).alloc (aG _) _|>.drew)) V3;have KC:aC (fun k=>(Value.slice wI i wJ).ownBlock=some k) wB wC:=(aC.refl _ wB).grown MH (fun k hk=>.inl hk);refine hK _ _ (fun _ _=>⟨⟨_,KC⟩,rfl⟩) ?_;clear hK K;refine aK [19,20,21] _ _ _ (by kernel_rfl) ?_;simp only[pick,bz,bA,bu,aS,aT];have MI:¬(Value.slice wI i wJ).ownBlock=some gl:=fun h=>by have:=Qb gl h;omega
            obtain⟨ckC,fkC⟩:=di KC hgB MI;have qC:=(ckC (rt*2)).trans q9;have fC:=(fkC (rt*2)).trans f9;have KS:aC (fun k=>k=gl) wC (wC.setCell (ah gl (rt*2)) (aD gc (i+1) kQ)):=(aC.refl (fun k=>k=gl) wC).set (a:=(ah gl (rt*2))) _ (.inl rfl);have HTD:Hid ((wC.setCell (ah gl (rt*2)) (aD gc (i+1) kQ)).heap[tb]? =some (zg (.slice ra j rc) (.slice xa j xc) gv fb (.slice na NL nc) (aD gl NL NL) (aD ga (i+1) gz) j)):=bL KS (bL KC Yf.out (fun h=>by have:=Qb tb h;omega)) (by omega);have HYD:Hid ((wC.setCell (ah gl (rt*2)) (aD gc (i+1) kQ)).ownsRow w9.heap.size 2 1 (aD ga (i+1) gz) (i+1) (((jL R (dQ R)).take (i+1)).map (Value.int .i64))):=aY (S:=fun k=>k=gl) (aY (S:=fun k=>(Value.slice wI i wJ).ownBlock=some k) Wn.out KC (fun g h h2=>bK YF.out Wn.out (by decide) g h2 h)) KS (fun g h h2=>by have:=(Wn.out.lt g h).1;omega);have HLD:Hid (dw (wC.setCell (ah gl (rt*2)) (aD gc (i+1) kQ)) w.heap.size gl NL NL (upd (fun _=>aN) rt (aD gc (i+1) kQ)) (fun _=>aN)):=by
             have h:=(dw.kept Oc.out KC MI).Er UI (aD gc (i+1) kQ);rwa [vo]at h
            have HVD:Hid ((wC.setCell (ah gl (rt*2)) (aD gc (i+1) kQ)).ownsRow w9.heap.size 27 1 (aD gc (i+1) kQ) (i+1) ((((dQ R).take (i+1)).map (ko R)).map (Value.int .u32))):=by
             have h:=aY (S:=fun k=>k=gl) uM KS (fun g h h2=>by have:=(uM.lt g h).1;omega);show World.ownsRow _ _ _ _ _ _ _;rw[HNT.out,dh];exact h
            have HKD:Hid (aC (fun k=>k=tb\/k=gl) w9 (wC.setCell (ah gl (rt*2)) (aD gc (i+1) kQ))):=(((Ob.out.mono (S':=fun k=>(k=tb\/k=gl)\/w9.heap.size<=k) (fun k h=>.inl h)).trans (KC.mono (fun k h=>.inr (Qb k h)))).strip).trans (KS.mono (fun k h=>.inr h));clear ckC fkC KC KS MH V3 uM k1 k2 k3 q9 f9 YF Oc Yf Wn Ob Qb MG YG;go_wp2
            go_roundg (j-(i+1))
            case measure=>omega
            case rel=>exact⟨i+1,_,_,by go_num,by omega,aG _,HTD,HYD,HLD,HVD,HKD⟩
           .go_simp;refine hK _ _ (fun _ _=>⟨⟨_,(((aC.refl (fun k=>(Value.slice wI i wJ).ownBlock=some k) wB).alloc _).drew)⟩,rfl⟩) ?_;clear hK K;refine az [11] (by kernel_rfl) (by simp) ?_;refine ak.cons rfl (fun K hK=>?_) ak.nil;refine bD nM rfl _ _ rfl (vals:=#[ay fb]) rfl (NW.out _ (((aC.refl (fun k=>(Value.slice wI i wJ).ownBlock=some k) wB).alloc _).drew)) ?_;rintro e w' ⟨rfl,JE⟩;subst JE;refine⟨_,rfl,hK _ _ (fun h _=>h) ?_⟩;clear hK K;refine cK [(12,false),(13,false),(14,true)] (by kernel_rfl) (fun _ _ d _ _ h=>by cases d<;>exact h) ⟨⟨_,(((aC.refl (fun k=>(Value.slice wI i wJ).ownBlock=some k) wB).alloc _).drew)⟩,rfl⟩ (by kernel_rfl) (by kernel_rfl) rfl ?_;simp only[bG,bz,bA,bu,aS,aT,aU]
            repeat(refine aI (fun K hK=>?_);go_simp;first|(refine hK _ ?_;clear hK K)|(apply Exists.intro;refine⟨fun _=>?_,hK _ ?_⟩;rfl;clear hK K))
            refine aQ ?_;refine az [18] (by kernel_rfl) (by simp) ?_;refine ak.cons rfl (fun K hK=>?_) ak.nil;refine bM yw w9.heap.size (w:=(wB.alloc (.cells #[aJ pi] 27)).drew) (au YF.out ((aM _ wB).alloc (aG _) _|>.drew)) [.int .u32 pi] rfl (by simp[Value.oneCell']) rfl (.tmp 134) (.tmp 137) rfl rfl wB.heap.size rfl (lX _ _) (by unfold maxLen;omega) (by omega) (by simp;omega) ?_;intro gc kQ wC uM V3 MG YG;have MH:wB.grownBy wC (Value.slice wI i wJ).ownBlock:=dP (bV ((aM _ wB).alloc (aG _) _|>.drew)) V3;have KC:aC (fun k=>(Value.slice wI i wJ).ownBlock=some k) wB wC:=(aC.refl _ wB).grown MH (fun k hk=>.inl hk);refine hK _ _ (fun _ _=>⟨⟨_,KC⟩,rfl⟩) ?_;clear hK K;refine aK [19,20,21] _ _ _ (by kernel_rfl) ?_;simp only[pick,bz,bA,bu,aS,aT];have MI:¬(Value.slice wI i wJ).ownBlock=some gl:=fun h=>by have:=Qb gl h;omega
            obtain⟨ckC,fkC⟩:=di KC hgB MI;have qC:=(ckC (rt*2)).trans q9;have fC:=(fkC (rt*2)).trans f9;have KS:aC (fun k=>k=gl) wC (wC.setCell (ah gl (rt*2)) (aD gc (i+1) kQ)):=(aC.refl (fun k=>k=gl) wC).set (a:=(ah gl (rt*2))) _ (.inl rfl);have HTD:Hid ((wC.setCell (ah gl (rt*2)) (aD gc (i+1) kQ)).heap[tb]? =some (zg (.slice ra j rc) (.slice xa j xc) gv fb (.slice na NL nc) (aD gl NL NL) (aD ga (i+1) gz) j)):=bL KS (bL KC Yf.out (fun h=>by have:=Qb tb h;omega)) (by omega);have HYD:Hid ((wC.setCell (ah gl (rt*2)) (aD gc (i+1) kQ)).ownsRow w9.heap.size 2 1 (aD ga (i+1) gz) (i+1) (((jL R (dQ R)).take (i+1)).map (Value.int .i64))):=aY (S:=fun k=>k=gl) (aY (S:=fun k=>(Value.slice wI i wJ).ownBlock=some k) Wn.out KC (fun g h h2=>bK YF.out Wn.out (by decide) g h2 h)) KS (fun g h h2=>by have:=(Wn.out.lt g h).1;omega);have HLD:Hid (dw (wC.setCell (ah gl (rt*2)) (aD gc (i+1) kQ)) w.heap.size gl NL NL (upd (fun _=>aN) rt (aD gc (i+1) kQ)) (fun _=>aN)):=by
             have h:=(dw.kept Oc.out KC MI).Er UI (aD gc (i+1) kQ);rwa [vo]at h
            have HVD:Hid ((wC.setCell (ah gl (rt*2)) (aD gc (i+1) kQ)).ownsRow w9.heap.size 27 1 (aD gc (i+1) kQ) (i+1) ((((dQ R).take (i+1)).map (ko R)).map (Value.int .u32))):=by
             have h:=aY (S:=fun k=>k=gl) uM KS (fun g h h2=>by have:=(uM.lt g h).1;omega);show World.ownsRow _ _ _ _ _ _ _;rw[HNT.out,dh];exact h
            have HKD:Hid (aC (fun k=>k=tb\/k=gl) w9 (wC.setCell (ah gl (rt*2)) (aD gc (i+1) kQ))):=(((Ob.out.mono (S':=fun k=>(k=tb\/k=gl)\/w9.heap.size<=k) (fun k h=>.inl h)).trans (KC.mono (fun k h=>.inr (Qb k h)))).strip).trans (KS.mono (fun k h=>.inr h));clear ckC fkC KC KS MH V3 uM k1 k2 k3 q9 f9 YF Oc Yf Wn Ob Qb MG YG;go_wp2
            go_roundg (j-(i+1))
            case measure=>omega
            case rel=>exact⟨i+1,_,_,by go_num,by omega,aG _,HTD,HYD,HLD,HVD,HKD⟩
          .go_simp;refine hK _ _ (fun _ _=>⟨⟨_,(((aC.refl (fun k=>(Value.slice wI i wJ).ownBlock=some k) wB).alloc _).drew)⟩,rfl⟩) ?_;clear hK K;refine az [5] (by kernel_rfl) (by simp) ?_;refine ak.cons rfl (fun K hK=>?_) ak.nil;refine bD nM rfl _ _ rfl (vals:=#[ay fb]) rfl (NW.out _ (((aC.refl (fun k=>(Value.slice wI i wJ).ownBlock=some k) wB).alloc _).drew)) ?_;rintro e w' ⟨rfl,JE⟩;subst JE;refine⟨_,rfl,hK _ _ (fun h _=>h) ?_⟩;clear hK K;refine az [11] (by kernel_rfl) (by simp) ?_;refine ak.cons rfl (fun K hK=>?_) ak.nil;refine bD nM rfl _ _ rfl (vals:=#[ay fb]) rfl (NW.out _ (((aC.refl (fun k=>(Value.slice wI i wJ).ownBlock=some k) wB).alloc _).drew)) ?_;rintro e w' ⟨rfl,JE⟩;subst JE;refine⟨_,rfl,hK _ _ (fun h _=>h) ?_⟩;clear hK K;refine cK [(12,false),(13,false),(14,true)] (by kernel_rfl) (fun _ _ d _ _ h=>by cases d<;>exact h) ⟨⟨_,(((aC.refl (fun k=>(Value.slice wI i wJ).ownBlock=some k) wB).alloc _).drew)⟩,rfl⟩ (by kernel_rfl) (by kernel_rfl) rfl ?_;simp only[bG,bz,bA,bu,aS,aT,aU]
           repeat(refine aI (fun K hK=>?_);go_simp;first|(refine hK _ ?_;clear hK K)|(apply Exists.intro;refine⟨fun _=>?_,hK _ ?_⟩;rfl;clear hK K))
           refine aQ ?_;refine az [18] (by kernel_rfl) (by simp) ?_;refine ak.cons rfl (fun K hK=>?_) ak.nil;refine bM yw w9.heap.size (w:=(wB.alloc (.cells #[aJ pi] 27)).drew) (au YF.out ((aM _ wB).alloc (aG _) _|>.drew)) [.int .u32 pi] rfl (by simp[Value.oneCell']) rfl (.tmp 134) (.tmp 137) rfl rfl wB.heap.size rfl (lX _ _) (by unfold maxLen;omega) (by omega) (by simp;omega) ?_;intro gc kQ wC uM V3 MG YG;have MH:wB.grownBy wC (Value.slice wI i wJ).ownBlock:=dP (bV ((aM _ wB).alloc (aG _) _|>.drew)) V3;have KC:aC (fun k=>(Value.slice wI i wJ).ownBlock=some k) wB wC:=(aC.refl _ wB).grown MH (fun k hk=>.inl hk);refine hK _ _ (fun _ _=>⟨⟨_,KC⟩,rfl⟩) ?_;clear hK K;refine aK [19,20,21] _ _ _ (by kernel_rfl) ?_;simp only[pick,bz,bA,bu,aS,aT];have MI:¬(Value.slice wI i wJ).ownBlock=some gl:=fun h=>by have:=Qb gl h;omega
           obtain⟨ckC,fkC⟩:=di KC hgB MI;have qC:=(ckC (rt*2)).trans q9;have fC:=(fkC (rt*2)).trans f9;have KS:aC (fun k=>k=gl) wC (wC.setCell (ah gl (rt*2)) (aD gc (i+1) kQ)):=(aC.refl (fun k=>k=gl) wC).set (a:=(ah gl (rt*2))) _ (.inl rfl);have HTD:Hid ((wC.setCell (ah gl (rt*2)) (aD gc (i+1) kQ)).heap[tb]? =some (zg (.slice ra j rc) (.slice xa j xc) gv fb (.slice na NL nc) (aD gl NL NL) (aD ga (i+1) gz) j)):=bL KS (bL KC Yf.out (fun h=>by have:=Qb tb h;omega)) (by omega);have HYD:Hid ((wC.setCell (ah gl (rt*2)) (aD gc (i+1) kQ)).ownsRow w9.heap.size 2 1 (aD ga (i+1) gz) (i+1) (((jL R (dQ R)).take (i+1)).map (Value.int .i64))):=aY (S:=fun k=>k=gl) (aY (S:=fun k=>(Value.slice wI i wJ).ownBlock=some k) Wn.out KC (fun g h h2=>bK YF.out Wn.out (by decide) g h2 h)) KS (fun g h h2=>by have:=(Wn.out.lt g h).1;omega);have HLD:Hid (dw (wC.setCell (ah gl (rt*2)) (aD gc (i+1) kQ)) w.heap.size gl NL NL (upd (fun _=>aN) rt (aD gc (i+1) kQ)) (fun _=>aN)):=by
            have h:=(dw.kept Oc.out KC MI).Er UI (aD gc (i+1) kQ);rwa [vo]at h
           have HVD:Hid ((wC.setCell (ah gl (rt*2)) (aD gc (i+1) kQ)).ownsRow w9.heap.size 27 1 (aD gc (i+1) kQ) (i+1) ((((dQ R).take (i+1)).map (ko R)).map (Value.int .u32))):=by
            have h:=aY (S:=fun k=>k=gl) uM KS (fun g h h2=>by have:=(uM.lt g h).1;omega);show World.ownsRow _ _ _ _ _ _ _;rw[HNT.out,dh];exact h
           have HKD:Hid (aC (fun k=>k=tb\/k=gl) w9 (wC.setCell (ah gl (rt*2)) (aD gc (i+1) kQ))):=(((Ob.out.mono (S':=fun k=>(k=tb\/k=gl)\/w9.heap.size<=k) (fun k h=>.inl h)).trans (KC.mono (fun k h=>.inr (Qb k h)))).strip).trans (KS.mono (fun k h=>.inr h));clear ckC fkC KC KS MH V3 uM k1 k2 k3 q9 f9 YF Oc Yf Wn Ob Qb MG YG;go_wp2
           go_roundg (j-(i+1))
           case measure=>omega
           case rel=>exact⟨i+1,_,_,by go_num,by omega,aG _,HTD,HYD,HLD,HVD,HKD⟩
         .obtain rfl:i=j:=by omega
          have hoL:=kL R;have hyl:(jL R (dQ R)).length=i:=by simp[jL,hoL];omega
          have HYX:Hid (wr.ownsRow w9.heap.size 2 1 yv i ((jL R (dQ R)).map (Value.int .i64))):=by
           have h:=HY1.out;rw[kZ (by omega)]at h;exact h
          have HVX:Hid (wr.ownsRow w9.heap.size 27 1 vr i (((dQ R).map (ko R)).map (Value.int .u32))):=by
           have h:=HV1.out;rw[kZ (by omega)]at h;exact h
          clear hoL hyl;go_wp2;go_meet;refine⟨yv,upd (fun _=>aN) rt vr,Wl.out,HYX.out,Wm.out,nL.out,?_,?_⟩
          .intro k hk hne;exact upd_ne (by have:=HRT.out;omega)
          .intro _;show World.ownsRow _ _ _ _ _ _ _;rw[<-HRT.out,upd_same];exact HVX.out
      case rest=>
       obtain⟨yv,LN0,HTc,HYc,HLc,HKc,HEc,HVc⟩:=hcut;have yo:=pz RL.out.1 RL.out.2;have HW:=ae yo;have hsc:=HKc.out.size;have amH:Else w9 (fun k=>k=tb\/k=gl):=fun k h1 h2=>by
        rcases h2 with h2|h2
        .subst h2;exact⟨_,_,_,PZ.out,by decide,by decide,by decide,by decide⟩
        .subst h2;rcases HL9.out.2 with⟨e9,-⟩|⟨g,cap,cur,e9,-,hh,-⟩
         .cases e9
         .injection e9 with e9;injection e9 with e9;injection e9 with e9;subst e9;exact⟨_,_,_,hh,by decide,by decide,by decide,by decide⟩
       have HRc:=ae (HR9.out.kept HKc.out amH);have HXc:Hid (wc.ownsRow w.heap.size 2 1 (.slice xa j xc) j ((bX R).map (Value.int .i64))):=aY Oa.out HKc.out (fun g h h2=>by
        rcases h2 with h2|h2
        .exact bH Oa.out PZ.out (by decide) g h h2.symm
        .subst h2;exact bK HL9.out Oa.out (by decide) g rfl h)
       have HMc:Hid (wc.ownsMap Tryz.prog 27 (plainElem Tryz.prog 3) pm j D):=zf UH.out (HKc.out.block pm aty (fun h=>by
        obtain⟨es,ck,hh,-⟩:=UH.out;rcases h with h|h
        .subst h;have h9:=hh.symm.trans PZ.out;cases h9
        .subst h;rcases HL9.out.2 with⟨e9,-⟩|⟨g,cap,cur,e9,-,Gt,-⟩
         .cases e9
         .injection e9 with e9;injection e9 with e9;injection e9 with e9;subst e9;rw[hh]at Gt;cases Gt))
       have HBc:Hid (Below w.heap.size w wc):=Gs.out.trans (HKc.out.toBelow Gs.out.size (fun k h=>by rcases h with h|h<;>omega));have atI:Hid (Be wc w9.heap.size j R (dQ R) NL LN0 (fun _=>aN)):=by
        have MJ:∀t s,FT.At (aZ j) t s->t.root s=2*j-2->nl (dQ R) t=dQ R:=fun t s ha hr=>by
         have hj:=lS ha;obtain⟨rfl,rfl⟩:=FT.At.unique ha (kH j hj) (by rw[mh hj,hr]);have h:=yo.top (by omega);rwa [vV]at h
        refine⟨fun t s ha h2=>?_,fun l r q ha h2=>?_,fun l r q ha h2=>?_,fun k h1 h2=>?_,fun k h1=>rfl,fun k h1 g h2=>?_,fun i k h1 h2 h3 g h4 h5=>?_,fun i k h1 h2 h3 g h4 h5=>by cases h4⟩
        .rcases h2 with h2|⟨l,r,q,h3,h4,h5⟩
         .rw[h2,MJ t s ha h2];have:=HVc.out (lS ha);rw[kL,vV];exact this
         .have:=h3.lt;omega
        .have hj:=lS ha;have h1:=FT.BU (fQ hj▸ha);rw[mh hj]at h1;have h3:=ha.left.lt;have h4:=ha.right.lt;exact⟨HEc.out _ (by omega) h1.1,HEc.out _ (by omega) h1.2⟩
        .have:=ha.lt;omega
        .omega
        .by_cases e:k=2*j-2
         .have hj:0<j:=by rw[dA]at h1;omega
          subst e;exact(HVc.out hj).lt g h2
         .rw[HEc.out k (by omega) e]at h2;cases h2
        .by_cases e:i=2*j-2
         .rw[HEc.out k (by omega) (by omega)]at h5;cases h5
         .rw[HEc.out i (by omega) e]at h4;cases h4
       have kU:=HTc.out;have c4:wc.cell? (ah tb 4)=some (.slice na NL nc):=by simp[World.cell?,kU]
       clear kU yo amH HR9 Oa UH Gs HH9 HEc HVc
       go_wp2_with fail
       go_loopg [15] NL (fun kx s15 wr=>∃(m:Nat) (z:Int) (LN LL:Nat->Value),s15=.int .i64 z/\z+1=(m:Int)/\m<=NL/\m<=kx/\Hid (dw wr w.heap.size gl NL NL LN LL)/\Hid (aC (fun k=>k=gl) wc wr)/\Hid (Be wr w9.heap.size j R (dQ R) m LN LL))
       case atStart=>exact⟨NL,_,LN0,_,rfl,by omega,aG _,aG _,HLc,aC.refl _ _,atI⟩
       case round=>
        obtain⟨m,z,LN,LL,rfl,hz,hm,aB9,HL4,xG,YH⟩:=hrel;have MK:(aZ j).length=NL:=atu;by_cases Dk:0<m
        .obtain⟨k,rfl⟩:∃k,m=k+1:=⟨m-1,by omega⟩;obtain rfl:z=(k:Int):=by omega
         obtain⟨t,s,ha,ML⟩:=vz (j:=j) (k:=k) (by omega);have hj:=lS ha;obtain⟨gn,cn,e9,-,atJ,-⟩:=bf HRc.out.jG (by omega);injection e9 with e91 e92 e93;subst e91;have kU:=HTc.out;have htg:tb≠gl:=by omega
         have hT4:=bL xG.out HTc.out (fun h=>htg h);have c4':wr.cell? (ah tb 4)=some (aD gn (aZ j).length nc):=by rw[MK];simp[World.cell?,hT4]
         have c5':wr.cell? (ah tb 5)=some (aD gl (aZ j).length NL):=by rw[MK];simp[World.cell?,hT4]
         have amI:gn≠gl:=fun h=>bK HLc.out HRc.out.jG (by decide) gl rfl (by rw[<-h];rfl);have ahP:dU qo 7 wr (some (ah gn 0)) (aZ j):=by
          have LA:=aY HRc.out.jG xG.out (fun g h h2=>by have h9:=Xm h;omega);obtain⟨_,_,ee,-,-,h9⟩:=dU.aL jO (by decide) LA;injection ee with e1 e2 e3;rw[<-e1]at h9;exact h9
         have amJ:w9.heap.size<=wr.heap.size:=by have:=xG.out.size;omega
         have hL4:dw wr w.heap.size gl (aZ j).length NL LN LL:=by rw[MK];exact HL4.out
         have CSP:aO 96 #[ay tb,ag k,.map (some pm)] wr fun e w'=>e=.returned (.tuple #[])/\∃LN' LL',dw w' w.heap.size gl NL NL LN' LL'/\aC (fun k=>k=gl) wr w'/\Be w' w9.heap.size j R (dQ R) k LN' LL':=by
          cases t with
          |leaf a=>
           refine(Ba a s tb gn 0 nc gl NL w.heap.size k pm (aZ j) LN LL wr ha ML (by omega) c4' ahP c5' hL4).mono ?_;rintro e w' ⟨rfl,vf,hvs,h1,h2,h3⟩;rw[MK]at h1;exact⟨rfl,LN,_,h1,h3,YH.out.leaf HL4.out ha ML h3 amJ hvs h2⟩
          |node l r=>
           have ahQ:=YH.out.cur ha (by omega);rw[ML]at ahQ;obtain⟨an,cnn,eL,-,-,jE⟩:=Rd.aL ahQ;rw[cu]at eL;have Ru:=FT.yU l r s;obtain⟨em1,em2⟩:=YH.out.emp l r s ha (by omega);have atM:∀p,p∈(dO 0 j).subs 0->p.1.wf:=fun p hp=>FT.rC _ _ (bT 0 j hj).1 p hp;have ahR:=atM _ (FT.at_mem (fQ hj▸ha));have YI:∀i,i∈nl (dQ R) (.node l r)->i<j:=fun i hi=>by
            have:=HW.out.lt (bQ.1 hi).1;omega
           have hhi:=FT.Dh _ 0 (bT 0 j hj).1 _ (FT.at_mem (fQ hj▸ha));have aCg:(FT.node l r).hi<=(dO 0 j).hi:=hhi;have amK:=(bT 0 j hj).2.2;have Mg:l.hi<=(FT.node l r).hi:=by have:=FT.fe r ahR.2.1;have:=ahR.2.2;show l.hi<=r.hi;omega
           have Mi:(nl (dQ R) (.node l r)).length<=(dQ R).length:=gG _ _;rw[kL]at Mi;have hmap:wr.ownsMap Tryz.prog 27 (plainElem Tryz.prog 3) pm j D:=zf HMc.out (xG.out.block pm (by omega) (fun h=>by
            obtain⟨es,ck,hh,-⟩:=HMc.out;subst h;rcases HLc.out.2 with⟨e9,-⟩|⟨g,cap,cur,e9,-,Gt,-⟩
            .cases e9
            .injection e9 with e9;injection e9 with e9;injection e9 with e9;subst e9;rw[hh]at Gt;cases Gt))
           refine(AZ l r s tb gn 0 nc gl NL w.heap.size k (l.root s) (r.root (s+l.size)) l.hi pm j (aZ j) LN LL (nl (dQ R) (.node l r)) (ko R) an cnn D wr ha ML rfl rfl rfl (by omega) (by omega) c4' ahP c5' hL4 ⟨amI,htg,fun b o e=>?_⟩ eL jE (by omega) em1 em2 hmap (fun i hi=>?_) (fun i hi=>?_) (fun i hi=>by have:=YI i hi;omega)).mono ?_
           .intro h;subst h;exact bK HL4.out ahQ (by decide) b rfl (by rw[eL,e];rfl)
           .obtain⟨sm,hm⟩:=HPD.out;have h9:=(hm.2.2.2.2 (ko R i)).2 (.lit (.int .i64 0));rw[h9];have h8:=EL RL.out.2 j (by omega) i (YI i hi);have h7:placeF R j (ko R i)=some (i:Int):=h8;rw[h7]
           .have kE:i<R.length:=by have:=YI i hi;omega
            have h8:bY R i=R[i]:=by simp[bY,kE]
            unfold ko;rw[h8];exact N7.out _ (bW kE)
           .rintro e w' ⟨rfl,vl,vr,vf,h1,h2,h3,h4,h5,h6⟩;rw[MK]at h1;exact⟨rfl,_,_,h1,h6,YH.out.node HL4.out ha ahR ML h6 amJ h2 h3 h4 h5⟩
         have amL:=ae CSP;clear CSP hL4 ahP hT4 c4' c5' kU amI e92 e93
         go_wp2_with fail
         refine amL.out.mono ?_;rintro e w' ⟨rfl,LN',LL',h1,h2,h3⟩;have H1:=ae h1;have H2:Hid (aC (fun k=>k=gl) wc w'):=xG.out.trans h2;have H3:=ae h3;clear h1 h2 h3 amL;go_wp2
         go_roundg k
         case measure=>omega
         case rel=>exact⟨k,(k:Int)-1,LN',LL',by go_num,by omega,by omega,aG _,H1,H2,H3⟩
        .obtain rfl:m=0:=by omega
         obtain rfl:z=-1:=by omega
         have hsr:=xG.out.size;have NQ:xJ wr w.heap.size fb j (.slice ra j rc) gv (.slice na NL nc) fv R:=HRc.out.kept xG.out (fun k h1 h2=>by
          subst h2;rcases HLc.out.2 with⟨e9,-⟩|⟨g,cap,cur,e9,-,hh,-⟩
          .cases e9
          .injection e9 with e9;injection e9 with e9;injection e9 with e9;subst e9;exact⟨_,_,_,hh,by decide,by decide,by decide,by decide⟩)
         have hXr:=aY HXc.out xG.out (fun g h h2=>by subst h2;exact bK HLc.out HXc.out (by decide) g rfl h);have hYr:=aY HYc.out xG.out (fun g h h2=>by subst h2;exact bK HLc.out HYc.out (by decide) g rfl h);have htg:tb≠gl:=by omega
         have hTr:=bL xG.out HTc.out (fun h=>htg h);have hBr:Below w.heap.size w wr:=HBc.out.trans (xG.out.toBelow HBc.out.size (fun k h=>by omega));have hLr:=HL4.out;have hoL:=kL R;have H9:Hid (jZ wr w.heap.size wr.heap.size tb fb R (List.replicate R.length false) (dQ R) ⟨.slice ra j rc,.slice xa j xc,gv,.slice na NL nc,aD gl NL NL,yv,fv,LN,LL⟩/\Below w.heap.size w wr):=by
          have e1:R.length=j:=vV;have Cr:=(bn.1 NQ.iT.blk).1;have amM:=(bn.1 hTr).1;refine⟨⟨?_,⟨Wj,amM,NQ.lof,Cr,aG _⟩,?_,?_,?_,?_,?_,?_,?_,?_,?_,?_,?_,?_,?_,?_,?_⟩,hBr⟩
          .rw[hoL,e1];exact hTr
          .rw[e1];exact NQ.row
          .rw[e1];exact hXr
          .rw[e1];exact NQ.Hd
          .rw[e1];exact NQ.iT
          .rw[e1,MK];have h:=NQ.jG;rw[MK]at h;exact h
          .rw[e1,MK];exact hLr
          .rw[hoL,e1];exact bR hYr (by omega)
          .intro t s ha;rw[e1]at ha;exact bR (YH.out.all ha) (by omega)
          .intro l r s ha;rw[e1]at ha;exact bR (YH.out.Em l r s ha (bC _)) (by omega)
          .intro k hk;rw[e1]at hk;exact(YH.out.G6 k hk (bC _)).1
          .intro v hv g hg;rcases hv with rfl|rfl|rfl|rfl|rfl|rfl|rfl
           .exact(NQ.row.lt g hg).2
           .exact(hXr.lt g hg).2
           .exact(NQ.Hd.lt g hg).2
           .exact(NQ.jG.lt g hg).2
           .exact(hLr.lt g hg).2
           .exact(hYr.lt g hg).2
           .exact(NQ.iT.row.lt g hg).2
          .intro k hk;rw[e1]at hk;exact⟨fun g hg=>(YH.out.ac4 k hk g hg).2,fun g hg=>((YH.out.G6 k hk (bC _)).2 g hg).2⟩
          .intro g hg h2;have a1:=atz.out g hg;have a2:=(hYr.lt g h2).1;omega
          .intro i k h1 h2 h3;rw[e1]at h1 h2;exact YH.out.NV i k h1 h2 h3
          .intro i k h1 h2 h3;rw[e1]at h1 h2;exact YH.out.Mf i k h1 h2 h3
         clear NQ hXr hYr hTr hBr hLr hoL;go_wp2;go_ret2;rw[Co.out];exact⟨tb,fb,_,rfl,H9.out.1,H9.out.2⟩
end Go.Proofs.YtkjdbndekceffaaGreat
namespace Go.Proofs.YtkjdbndekceffaaGreat
open Go.RowKit Go.Sort Go.Shelf Go.Lib Go.Maps
def oM {α:Type} (f:Nat->α) (k:Nat) (v:α):Nat->α:=fun j=>if j=k then v else f j
theorem j3 {α:Type} (f:Nat->α) (k:Nat) (v:α):oM f k v k=v:=by simp[oM]
theorem zx {α:Type} {f:Nat->α} {k j:Nat} {v:α} (h:j≠k):oM f k v j=f j:=by simp[oM,h]
structure gY (w:World) (lo hi tb fb:Nat) (R:List Pt) (gone:List Bool) (cnt:Nat) (yy:List Nat) (nc:Nat->List Nat) (lc:Nat->List Int) (V:AV):Prop where
 blk:w.heap[tb]? =some (zg V.rv V.xv V.gv fb V.nv V.lv V.yv cnt)
 fo:lo<=tb/\tb<hi/\lo<=fb/\fb<hi/\hi<=w.heap.size
 row:w.ownsRow lo 29 3 V.rv R.length (R.flatMap fH)
 xs:w.ownsRow lo 2 1 V.xv R.length ((bX R).map (Value.int .i64))
 Hd:w.ownsRow lo 4 1 V.gv R.length (gone.map Value.bool)
 iT:o8 w lo fb R.length V.fv
 jG:w.ownsRow lo 163 7 V.nv (aZ R.length).length ((aZ R.length).flatMap qo)
 Jl:w.ownsRow lo 150 2 V.lv (aZ R.length).length (XU V.LN V.LL (aZ R.length).length)
 ys:w.ownsRow lo 2 1 V.yv yy.length ((jL R yy).map (Value.int .i64))
 Lt:∀k,k<(aZ R.length).length->w.ownsRow lo 27 1 (V.LN k) (nc k).length (((nc k).map (ko R)).map (Value.int .u32))
 Em:∀l r s,FT.At (aZ R.length) (.node l r) s->w.ownsRow lo 3 1 (V.LL ((FT.node l r).root s)) (lc ((FT.node l r).root s)).length ((lc ((FT.node l r).root s)).map (Value.int .i64))
 G6:∀k,k<(aZ R.length).length->∃a m c,V.LL k=.slice a m c
 top:∀v,v=V.rv\/v=V.xv\/v=V.gv\/v=V.nv\/v=V.lv\/v=V.yv\/v=V.fv->∀g,v.ownBlock=some g->g<hi
 qz:∀k,k<(aZ R.length).length->(∀g,(V.LN k).ownBlock=some g->g<hi)/\∀g,(V.LL k).ownBlock=some g->g<hi
 V7:∀g,V.xv.ownBlock=some g->V.yv.ownBlock≠some g
 NV:∀i k,i<(aZ R.length).length->k<(aZ R.length).length->i≠k->∀g,(V.LN i).ownBlock=some g->(V.LN k).ownBlock≠some g
 Mf:∀i k,i<(aZ R.length).length->k<(aZ R.length).length->i≠k->∀g,(V.LL i).ownBlock=some g->(V.LL k).ownBlock≠some g
theorem fu {w w':World} {g base:Nat} {cs:Array Value} {t:TypeId} {fr:Nat×Nat} {e:TypeId} {sz:Nat} {v:Value} {n:Nat} {xs:List Value} (h:w.ownsRow base e sz v n xs) (K:aC (fun k=>k=g) w w') (hg:w.heap[g]? =some (.cells cs t fr)) (ht:t≠e):w'.ownsRow base e sz v n xs:=
 qD h K fun k h1 h2=>by subst h2;exact⟨_,_,_,hg,ht⟩
theorem ado {w w':World} {g base:Nat} {e:TypeId} {sz:Nat} {v:Value} {n:Nat} {xs:List Value} (h:w.ownsRow base e sz v n xs) (K:aC (fun k=>k=g) w w') (hg:v.ownBlock≠some g):w'.ownsRow base e sz v n xs:=
 aY h K fun k h1 h2=>by subst h2;exact hg h1
theorem Bl {w w':World} {g base fb n:Nat} {fv:Value} {cs:Array Value} {t:TypeId} {fr:Nat×Nat} (h:o8 w base fb n fv) (K:aC (fun k=>k=g) w w') (hg:w.heap[g]? =some (.cells cs t fr)) (h1:t≠236) (h2:t≠163):o8 w' base fb n fv:=
 ⟨bL K h.blk fun e=>by subst e;have h9:=hg.symm.trans h.blk;injection h9 with h9;injection h9 with _ h9 _;exact h1 h9,fu h.row K hg h2⟩
theorem JR {w w':World} {g b:Nat} {cs cs':Array Value} {t t':TypeId} {fr fr':Nat×Nat} (h:w.heap[b]? =some (.cells cs' t' fr')) (K:aC (fun k=>k=g) w w') (hg:w.heap[g]? =some (.cells cs t fr)) (h1:t≠t'):w'.heap[b]? =some (.cells cs' t' fr'):=
 bL K h fun e=>by subst e;have h9:=hg.symm.trans h;injection h9 with h9;injection h9 with _ h9 _;exact h1 h9
theorem rP {w:World} {base g n c:Nat} {e:TypeId} {sz m:Nat} {xs:List Value} (h:w.ownsRow base e sz (aD g n c) m xs):∃cs fr,w.heap[g]? =some (.cells cs e fr):=by
 rcases h.2 with⟨e9,-⟩|⟨g',cap,cur,e9,-,hh,-⟩
 .cases e9
 .injection e9 with e9;injection e9 with e9;injection e9 with e9;subst e9;exact⟨_,_,hh⟩
section
variable {w w':World} {lo hi tb fb:Nat} {R:List Pt} {gone:List Bool} {cnt:Nat} {yy:List Nat} {nc:Nat->List Nat} {lc:Nat->List Int} {V:AV}
theorem gY.kept {S:Nat->Prop} (h:gY w lo hi tb fb R gone cnt yy nc lc V) (K:aC S w w') (hS:∀k,lo<=k->k<hi->¬S k):gY w' lo hi tb fb R gone cnt yy nc lc V:=by
 have ht:=h.top;have hr:∀{e:TypeId} {sz:Nat} {v:Value} {n:Nat} {xs:List Value},w.ownsRow lo e sz v n xs->(∀g,v.ownBlock=some g->g<hi)->w'.ownsRow lo e sz v n xs:=fun hr hv=>aY hr K fun g e=>hS g (hr.lt g e).1 (hv g e);exact⟨bL K h.blk (hS tb h.fo.1 h.fo.2.1),⟨h.fo.1,h.fo.2.1,h.fo.2.2.1,h.fo.2.2.2.1,bO h.fo.2.2.2.2 K.size⟩,
  hr h.row (ht _ (by simp)),hr h.xs (ht _ (by simp)),hr h.Hd (ht _ (by simp)),
  ⟨bL K h.iT.blk (hS fb h.fo.2.2.1 h.fo.2.2.2.1),hr h.iT.row (ht _ (by simp))⟩,hr h.jG (ht _ (by simp)),hr h.Jl (ht _ (by simp)),hr h.ys (ht _ (by simp)),
  fun k hk=>hr (h.Lt k hk) (h.qz k hk).1,fun l r s ha=>hr (h.Em l r s ha) (h.qz _ ha.lt).2,h.G6,h.top,h.qz,h.V7,h.NV,h.Mf⟩
theorem gY.below {B:Nat} (h:gY w lo hi tb fb R gone cnt yy nc lc V) (hb:Below B w w') (hB:hi<=B):gY w' lo hi tb fb R gone cnt yy nc lc V:=
 h.kept (S:=fun k=>hi<=k) ⟨hb.os,hb.tape,hb.output,hb.size,fun k hk hn=>hb.block k (by omega)⟩ fun k h1 h2 h3=>by omega
theorem gY.Fg (h:gY w lo hi tb fb R gone cnt yy nc lc V) (m:Nat):gY (w.setCell (ah tb 7) (.int .i64 m)) lo hi tb fb R gone m yy nc lc V:=by
 have K:aC (fun k=>k=tb) w (w.setCell (ah tb 7) (.int .i64 m)):=(aC.refl (fun k=>k=tb) w).set (a:=(ah tb 7)) _ (.inl rfl);have hg:=h.blk;exact⟨dH w tb 7 _ _ _ h.blk,by simpa using h.fo,fu h.row K hg (by decide),fu h.xs K hg (by decide),fu h.Hd K hg (by decide),Bl h.iT K hg (by decide) (by decide),fu h.jG K hg (by decide),fu h.Jl K hg (by decide),fu h.ys K hg (by decide),
  fun k hk=>fu (h.Lt k hk) K hg (by decide),fun l r s ha=>fu (h.Em l r s ha) K hg (by decide),h.G6,h.top,h.qz,h.V7,h.NV,h.Mf⟩
theorem gY.adp (h:gY w lo hi tb fb R gone cnt yy nc lc V) {g n c:Nat} (hv:V.gv=aD g n c) (i:Nat):gY (w.setCell (ah g i) (.bool true)) lo hi tb fb R (gone.set i true) cnt yy nc lc V:=by
 have K:aC (fun k=>k=g) w (w.setCell (ah g i) (.bool true)):=(aC.refl (fun k=>k=g) w).set (a:=(ah g i)) _ (.inl rfl);have hgo:=h.Hd;rw[hv]at hgo;obtain⟨cs,fr,hg⟩:=rP hgo;refine⟨JR h.blk K hg (by decide),by simpa using h.fo,fu h.row K hg (by decide),fu h.xs K hg (by decide),?_,Bl h.iT K hg (by decide) (by decide),fu h.jG K hg (by decide),fu h.Jl K hg (by decide),fu h.ys K hg (by decide),
  fun k hk=>fu (h.Lt k hk) K hg (by decide),fun l r s ha=>fu (h.Em l r s ha) K hg (by decide),h.G6,h.top,h.qz,h.V7,h.NV,h.Mf⟩
 rw[hv,lJ];have hn:n=R.length:=by
  rcases hgo.2 with⟨e9,-⟩|⟨g',cap,cur,e9,-⟩
  .cases e9
  .injection e9 with _ e9 _
 subst hn;exact(hgo.stored i (.bool true)).1
theorem gY.amN (h:gY w lo hi tb fb R gone cnt yy nc lc V) {g n c n':Nat} (hv:V.yv=aD g n c) (K:aC (fun k=>k=g) w w') {yy':List Nat} (hrow:w'.ownsRow lo 2 1 (aD g n' c) yy'.length ((jL R yy').map (Value.int .i64))):
  gY (w'.setCell (ah tb 6) (aD g n' c)) lo hi tb fb R gone cnt yy' nc lc {V with yv:=aD g n' c}:=by
 have hys:=h.ys;rw[hv]at hys;obtain⟨cs,fr,hg⟩:=rP hys;have ht:=JR h.blk K hg (by decide);have K2:aC (fun k=>k=tb) w' (w'.setCell (ah tb 6) (aD g n' c)):=(aC.refl (fun k=>k=tb) w').set (a:=(ah tb 6)) _ (.inl rfl);have hx:=h.xs;have hne:V.xv.ownBlock≠some g:=fun e=>h.V7 g e (by rw[hv];rfl);have two:∀{e:TypeId} {sz:Nat} {v:Value} {m:Nat} {xs:List Value},w.ownsRow lo e sz v m xs->2≠e->146≠e->(w'.setCell (ah tb 6) (aD g n' c)).ownsRow lo e sz v m xs:=fun hr h1 h2=>fu (fu hr K hg h1) K2 ht h2;refine⟨dH w' tb 6 _ _ _ ht,?_,two h.row (by decide) (by decide),fu (ado hx K hne) K2 ht (by decide),two h.Hd (by decide) (by decide),Bl (Bl h.iT K hg (by decide) (by decide)) K2 ht (by decide) (by decide),two h.jG (by decide) (by decide),two h.Jl (by decide) (by decide),fu hrow K2 ht (by decide),
  fun k hk=>two (h.Lt k hk) (by decide) (by decide),fun l r s ha=>two (h.Em l r s ha) (by decide) (by decide),h.G6,?_,h.qz,?_,h.NV,h.Mf⟩
 .have:=h.fo;have:=K.size;simp;omega
 .intro v hv2 g2 hg2;rcases hv2 with e|e|e|e|e|e|e
  .exact h.top v (.inl e) g2 hg2
  .exact h.top v (.inr (.inl e)) g2 hg2
  .exact h.top v (.inr (.inr (.inl e))) g2 hg2
  .exact h.top v (.inr (.inr (.inr (.inl e)))) g2 hg2
  .exact h.top v (.inr (.inr (.inr (.inr (.inl e))))) g2 hg2
  .exact h.top V.yv (by simp) g2 (by rw[hv];rw[e]at hg2;exact hg2)
  .exact h.top v (.inr (.inr (.inr (.inr (.inr (.inr e)))))) g2 hg2
 .intro g2 h1 h2;exact h.V7 g2 h1 (by rw[hv];exact h2)
theorem gY.ahS (h:gY w lo hi tb fb R gone cnt yy nc lc V) {k g n c n' gl nl cl:Nat} (hk:k<(aZ R.length).length) (hv:V.LN k=aD g n c) (hl:V.lv=aD gl nl cl) (K:aC (fun k=>k=g) w w') {L':List Nat} (hrow:w'.ownsRow lo 27 1 (aD g n' c) L'.length ((L'.map (ko R)).map (Value.int .u32))):
  gY (w'.setCell (ah gl (k*2)) (aD g n' c)) lo hi tb fb R gone cnt yy (oM nc k L') lc {V with LN:=upd V.LN k (aD g n' c)}:=by
 have Ua:=h.Lt k hk;rw[hv]at Ua;obtain⟨cs,fr,hg⟩:=rP Ua;have zO:=h.Jl;rw[hl]at zO;have TG:nl=(aZ R.length).length:=by
  rcases zO.2 with⟨e9,-⟩|⟨g',cap,cur,e9,-⟩
  .cases e9
  .injection e9 with _ e9 _
 subst TG;have YJ:=fu zO K hg (by decide);obtain⟨cs2,WY,hg2⟩:=rP YJ;have K2:aC (fun k=>k=gl) w' (w'.setCell (ah gl (k*2)) (aD g n' c)):=(aC.refl (fun k=>k=gl) w').set (a:=(ah gl (k*2))) _ (.inl rfl);have two:∀{e:TypeId} {sz:Nat} {v:Value} {m:Nat} {xs:List Value},w.ownsRow lo e sz v m xs->27≠e->150≠e->(w'.setCell (ah gl (k*2)) (aD g n' c)).ownsRow lo e sz v m xs:=fun hr h1 h2=>fu (fu hr K hg h1) K2 hg2 h2;refine⟨JR (JR h.blk K hg (by decide)) K2 hg2 (by decide),?_,two h.row (by decide) (by decide),two h.xs (by decide) (by decide),two h.Hd (by decide) (by decide),Bl (Bl h.iT K hg (by decide) (by decide)) K2 hg2 (by decide) (by decide),two h.jG (by decide) (by decide),?_,two h.ys (by decide) (by decide),
  fun k' Bo=>?_,fun l r s ha=>two (h.Em l r s ha) (by decide) (by decide),h.G6,h.top,fun k' Bo=>⟨fun g' UJ=>?_,(h.qz k' Bo).2⟩,h.V7,fun i i' h1 h2 h3 g' h4 h5=>?_,h.Mf⟩
 .have:=h.fo;have:=K.size;simp;omega
 .show World.ownsRow _ _ _ _ V.lv _ _;rw[hl];exact dw.Er YJ hk _
 .by_cases e:k'=k
  .subst e;rw[j3];show World.ownsRow _ _ _ _ (upd V.LN k' _ k') _ _;rw[upd_same];exact fu hrow K2 hg2 (by decide)
  .rw[zx e];show World.ownsRow _ _ _ _ (upd V.LN k _ k') _ _;rw[upd_ne e];exact fu (ado (h.Lt k' Bo) K (fun h9=>h.NV k k' hk Bo (jb e) g (by rw[hv];rfl) h9)) K2 hg2 (by decide)
 .by_cases e:k'=k
  .subst e;have UJ:(upd V.LN k' (aD g n' c) k').ownBlock=some g':=UJ;rw[upd_same]at UJ;exact(h.qz k' Bo).1 g' (by rw[hv];exact UJ)
  .have UJ:(upd V.LN k (aD g n' c) k').ownBlock=some g':=UJ;rw[upd_ne e]at UJ;exact(h.qz k' Bo).1 g' UJ
 .have own:∀i,(upd V.LN k (aD g n' c) i).ownBlock=(V.LN i).ownBlock:=fun i=>by
   by_cases e:i=k
   .subst e;rw[upd_same,hv];rfl
   .rw[upd_ne e]
  have h4:(upd V.LN k (aD g n' c) i).ownBlock=some g':=h4;have h5:(upd V.LN k (aD g n' c) i').ownBlock=some g':=h5;rw[own]at h4 h5;exact h.NV i i' h1 h2 h3 g' h4 h5
theorem gY.ahT (h:gY w lo hi tb fb R gone cnt yy nc lc V) {l0 r0:FT} {s0 k g n c n' gl nl cl:Nat} (ha0:FT.At (aZ R.length) (.node l0 r0) s0) (BP:(FT.node l0 r0).root s0=k) (hv:V.LL k=aD g n c) (hl:V.lv=aD gl nl cl) (K:aC (fun k=>k=g) w w') {L':List Int} (hrow:w'.ownsRow lo 3 1 (aD g n' c) L'.length (L'.map (Value.int .i64))):
  gY (w'.setCell (ah gl (k*2+1)) (aD g n' c)) lo hi tb fb R gone cnt yy nc (oM lc k L') {V with LL:=upd V.LL k (aD g n' c)}:=by
 have hk:k<(aZ R.length).length:=BP▸ha0.lt;have Ua:=h.Em l0 r0 s0 ha0;rw[BP,hv]at Ua;obtain⟨cs,fr,hg⟩:=rP Ua;have zO:=h.Jl;rw[hl]at zO;have TG:nl=(aZ R.length).length:=by
  rcases zO.2 with⟨e9,-⟩|⟨g',cap,cur,e9,-⟩
  .cases e9
  .injection e9 with _ e9 _
 subst TG;have YJ:=fu zO K hg (by decide);obtain⟨cs2,WY,hg2⟩:=rP YJ;have K2:aC (fun k=>k=gl) w' (w'.setCell (ah gl (k*2+1)) (aD g n' c)):=(aC.refl (fun k=>k=gl) w').set (a:=(ah gl (k*2+1))) _ (.inl rfl);have two:∀{e:TypeId} {sz:Nat} {v:Value} {m:Nat} {xs:List Value},w.ownsRow lo e sz v m xs->3≠e->150≠e->(w'.setCell (ah gl (k*2+1)) (aD g n' c)).ownsRow lo e sz v m xs:=fun hr h1 h2=>fu (fu hr K hg h1) K2 hg2 h2;have own:∀i,(upd V.LL k (aD g n' c) i).ownBlock=(V.LL i).ownBlock:=fun i=>by
  by_cases e:i=k
  .subst e;rw[upd_same,hv];rfl
  .rw[upd_ne e]
 refine⟨JR (JR h.blk K hg (by decide)) K2 hg2 (by decide),?_,two h.row (by decide) (by decide),two h.xs (by decide) (by decide),two h.Hd (by decide) (by decide),Bl (Bl h.iT K hg (by decide) (by decide)) K2 hg2 (by decide) (by decide),two h.jG (by decide) (by decide),?_,two h.ys (by decide) (by decide),
  fun k' Bo=>two (h.Lt k' Bo) (by decide) (by decide),fun l r s ha=>?_,fun k' Bo=>?_,h.top,fun k' Bo=>⟨(h.qz k' Bo).1,fun g' UJ=>?_⟩,h.V7,h.NV,fun i i' h1 h2 h3 g' h4 h5=>?_⟩
 .have:=h.fo;have:=K.size;simp;omega
 .show World.ownsRow _ _ _ _ V.lv _ _;rw[hl];exact dw.acT YJ hk _
 .have hlt:=ha.lt;generalize Ru:(FT.node l r).root s=k' at*;by_cases e:k'=k
  .subst e;rw[j3];show World.ownsRow _ _ _ _ (upd V.LL k' _ k') _ _;rw[upd_same];exact fu hrow K2 hg2 (by decide)
  .rw[zx e];show World.ownsRow _ _ _ _ (upd V.LL k _ k') _ _;rw[upd_ne e];have h9:=h.Em l r s ha;rw[Ru]at h9;exact fu (ado h9 K (fun h9=>h.Mf k k' hk hlt (jb e) g (by rw[hv];rfl) h9)) K2 hg2 (by decide)
 .show∃a m c',upd V.LL k _ k'=_;by_cases e:k'=k
  .subst e;rw[upd_same];exact⟨_,_,_,rfl⟩
  .rw[upd_ne e];exact h.G6 k' Bo
 .have UJ:(upd V.LL k (aD g n' c) k').ownBlock=some g':=UJ;rw[own]at UJ;exact(h.qz k' Bo).2 g' UJ
 .have h4:(upd V.LL k (aD g n' c) i).ownBlock=some g':=h4;have h5:(upd V.LL k (aD g n' c) i').ownBlock=some g':=h5;rw[own]at h4 h5;exact h.Mf i i' h1 h2 h3 g' h4 h5
theorem gY.ahU (h:gY w lo hi tb fb R gone cnt yy nc lc V) {l0 r0:FT} {s0 k g c j:Nat} (ha0:FT.At (aZ R.length) (.node l0 r0) s0) (BP:(FT.node l0 r0).root s0=k) (hv:V.LL k=aD g (lc k).length c) (x:Int):
  gY (w.setCell (ah g j) (.int .i64 x)) lo hi tb fb R gone cnt yy nc (oM lc k ((lc k).set j x)) V:=by
 have hk:k<(aZ R.length).length:=BP▸ha0.lt;have Ua:=h.Em l0 r0 s0 ha0;rw[BP,hv]at Ua;obtain⟨cs,fr,hg⟩:=rP Ua;have K:aC (fun k=>k=g) w (w.setCell (ah g j) (.int .i64 x)):=(aC.refl (fun k=>k=g) w).set (a:=(ah g j)) _ (.inl rfl);refine⟨JR h.blk K hg (by decide),by simpa using h.fo,fu h.row K hg (by decide),fu h.xs K hg (by decide),fu h.Hd K hg (by decide),Bl h.iT K hg (by decide) (by decide),fu h.jG K hg (by decide),fu h.Jl K hg (by decide),fu h.ys K hg (by decide),
  fun k' Bo=>fu (h.Lt k' Bo) K hg (by decide),fun l r s ha=>?_,h.G6,h.top,h.qz,h.V7,h.NV,h.Mf⟩
 have hlt:=ha.lt;have h9:=h.Em l r s ha;generalize Ru:(FT.node l r).root s=k' at*;by_cases e:k'=k
 .subst e;rw[j3,hv,qh,lJ];exact(Ua.stored j (.int .i64 x)).1
 .rw[zx e];exact ado h9 K (fun h9=>h.Mf k k' hk hlt (jb e) g (by rw[hv];rfl) h9)
end
end Go.Proofs.YtkjdbndekceffaaGreat
