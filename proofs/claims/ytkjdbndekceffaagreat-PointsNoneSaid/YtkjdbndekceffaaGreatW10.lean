/- Made small by a program. -/
import Derived.Test.YtkjdbndekceffaaGreatW07
set_option linter.unusedSimpArgs false
set_option linter.unusedVariables false
set_option maxRecDepth 100000
set_option maxHeartbeats 16000000
namespace Go.Proofs.YtkjdbndekceffaaGreat
open Tryz
section
open Go.RowKit Go.Sort Go.Shelf Go.Lib Go.Maps
attribute [local irreducible] wpQuiet
attribute [local go_sem] Oper.fo
theorem Il (a:Option Addr) (c:Nat) (l:List Pt) (w:World) (dJ:cz dx 3 w a l) (hf:l.length<=20000) (go:Gz l) (hu:kQ l=true):
  aH 35 #[.slice a l.length c] w fun e w'=>∃tb fb V,e=.returned (.tuple #[ah tb,aa 0])/\jl w' w.heap.size w'.heap.size tb fb (eO l) (List.replicate (eO l).length false) (dO (eO l)) V/\Below w.heap.size w w':=by
 have de:=Fu a c l w dJ (by omega) go;rw[hu]at de;have hG:=af dJ;obtain⟨n,dP⟩:∃n,n=l.length:=⟨_,rfl⟩;have d0:=af (fun W (c4:Below w.heap.size w W)=>nW a l n c W dP.symm (dJ.below c4) (by omega));have fl:=af dP;rw[<-dP]at hf de |-;have e5:=af (fun W=>xE n (by omega) W);clear dP dJ;have d1:decide ((n:Int)>2147483648)=false:=by simp;omega
 have d2:decide ((2147483648:Int)<(n:Int))=false:=by simp;omega
 have d3:decide (2147483648<n)=false:=by simp;omega
 go_enter func35,ntmps35
 go_wp2_with (go_at_call 89;refine de.mono ?_;rintro e w1 ⟨rfl,dF⟩;clear de)
 go_wp2_with fail
 refine(e5.o w1).mono ?_;rintro e w2 ⟨rfl,dB⟩;have cI:Hid (Below w.heap.size w w2):=by rw[dB];exact dF.alloc dF.size _
 have dg:Hid (w2.heap[w1.heap.size]? =some (kK 0 0 (aG) n)):=by rw[dB];exact di w1 _
 obtain⟨fb,eE⟩:∃fb,fb=w1.heap.size:=⟨_,rfl⟩;have f0:w.heap.size<=fb/\fb<w2.heap.size:=by rw[dB,eE];exact⟨dF.size,by simp⟩
 rw[<-eE]at dg |-;clear dB dF eE e5
 go_upto_region 8 with fail
 go_cut [6]from 6 (fun hC bv=>∃tb aV N Q ab,hC=ah tb/\Hid (uE bv w.heap.size fb n aV N Q ab l)/\Hid (bv.heap[tb]? =some (vN aV (aG) N fb Q (aG) (aG) n))/\Hid (Below w.heap.size w bv)/\w.heap.size<=tb)
 case first=>
  have h6:=M8 n (by omega);have fA:∀(J:World) aV N Q ab,J.ownsRow w.heap.size 29 3 aV n (l.flatMap dx)->J.ownsRow w.heap.size 4 1 N n ((List.replicate n false).map Value.bool)->J.ownsRow w.heap.size 163 7 ab (aU n).length ((aU n).flatMap nU)->J.ownsRow w.heap.size 163 7 Q (aU n).length ((aU n).flatMap nU)->J.heap[fb]? =some (kK 1 0 ab n)->Below w.heap.size w J->
    uE (J.alloc (.cells #[aV,aG,N,ah fb,Q,aG,aG,aa n] 146)) w.heap.size fb n aV N Q ab l/\(J.alloc (.cells #[aV,aG,N,ah fb,Q,aG,aG,aa n] 146)).heap[J.heap.size]? =some (vN aV (aG) N fb Q (aG) (aG) n)/\Below w.heap.size w (J.alloc (.cells #[aV,aG,N,ah fb,Q,aG,aG,aa n] 146)):=fun J aV N Q ab B h2 ac be bI c2=>
   ⟨(uE.mk B h2 ⟨bI,ac⟩ f0.1 be).kept ((au.refl (fun _=>False) J).alloc _) (fun k _ h=>h.elim),di J _,c2.alloc c2.size _⟩
  have d6:=af fA;clear fA;refine ak (fun W=>True) [1,4,7,10,11,12] [(0,false),(2,false),(3,false),(5,false),(6,false),(8,false),(9,false)] trivial 6 ?_;simp only[bn,aX,aY,aW,aN,aM,aO]
  repeat(refine aD (fun K d=>?_);go_simp;first|(refine d _ ?_;clear d K)|(apply Exists.intro;refine⟨fun _=>?_,d _ ?_⟩;rfl;clear d K))
  refine aJ ?_;have cv:Below w.heap.size w w2.drew:=cI.o.drew;have eD:w2.drew.heap[fb]? =some (kK 0 0 (aG) n):=dg.o;have ib:w2.drew.heap.size=w2.heap.size:=rfl;refine eT [1,4] (by kernel_rfl) (by simp) ?_;refine bA.cons rfl (fun K d=>?_) (bA.cons rfl (fun K d=>?_) bA.nil)
  .
   refine bg vO rfl _ _ rfl (vals:=#[.slice a n c]) rfl (d0.o w2.drew cv) ?_;rintro e w3 ⟨aV,rfl,b7,bs⟩;refine⟨_,rfl,d _ _ (fun _ _=>trivial) ?_⟩;clear d K;have cx:w3.heap[fb]? =some (kK 0 0 (aG) n):=(bs.block fb (by omega)).trans eD;have br:Below w.heap.size w w3:=cv.trans (bs.mono cv.size);have eP:=bL b7 cv.size;have dR:=bs.size;have d4:=af cx;have b0:=af br;have fx:=af eP;obtain⟨T,P,rfl⟩:=fD eP;clear b7 bs cv eD cx br eP;refine eT [4,7] (by kernel_rfl) (by simp) ?_;refine bA.cons rfl (fun K d=>?_) (bA.cons rfl (fun K d=>?_) bA.nil)
   .go_simp;refine d _ _ (fun _ _=>trivial) ?_;clear d K;refine aA 7 rfl fun K d=>?_;have b5:(w3.alloc (.cells (madeCells #[.bool false] n) 4)).heap[fb]? =some (kK 0 0 (aG) n):=(bY _ _ _ (by omega)).trans d4.o;refine bg uF rfl _ _ rfl (vals:=#[ah fb]) rfl (gy fb n (by omega) _ b5) ?_;rintro e J ⟨ab,Q,rfl,iU,a7,bt,aL⟩;refine⟨_,rfl,d _ _ (fun _ _=>trivial) ?_⟩;clear d K;have bJ:Below w.heap.size w (w3.alloc (.cells (madeCells #[.bool false] n) 4)):=b0.o.alloc b0.o.size _;have a1:Below w.heap.size w J:=bJ.trans (aL.toBelow bJ.size (fun k h=>by omega));have F:=d6.o J _ (aj w3.heap.size n n) Q ab (Ia (ax fx.o ((aB _ _).alloc (ay _) _)) (by decide) b5 aL) (Ia (xM w3 w.heap.size n b0.o.size (by omega)) (by decide) b5 aL) (bL iU bJ.size) (bL a7 bJ.size) bt a1;have a2:=af F;have a9:=a1.size;obtain⟨aw,nc,rfl⟩:=fD a7;clear F iU a7 bt aL bJ a1 b5;refine aF [10,11,12] _ _ _ (by kernel_rfl) ?_;simp only[pick,aX,aY,aW,aN,aM];go_wp2;go_meet;exact⟨_,_,_,_,_,rfl,a2.o.1,a2.o.2.1,a2.o.2.2,a9⟩
   .refine bg uF rfl _ _ rfl (vals:=#[ah fb]) rfl (gy fb n (by omega) _ d4.o) ?_;rintro e J ⟨ab,Q,rfl,iU,a7,bt,aL⟩;refine⟨_,rfl,d _ _ (fun _ _=>trivial) ?_⟩;clear d K;have a1:Below w.heap.size w J:=b0.o.trans (aL.toBelow b0.o.size (fun k h=>by omega));have ap:Below w.heap.size w (J.alloc (.cells (madeCells #[.bool false] n) 4)):=a1.alloc a1.size _;have bh:Below J.heap.size J (J.alloc (.cells (madeCells #[.bool false] n) 4)):=(aB _ _).alloc (ay _) _;have g6:=(aZ.1 bt).1;have F:=d6.o (J.alloc (.cells (madeCells #[.bool false] n) 4)) _ (aj J.heap.size n n) Q ab (ax (Ia fx.o (by decide) d4.o aL) bh) (xM J w.heap.size n a1.size (by omega)) (ax (bL iU b0.o.size) bh) (ax (bL a7 b0.o.size) bh) ((bY _ _ _ g6).trans bt) ap;have gm:(J.alloc (.cells (madeCells #[.bool false] n) 4)).heap.size=J.heap.size+1:=by simp
    rw[gm]at F;have a2:=af F;have a9:=ap.size;rw[gm]at a9;obtain⟨aw,nc,rfl⟩:=fD a7;clear F iU a7 bt aL a1 ap bh;refine aF [4,10,11,12] _ _ _ (by kernel_rfl) ?_;simp only[pick,aX,aY,aW,aN,aM];go_wp2;go_meet;exact⟨_,_,_,_,_,rfl,a2.o.1,a2.o.2.1,a2.o.2.2,a9⟩
  .
   go_simp;refine d _ _ (fun _ _=>trivial) ?_;clear d K;refine aA 1 rfl fun K d=>?_;have br:Below w.heap.size w (w2.alloc (.cells (madeCells #[.bool false] n) 4)).drew:=(cI.o.alloc cI.o.size _).drew;have cx:(w2.alloc (.cells (madeCells #[.bool false] n) 4)).drew.heap[fb]? =some (kK 0 0 (aG) n):=(bY w2 _ _ f0.2).trans dg.o;have eF:(w2.alloc (.cells (madeCells #[.bool false] n) 4)).drew.ownsRow w.heap.size 4 1 (aj w2.heap.size n n) n ((List.replicate n false).map Value.bool):=xM w2 w.heap.size n cI.o.size (by omega);have dR:fb<(w2.alloc (.cells (madeCells #[.bool false] n) 4)).drew.heap.size:=by
    show fb<(w2.alloc (.cells (madeCells #[.bool false] n) 4)).heap.size;simp;omega
   obtain⟨w3,eq⟩:∃w3,w3=(w2.alloc (.cells (madeCells #[.bool false] n) 4)).drew:=⟨_,rfl⟩;rw[<-eq]at br cx eF dR;refine bg vO rfl _ _ rfl (vals:=#[.slice a n c]) rfl (by rw[<-eq];exact d0.o w3 br) ?_;rintro e w4 ⟨aV,rfl,b7,bs⟩;refine⟨_,rfl,d _ _ (fun _ _=>trivial) ?_⟩;clear d K;have b5:w4.heap[fb]? =some (kK 0 0 (aG) n):=(bs.block fb dR).trans cx;have bJ:Below w.heap.size w w4:=br.trans (bs.mono br.size);have cA:=bL b7 br.size;have f2:=ax eF bs;have d5:=af b5;have dd:=af bJ;have gP:=af cA;have gu:=af f2;obtain⟨T,P,rfl⟩:=fD cA;clear b7 bs cv eD b5 bJ cA cx br eF f2 dR eq;refine aA 7 rfl fun K d=>?_;refine bg uF rfl _ _ rfl (vals:=#[ah fb]) rfl (gy fb n (by omega) _ d5.o) ?_;rintro e J ⟨ab,Q,rfl,iU,a7,bt,aL⟩;refine⟨_,rfl,d _ _ (fun _ _=>trivial) ?_⟩;clear d K;have a1:Below w.heap.size w J:=dd.o.trans (aL.toBelow dd.o.size (fun k h=>by omega));have F:=d6.o J _ (aj w2.heap.size n n) Q ab (Ia gP.o (by decide) d5.o aL) (Ia gu.o (by decide) d5.o aL) (bL iU dd.o.size) (bL a7 dd.o.size) bt a1;have a2:=af F;have a9:=a1.size;obtain⟨aw,nc,rfl⟩:=fD a7;clear F iU a7 bt aL a1;refine aF [10,11,12] _ _ _ (by kernel_rfl) ?_;simp only[pick,aX,aY,aW,aN,aM];go_wp2;go_meet;exact⟨_,_,_,_,_,rfl,a2.o.1,a2.o.2.1,a2.o.2.2,a9⟩
 case rest=>
  obtain⟨tb,aV,N,Q,ab,rfl,cg,cR,d7,hn⟩:=hcut;clear cI dg d0;obtain⟨T,P,rfl⟩:=fD cg.o.row;have cC:=(aZ.1 cR.o).1;have eV:(ids l).Nodup:=by unfold kQ at hu;simpa using hu
  have e6:=af (xL fl.o.symm (by omega) cg.o.row eV);have O:=cR.o;have cm:wc.cell? (ae tb 0)=some (.slice T n P):=by simp[World.cell?,O]
  clear O
  go_wp2_with fail
  refine e6.o.mono ?_;rintro e w4 ⟨rfl,cA,b6⟩;have fQ:uE w4 w.heap.size fb n (.slice T n P) N Q ab (eO l):=by
   have h:=cg.o;have hp:∀k,k<wc.heap.size->(Value.slice T n P).ownBlock=some k->∃cs t fr,wc.heap[k]? =some (.cells cs t fr)/\t=29:=fun k al cw=>by
    rcases h.row.2 with⟨x,-⟩|⟨g,cX,cY,x,-,aI,-⟩
    .rw[x]at cw;cases cw
    .rw[x]at cw;injection cw with cw;subst cw;exact⟨_,_,_,aI,rfl⟩
   refine⟨cA,og h.Cs b6 fun k B h2=>?_,⟨bF b6 h.ig.blk fun h2=>?_,og h.ig.row b6 fun k B h2=>?_⟩,h.OT,og h.iP b6 fun k B h2=>?_⟩
   .obtain⟨cs,t,fr,a,rfl⟩:=hp k B h2;exact⟨cs,_,fr,a,by decide⟩
   .obtain⟨cs,t,fr,a,rfl⟩:=hp fb (aZ.1 h.ig.blk).1 h2;have Y:=a.symm.trans h.ig.blk;injection Y with Y;injection Y with _ Y _;exact absurd Y (by decide)
   .obtain⟨cs,t,fr,a,rfl⟩:=hp k B h2;exact⟨cs,_,fr,a,by decide⟩
   .obtain⟨cs,t,fr,a,rfl⟩:=hp k B h2;exact⟨cs,_,fr,a,by decide⟩
  have ci:Hid (w4.heap[tb]? =some (vN (.slice T n P) (aG) N fb Q (aG) (aG) n)):=bF b6 cR.o (fun h=>bz cg.o.row cR.o (by decide) tb h rfl);have df:Hid (Below w.heap.size w w4):=d7.o.trans (b6.toBelow d7.o.size (fun k h=>(cg.o.row.lt k h).1));have dn:=af fQ;have ct:(eO l).length=n:=by rw[(dL l).length_eq];exact fl.o.symm
  have fU:(ids (eO l)).Nodup:=((dL l).map _).nodup_iff.2 eV;have dp:Hid ((eO l).Pairwise jV/\(ids (eO l)).Nodup):=⟨fM eV,fU⟩;have fn:Hid (Gz (eO l)):=fun p hp=>go p ((vo l p).1 hp);clear cA b6 fQ cg cR d7 e6 fU cm cC;generalize fT:eO l=R at*;have gG:Hid (eO l=R):=fT;clear fT;have cC:=(aZ.1 ci.o).1;have O:=ci.o;have cm:w4.cell? (ae tb 0)=some (.slice T n P):=by simp[World.cell?,O]
  clear O
  go_wp2_with fail
  go_loopg [52] n (fun b9 hA wr=>∃(i:Nat) (e3:Value),hA=.int .i64 i/\i<=n/\n-i<=b9/\Hid (wr.heap[tb]? =some (vN (.slice T n P) e3 N fb Q (aG) (aG) n))/\Hid (wr.ownsRow w4.heap.size 2 1 e3 i (((bU R).take i).map (Value.int .i64)))/\Hid (au (fun k=>k=tb) w4 wr))
  case atStart=>exact⟨0,_,rfl,bf _,by omega,ci,dz _ _ _ _,au.refl _ _⟩
  case round=>
   obtain⟨i,e3,rfl,hi,hY,bm,b2,cd⟩:=hrel;by_cases hV:i<n
   .have bi:=aS dn.o.row cd.o (fun g h h2=>bz dn.o.row ci.o (by decide) g h h2.symm);obtain⟨_,_,bo,-,-,aR⟩:=cz.aC bu (by decide) bi;injection bo with Z co cp;subst Z;clear co cp;obtain⟨b,off,cZ,fY,aE⟩:=aR.get (by omega);have bl:=aE i (by omega) 0 (by omega);have x1:=aE i (by omega) 1 (by omega);have x2:=aE i (by omega) 2 (by omega);simp only[dx,aM,aN,dM]at bl x1 x2;have gp:(bU R).take (i+1)=(bU R).take i++[R[i].1]:=by
     have h:i<(bU R).length:=by unfold bU;simp;omega
     rw[dZ h];simp[bU]
    have fq:=af gp;subst cZ;clear aE aR gp bi;generalize R[i]=p at*;obtain⟨ba,bb,az⟩:=p;simp only at fq bl x1 x2;have O:=bm.o;have db:=(aZ.1 O).1;obtain⟨am,an,rfl⟩:=fD b2.o
    go_upto_region 13 with fail
    obtain⟨w6,bq⟩:∃w6,w6=wr.alloc (.cells #[aa ba,aa bb,ai az] 29):=⟨_,rfl⟩;have ap:Below wr.heap.size wr w6:=by rw[bq];exact(aB _ _).alloc (ay _) _
    have cE:w6.heap[wr.heap.size]? =some (.cells #[aa ba,aa bb,ai az] 29 (0,0)):=by rw[bq];exact di wr _
    have b8:=(ap.block tb db).trans O;have hl:=cd.o.size;have hm:=ap.size;have er:=ag (w:=w6) (ad:=(ae tb 1)) (v:=.slice am i an) (by simp[World.cell?,b8]);have es:=ag (w:=w6) (ad:=(ae wr.heap.size 0)) (v:=.int .i64 ba) (by simp[World.cell?,cE]);have ej:=af (ax b2.o ap);have cL:Hid (au (fun k=>k=tb) w4 w6):=cd.o.below ap;have cS:=af b8;rw[<-bq];clear bq ap cE b8 O bl x1 x2;refine ak (fun W=>∃p:aT w6,W=p.W) [8,9,10,11] [(0,false),(1,false),(2,false),(3,false),(4,true),(5,false),(6,true)] ⟨⟨_,(aB _ _).drew⟩,rfl⟩ 5 ?_;simp only[bn,aX,aY,aW,aN,aM,aO]
    repeat(refine aD (fun K d=>?_);go_simp;first|(refine d _ ?_;clear d K)|(apply Exists.intro;refine⟨fun _=>?_,d _ ?_⟩;rfl;clear d K))
    refine aJ ?_;refine aA 7 rfl fun K d=>?_;go_simp;refine d _ _ (fun _ _=>⟨⟨_,(aB _ w6).alloc (ay _) _|>.drew⟩,rfl⟩) ?_;clear d K;refine aA 8 rfl fun K d=>?_;refine bH yT w4.heap.size (w:=(w6.alloc (.cells #[aa ba] 2)).drew) (ax ej.o ((aB _ w6).alloc (ay _) _|>.drew)) [.int .i64 ba] rfl (by simp[Value.oneCell']) rfl (.tmp 60) (.tmp 63) rfl rfl w6.heap.size rfl (kF _ _) (by unfold maxLen;omega) (by omega) (by simp;omega) ?_;intro ar aq H eL f3 hO h4;refine d _ _ (fun _ h=>absurd (by simp) h) ?_;clear d K;refine aF [9,10,11] _ _ _ (by kernel_rfl) ?_;simp only[pick,aX,aY,aW,aN,aM];have c8:w6.grownBy H (Value.slice am i an).ownBlock:=dN (bQ ((aB _ w6).alloc (ay _) _|>.drew)) f3;have bd:au (fun k=>(Value.slice am i an).ownBlock=some k) w6 H:=(au.refl _ w6).grown c8 (fun k al=>.inl al);have eY:∀g,(Value.slice am i an).ownBlock=some g->w4.heap.size<=g:=fun g h=>(ej.o.lt g h).1;have dS:=bF bd cS.o (fun h=>by have:=eY tb h;omega);have gs:H.cell? (ae tb 1)=some (.slice am i an):=by simp[World.cell?,dS]
    have f8:H.frozen? (ae tb 1)=false:=by simp[World.frozen?,dS]
    have bc:Hid ((H.setCell (ae tb 1) (aj ar (i+1) aq)).heap[tb]? =some (vN (.slice (some (ae b off)) n P) (aj ar (i+1) aq) N fb Q (aG) (aG) n)):=dA H tb 1 _ _ _ dS;have cl:Hid ((H.setCell (ae tb 1) (aj ar (i+1) aq)).ownsRow w4.heap.size 2 1 (aj ar (i+1) aq) (i+1) (((bU R).take (i+1)).map (Value.int .i64))):=by
     have Y:=aS (S:=fun k=>k=tb) eL ((au.refl (fun k=>k=tb) H).set (a:=(ae tb 1)) (aj ar (i+1) aq) (.inl rfl)) (fun g h h2=>by have:=(eL.lt g h).1;omega);show World.ownsRow _ _ _ _ _ _ _;rw[fq.o,bS];exact Y
    have gC:Hid (au (fun k=>k=tb) w4 (H.setCell (ae tb 1) (aj ar (i+1) aq))):=((cL.o.mono (S':=fun k=>k=tb\/w4.heap.size<=k) (fun k h=>.inl h)).trans (bd.mono (fun k h=>.inr (eY k h)))).strip.set (a:=(ae tb 1)) _ (.inl rfl);clear bd c8 f3 eL dS er es ej cS cL eY;go_wp2
    go_roundg (n-(i+1))
    case measure=>omega
    case rel=>exact⟨i+1,_,by go_num,by omega,ay _,bc,cl,gC⟩
   .obtain rfl:i=n:=by omega
    have fR:uE wr w.heap.size fb i (.slice T i P) N Q ab R:=dn.o.kept cd.o (fun k B h2=>by subst h2;exact⟨_,_,_,ci.o,by decide,by decide,by decide,by decide⟩);have eu:Below w.heap.size w wr:=df.o.trans (cd.o.toBelow df.o.size (fun k h=>by omega));have dD:=b2.o;rw[jQ (by unfold bU;simp;omega)]at dD;have cb:=af eu;have ch:=af fR;have a9:=eu.size;have fo:=af (bL dD df.o.size);obtain⟨am,an,rfl⟩:=fD dD;clear eu fR dD cd b2 df dn ci cm cC;have cC:=(aZ.1 bm.o).1;have he:=@run_makeMap prog
    go_upto_region 16 with fail
    obtain⟨U,dQ⟩:∃U,U=wr.heap.size:=⟨_,rfl⟩;obtain⟨bj,c0⟩:∃bj,bj=wr.alloc (.map #[] 0):=⟨_,rfl⟩;have c7:Below wr.heap.size wr bj:=by rw[c0];exact(aB _ _).alloc (ay _) _
    have dl:Hid (∃D:DataW Unit,bj.ownsMap prog 27 (plainElem prog 3) U 0 D/\mR D R 0):=by rw[c0,dQ];exact⟨.map [],wR _ _ _ _,[],IsM.empty _ _⟩
    have eU:=(c7.block tb cC).trans bm.o;have fm:=af eU;have dr:Hid (uE bj w.heap.size fb i (.slice T i P) N Q ab R):=ch.o.kept ((au.refl (fun _=>False) wr).below c7) (fun k _ h=>h.elim);have ft:=af (ax fo.o c7);have ea:Hid (Below w.heap.size w bj):=cb.o.trans (c7.mono a9);have h9:w.heap.size<=U/\U<bj.heap.size/\tb<U:=by rw[c0,dQ];simp;omega
    have cm:bj.cell? (ae tb 0)=some (.slice T i P):=by simp[World.cell?,eU]
    rw[<-c0,<-dQ];clear c0 dQ c7 eU bm ch fo cb a9 cC he
    go_wp2_with fail
    go_loopg [74] i (fun b9 hB wr=>∃(j:Nat),hB=.int .i64 j/\j<=i/\i-j<=b9/\Hid (au (fun k=>k=U) bj wr)/\Hid (∃D:DataW Unit,wr.ownsMap prog 27 (plainElem prog 3) U j D/\mR D R j))
    case atStart=>exact⟨0,rfl,bf _,by omega,au.refl _ _,dl.o⟩
    case round=>
     obtain⟨j,rfl,aK,hZ,bx,dk⟩:=hrel;by_cases hW:j<i
     .have bi:=aS dr.o.row bx.o (fun g h h2=>by
       subst h2;obtain⟨ep,en,gf,-⟩:=dl.o.choose_spec.1;rcases dr.o.row.2 with⟨x,-⟩|⟨hL,cX,cY,x,-,aI,-⟩
       .rw[x]at h;cases h
       .rw[x]at h;injection h with h;subst h;rw[aI]at gf;cases gf)
      obtain⟨_,_,bo,-,-,aR⟩:=cz.aC bu (by decide) bi;injection bo with Z co cp;subst Z;clear co cp;obtain⟨b,off,cZ,fY,aE⟩:=aR.get (by omega);have bl:=aE j (by omega) 0 (by omega);have x1:=aE j (by omega) 1 (by omega);have x2:=aE j (by omega) 2 (by omega);simp only[dx,aM,aN,dM]at bl x1 x2;have g9:j<R.length:=by omega
      have gd:Hid (keyOf prog 27 (.int .u32 R[j].2.2)=some (.int .u32 R[j].2.2)):=xn underlying27 (fn.o _ (bN _));obtain⟨D,gi,fF⟩:=dk.o;have eb:=af (fF.put g9);have ia:=bx.o.size;subst cZ;clear aE aR bi fF dk;generalize R[j]=p at*;obtain⟨ba,bb,az⟩:=p;simp only at eb gd bl x1 x2;have gh:=gi.kept (qc wr (.cells #[aa ba,aa bb,ai az] 29) none) (by simp)
      go_wp2_with (at_mapUpdate;refine wN _ rfl _ _ _ 26 rfl 27 3 (int_keyed underlying27) underlying26 _ U j _ rfl gh (by unfold maxLen;omega) _ _ _ rfl rfl gd.o _ [] (ui underlying3 (by simp[Lit.wf,IntKind.min,IntKind.max,IntKind.bits,IntKind.signed];omega)) ?_;intro w3 gj f6)
      have gB:Hid (au (fun k=>k=U) bj w3):=((bx.o.alloc _).grown f6 (fun k h=>.inl (by injection h with h;exact h.symm)));have gD:Hid (∃D:DataW Unit,w3.ownsMap prog 27 (plainElem prog 3) U (j+1) D/\mR D R (j+1)):=⟨_,gj,eb.o⟩;clear gj f6 gh gi eb;go_wp2
      go_roundg (i-(j+1))
      case measure=>omega
      case rel=>exact⟨j+1,by go_num,by omega,ay _,gB,gD⟩
     .obtain rfl:j=i:=by omega
      obtain⟨hE,⟨hK,hJ,eI,-⟩,-⟩:=dl.o;have ch:=af (dr.o.Td bx.o eI);have b2:=af (Na ft.o bx.o eI);have bm:Hid (wr.heap[tb]? =_):=bF bx.o fm.o (fun h=>by omega);have cb:Hid (Below w.heap.size w wr):=ea.o.trans (bx.o.toBelow ea.o.size (fun k h=>by omega));obtain⟨D,ex,fP⟩:=dk.o;have fi:=af ex;have gF:=af fP;have a9:=cb.o.size;have hh:U<wr.heap.size:=by
       obtain⟨ep,en,aI,-⟩:=ex;exact(aZ.1 aI).1
      obtain⟨_,_,bo,-,-,aR⟩:=cz.aC bu (by decide) ch.o.row;injection bo with Z co cp;subst Z;clear co cp;have e4:=af (nW T R j P wr ct aR (by omega));have db:=(aZ.1 bm.o).1;have O:=bm.o;have cm:wr.cell? (ae tb 0)=some (.slice T j P):=by simp[World.cell?,O]
      clear O aR eI ex fP dk dr ft fm ea dl bx
      go_wp2_with fail
      refine e4.o.mono ?_;rintro e il ⟨dV,rfl,dI,fX⟩;have e7:=af (KO ct (by omega) dI dp.o.2);have fe:=af dI;have d8:=af fX;obtain⟨I,g5,rfl⟩:=fD dI;clear dI fX e4
      go_wp2_with fail
      refine e7.o.mono ?_;rintro e H ⟨rfl,f7,gc⟩;have bM:Below wr.heap.size wr H:=d8.o.trans (gc.toBelow d8.o.size (fun k h=>(fe.o.lt k h).1));have gz:=af bM;have ff:=af f7;have ee:Hid (uE H w.heap.size fb j (.slice T j P) N Q ab R):=ch.o.kept ((au.refl (fun _=>False) wr).below bM) (fun k _ h=>h.elim);have fp:=af (ax b2.o bM);have cj:Hid (H.heap[tb]? =some (vN (.slice T j P) (.slice am j an) N fb Q (aG) (aG) j)):=(bM.block tb db).trans bm.o;have fj:Hid (H.ownsMap prog 27 (plainElem prog 3) U j D):=vM fi.o (bM.block U hh);have cJ:Hid (Below w.heap.size w H):=cb.o.trans (bM.mono a9);have ic:=bM.size;obtain⟨aw,nc,rfl⟩:=fD ee.o.iP;have fO:=dh j;have h7:=M9 (aU j).length (by omega);generalize g2:(aU j).length=f at*;have gE:Hid (f=2*j-1):=fO;have hM:f<=40000:=by omega
      clear fO;clear gc bM f7 e7 ch b2 bm fi cb fe d8 gz cm;have O:=cj.o;have cD:tb<H.heap.size:=by omega
      have fy:H.cell? (ae tb 4)=some (.slice aw f nc):=by simp[World.cell?,O]
      have bh:Below H.heap.size H (H.alloc (.cells (madeCells #[aG,aG] (f*2)) 150)):=(aB _ _).alloc (ay _) _;have gR:(H.alloc (.cells (madeCells #[aG,aG] (f*2)) 150)).cell? (ae tb 5)=some (aG):=(bh.cell (p:=(ae tb 5)) cD).trans (by simp[World.cell?,O]);have hD:(H.alloc (.cells (madeCells #[aG,aG] (f*2)) 150)).frozen? (ae tb 5)=false:=(bh.frozen (p:=(ae tb 5)) cD).trans (by simp[World.frozen?,O]);have gn:=(bh.block tb cD).trans O;have gA:=af bh;have gI:=af gn;clear bh gn O
      go_upto_region 24 with fail
      obtain⟨gl,dH⟩:∃gl,gl=H.heap.size:=⟨_,rfl⟩;obtain⟨u,cq⟩:∃u,u=(H.setCell (ae tb 5) (aj H.heap.size f f)).alloc (.cells (madeCells #[aG,aG] (f*2)) 150):=⟨_,rfl⟩;have b4:au (fun k=>k=tb) H u:=by rw[cq];exact((au.refl (fun k=>k=tb) H).set (a:=(ae tb 5)) _ (.inl rfl)).alloc _
      have fV:u.heap[tb]? =some (vN (.slice T j P) (.slice am j an) N fb (.slice aw f nc) (aj gl f f) (aG) j):=by rw[cq,dH];exact(bY _ _ _ (by simpa using cD)).trans (dA H tb 5 _ _ _ cj.o)
      have fL:cO u w.heap.size gl f f (fun _=>aG) (fun _=>aG):=by
       have h:=KR (H.setCell (ae tb 5) (aj H.heap.size f f)) w.heap.size f (by simp;exact cJ.o.size) (by omega);rw[cq,dH];simpa using h
      have hP:gl<u.heap.size/\tb<gl/\w.heap.size<=gl:=by rw[cq,dH];simp;exact⟨cD,cJ.o.size⟩
      have fI:Else H (fun k=>k=tb):=fun k B h2=>by subst h2;exact⟨_,_,_,cj.o,by decide,by decide,by decide,by decide⟩
      have fS:uE u w.heap.size fb j (.slice T j P) N (.slice aw f nc) ab R:=ee.o.kept b4 fI;have eA:u.ownsRow w.heap.size 2 1 (.slice am j an) j ((bU R).map (Value.int .i64)):=og fp.o b4 (fun k B h2=>by subst h2;exact⟨_,_,_,cj.o,by decide⟩);have fK:u.ownsRow wr.heap.size 29 3 (.slice I j g5) j ((jP R).flatMap dx):=og ff.o b4 (fun k B h2=>by subst h2;exact⟨_,_,_,cj.o,by decide⟩);have fN:u.ownsMap prog 27 (plainElem prog 3) U j D:=vM fj.o (b4.block U (by omega) (by omega));have fB:Below w.heap.size w u:=cJ.o.trans (b4.toBelow cJ.o.size (fun k h=>by omega));have bc:=af fV;have b1:=af fL;have ef:=af fS;have cl:=af eA;have dj:=af fK;have ed:=af fN;have d9:=af fB;have hg:=bc.o;have id:=b4.size;have hj:U<u.heap.size:=by omega
      have gq:∀g,(Value.slice am j an).ownBlock=some g->g<u.heap.size:=fun g h=>(eA.lt g h).2;have gN:=af gq;clear hg gq;rw[<-cq];clear cq dH b4 fV fL fI fS eA fK fN fB cj ee fp ff fj cJ gA gI fy gR hD cD;obtain⟨b3,c5⟩:∃b3,b3=decide (0<j):=⟨_,rfl⟩;have hv:decide ((j:Int)>0)=b3:=by rw[c5];simp
      have hw:decide ((0:Int)<(j:Int))=b3:=by rw[c5];simp
      have hx:decide (0<j)=b3:=c5.symm;have fa:=af c5;clear c5
      go_upto_if 102 with fail
      clear hv hw hx
      go_cut []from 12 (fun bv=>∃(yv:Value) (LN:Nat->Value),Hid (bv.heap[tb]? =some (vN (.slice T j P) (.slice am j an) N fb (.slice aw f nc) (aj gl f f) yv j))/\Hid (bv.ownsRow u.heap.size 2 1 yv j ((iW R (dO R)).map (Value.int .i64)))/\Hid (cO bv w.heap.size gl f f LN (fun _=>aG))/\Hid (au (fun k=>k=tb\/k=gl) u bv)/\
       Hid (∀k,k<f->k≠2*j-2->LN k=aG)/\Hid (0<j->bv.ownsRow u.heap.size 27 1 (LN (2*j-2)) j (((dO R).map (jw R)).map (Value.int .u32))))
      case first=>
       by_cases gb:j=0
       .obtain rfl:b3=false:=by rw[fa.o];simp;omega
        have g3:R=[]:=gJ (by omega);have ht:iW R (dO R)=[]:=by subst g3;simp[iW,dO,jP]
        have fg:=af gb;clear gb;go_wp2;go_meet;refine⟨aG,fun _=>aG,bc.o,?_,b1.o,au.refl _ _,fun _ _ _=>rfl,fun h=>absurd fg.o (by omega)⟩;show World.ownsRow _ _ _ _ _ _ _;rw[ht,fg.o];exact dz _ _ _ _
       .obtain rfl:b3=true:=by rw[fa.o];simp;omega
        have cr:2*j-2<f:=by have:=gE.o;omega
        obtain⟨A,eR⟩:∃A,A=2*j-2:=⟨_,rfl⟩;have eg:=af eR;rw[<-eR]at cr;clear eR
        go_wp2_with fail
        go_loopg [105] j (fun b9 hy wr=>∃(i:Nat) (yv vr:Value),hy=.int .i64 i/\i<=j/\j-i<=b9/\Hid (wr.heap[tb]? =some (vN (.slice T j P) (.slice am j an) N fb (.slice aw f nc) (aj gl f f) yv j))/\Hid (wr.ownsRow u.heap.size 2 1 yv i (((iW R (dO R)).take i).map (Value.int .i64)))/\
         Hid (cO wr w.heap.size gl f f (upd (fun _=>aG) A vr) (fun _=>aG))/\Hid (wr.ownsRow u.heap.size 27 1 vr i ((((dO R).take i).map (jw R)).map (Value.int .u32)))/\Hid (au (fun k=>k=tb\/k=gl) u wr))
        case atStart=>
         refine⟨0,aG,aG,rfl,bf _,by omega,bc.o,dz _ _ _ _,?_,dz _ _ _ _,au.refl _ _⟩;show cO _ _ _ _ _ _ _;rw[H9 _ A _ rfl];exact b1.o
        case round=>
         obtain⟨i,yv,vr,rfl,hi,h0,eh,dv,ec,dt,cK⟩:=hrel;by_cases hU:i<j
         .have bi:=aS dj.o cK.o (fun g h h2=>by
           rcases h2 with h2|h2
           .exact bz dj.o bc.o (by decide) g h h2.symm
           .subst h2;exact bD b1.o dj.o (by decide) g rfl h)
          obtain⟨_,_,bo,-,-,aR⟩:=cz.aC bu (by decide) bi;injection bo with gT gU gV;subst gT;clear gU gV;have hN:(jP R).length=j:=by rw[(iM R).length_eq];exact ct
          obtain⟨b,off,cZ,fY,aE⟩:=aR.get (by omega);have bl:=aE i (by omega) 0 (by omega);have x1:=aE i (by omega) 1 (by omega);have x2:=aE i (by omega) 2 (by omega);simp only[dx,aM,aN,dM]at bl x1 x2;have eK:i<(dO R).length:=by rw[jH];omega
          have eN:=Pq eK;have gr:(iW R (dO R)).take (i+1)=(iW R (dO R)).take i++[((jP R)[i]'(by omega)).2.1]:=by
           have h:i<(iW R (dO R)).length:=by unfold iW;simp;exact eK
           rw[dZ h];simp only[iW,fJ,kR,eN]
          have gg:((dO R).take (i+1)).map (jw R)=((dO R).take i).map (jw R)++[((jP R)[i]'(by omega)).2.2]:=by
           rw[dZ eK,bS];simp only[lC,oN,jw,eN]
          have fu:=af gr;have dm:=af gg;subst cZ;clear aE aR gr gg bi eN;generalize(jP R)[i]'(by omega)=p at*;obtain⟨ba,bb,az⟩:=p;simp only at fu dm bl x1 x2;have O:=eh.o;have db:=(aZ.1 O).1;obtain⟨cF,cG,rfl⟩:=fD dv.o;obtain⟨C,E,rfl⟩:=fD dt.o
          go_upto_region 28 with fail
          obtain⟨bw,eZ⟩:∃bw,bw=wr.heap.size:=⟨_,rfl⟩;obtain⟨w6,bq⟩:∃w6,w6=wr.alloc (.cells #[aa ba,aa bb,ai az] 29):=⟨_,rfl⟩;have ap:Below wr.heap.size wr w6:=by rw[bq];exact(aB _ _).alloc (ay _) _
          have cE:w6.heap[bw]? =some (.cells #[aa ba,aa bb,ai az] 29 (0,0)):=by rw[bq,eZ];exact di wr _
          have b8:=(ap.block tb db).trans O;have hl:=cK.o.size;have hm:=ap.size;have ij:u.heap.size<=bw:=by omega
          have er:=ag (w:=w6) (ad:=(ae tb 6)) (v:=.slice cF i cG) (by simp[World.cell?,b8]);have es:=ag (w:=w6) (ad:=(ae bw 1)) (v:=.int .i64 bb) (by simp[World.cell?,cE]);have cV:=af (ax dv.o ap);have du:=af (ax dt.o ap);have fh:Hid (cO w6 w.heap.size gl f f (upd (fun _=>aG) A (.slice C i E)) (fun _=>aG)):=ax ec.o ap;have cL:Hid (au (fun k=>k=tb\/k=gl) u w6):=cK.o.below ap;have cS:=af b8;have ek:=af cE;rw[<-bq,<-eZ];clear bq ap cE b8 O bl x1 x2 eZ dv dt ec cK eh;refine ak (fun W=>∃p:aT w6,W=p.W) [8,9,10,11] [(0,false),(1,false),(2,false),(3,false),(4,true),(5,false),(6,true)] ⟨⟨_,(aB _ _).drew⟩,rfl⟩ 5 ?_;simp only[bn,aX,aY,aW,aN,aM,aO]
          repeat(refine aD (fun K d=>?_);go_simp;first|(refine d _ ?_;clear d K)|(apply Exists.intro;refine⟨fun _=>?_,d _ ?_⟩;rfl;clear d K))
          refine aJ ?_;refine aA 7 rfl fun K d=>?_;go_simp;refine d _ _ (fun _ _=>⟨⟨_,(aB _ w6).alloc (ay _) _|>.drew⟩,rfl⟩) ?_;clear d K;refine aA 8 rfl fun K d=>?_;refine bH yT u.heap.size (w:=(w6.alloc (.cells #[aa bb] 2)).drew) (ax cV.o ((aB _ w6).alloc (ay _) _|>.drew)) [.int .i64 bb] rfl (by simp[Value.oneCell']) rfl (.tmp 113) (.tmp 116) rfl rfl w6.heap.size rfl (kF _ _) (by unfold maxLen;omega) (by omega) (by simp;omega) ?_;intro ar aq bZ eM f4 g4 hb;refine d _ _ (fun _ h=>absurd (by simp) h) ?_;clear d K;refine aF [9,10,11] _ _ _ (by kernel_rfl) ?_;simp only[pick,aX,aY,aW,aN,aM];have c8:w6.grownBy bZ (Value.slice cF i cG).ownBlock:=dN (bQ ((aB _ w6).alloc (ay _) _|>.drew)) f4;have bd:au (fun k=>(Value.slice cF i cG).ownBlock=some k) w6 bZ:=(au.refl _ w6).grown c8 (fun k al=>.inl al);have dX:∀g,(Value.slice cF i cG).ownBlock=some g->u.heap.size<=g:=fun g h=>(cV.o.lt g h).1;have dT:=bF bd cS.o (fun h=>by have:=dX tb h;omega);have gs:bZ.cell? (ae tb 6)=some (.slice cF i cG):=by simp[World.cell?,dT]
          have f8:bZ.frozen? (ae tb 6)=false:=by simp[World.frozen?,dT]
          obtain⟨y,dC⟩:∃y,y=bZ.setCell (ae tb 6) (aj ar (i+1) aq):=⟨_,rfl⟩;have cB:au (fun k=>k=tb) bZ y:=by rw[dC];exact(au.refl (fun k=>k=tb) bZ).set (a:=(ae tb 6)) _ (.inl rfl)
          have eS:y.heap[tb]? =some (vN (.slice T j P) (.slice am j an) N fb (.slice aw f nc) (aj gl f f) (aj ar (i+1) aq) j):=by rw[dC];exact dA bZ tb 6 _ _ _ dT
          have a0:Hid (y.ownsRow u.heap.size 2 1 (aj ar (i+1) aq) (i+1) (((iW R (dO R)).take (i+1)).map (Value.int .i64))):=by
           have Y:=aS (S:=fun k=>k=tb) eM cB (fun g h h2=>by have:=(eM.lt g h).1;omega);show World.ownsRow _ _ _ _ _ _ _;rw[fu.o,bS];exact Y
          have fW:y.ownsRow u.heap.size 27 1 (.slice C i E) i ((((dO R).take i).map (jw R)).map (Value.int .u32)):=aS (S:=fun k=>k=tb) (aS (S:=fun k=>(Value.slice cF i cG).ownBlock=some k) du.o bd (fun g h h2=>bD du.o cV.o (by decide) g h h2)) cB (fun g h h2=>by have:=(du.o.lt g h).1;omega);have c3:cO y w.heap.size gl f f (upd (fun _=>aG) A (.slice C i E)) (fun _=>aG):=(cO.kept fh.o bd (fun h=>by have:=dX gl h;omega)).kept cB (by omega);have bB:Hid (au (fun k=>k=tb\/k=gl) u y):=(((cL.o.mono (S':=fun k=>(k=tb\/k=gl)\/u.heap.size<=k) (fun k h=>.inl h)).trans (bd.mono (fun k h=>.inr (dX k h)))).strip).trans (cB.mono (fun k h=>.inl h));have dW:y.heap[bw]? =some (.cells #[aa ba,aa bb,ai az] 29 (0,0)):=bF cB (bF bd ek.o (fun h=>bz cV.o ek.o (by decide) bw h rfl)) (by omega);have a5:=af fW;have ce:=af c3;have ck:=af eS;have ie:=bB.o.size;clear bd c8 f4 eM dT er es cV cS cL dX du fh ek cB fW g4 hb
          go_upto_region 29 with fail
          rw[<-dC];clear dC gs f8;have av:∀g,(Value.slice C i E).ownBlock=some g->u.heap.size<=g:=fun g h=>(a5.o.lt g h).1;have dY:∀{bk o:Nat} {v:Value},bk<y.heap.size->¬(Value.slice C i E).ownBlock=some bk->y.cell? (ae bk o)=some v->∀p:vv (fun k=>(Value.slice C i E).ownBlock=some k) y,p.W.cell? (ae bk o)=some v:=fun c4 hd dV p=>((cu p.h c4 hd).1 _).trans dV;have e0:=dY (bk:=tb) (o:=5) (v:=aj gl f f) (by omega) (fun h=>by have:=av tb h;omega) (by simp[World.cell?,eS]);have e1:=dY (bk:=bw) (o:=2) (v:=.int .u32 az) (aZ.1 dW).1 (fun h=>bz a5.o dW (by decide) bw h rfl) (by simp[World.cell?,dW]);have e2:=dY (bk:=gl) (o:=A*2) (v:=.slice C i E) (by omega) (fun h=>by have:=av gl h;omega) ((c3.get cr).1.trans (by rw[upd_same]));have ca:=(c3.get cr).1;rw[upd_same]at ca;have f9:=c3.frozenAt (A*2);have eG:gl<y.heap.size:=by omega
          have cH:Hid (∀W,au (fun k=>(Value.slice C i E).ownBlock=some k) y W->aH 95 #[ah fb] W fun e w'=>e=.returned (aa (A:Nat))/\w'=W):=fun W c4=>by
           have dG:=ef.o.ig.blk;have f1:=(aZ.1 dG).1;have g7:=bF bB.o dG (fun h=>by
            rcases h with h|h
            .subst h;have Y:=dG.symm.trans bc.o;injection Y with Y;injection Y with _ Y _;exact absurd Y (by decide)
            .subst h;exact bz b1.o dG (by decide) fb rfl rfl)
           have fZ:=bF c4 g7 (fun h=>by have:=av fb h;omega);have h:=jd fb j (by omega) (by omega) W (by simp[World.cell?,fZ]) (by simp[World.cell?,fZ]);rw[<-eg.o]at h;exact h
          clear eS dW c3 dY;refine ak (fun W=>∃p:vv (fun k=>(Value.slice C i E).ownBlock=some k) y,W=p.W) [19,20,21] [(0,false),(1,false),(2,false),(3,true),(4,false),(6,false),(7,false),(8,false),(9,true),(10,false),(15,false),(16,true)] ⟨⟨_,(au.refl _ _).drew⟩,rfl⟩ 10 ?_;simp only[bn,aX,aY,aW,aN,aM,aO]
          repeat(refine aD (fun K d=>?_);go_simp;first|(refine d _ ?_;clear d K)|(apply Exists.intro;refine⟨fun _=>?_,d _ ?_⟩;rfl;clear d K))
          refine aJ ?_;refine eT [5,17] (by kernel_rfl) (by simp) ?_;refine bA.cons rfl (fun K d=>?_) (bA.cons rfl (fun K d=>?_) bA.nil)
          .
           refine bg lS rfl _ _ rfl (vals:=#[ah fb]) rfl (cH.o _ ((au.refl (fun k=>(Value.slice C i E).ownBlock=some k) y).drew)) ?_;rintro e w' ⟨rfl,bp⟩;subst bp;refine⟨_,rfl,d _ _ (fun h _=>h) ?_⟩;clear d K;refine eT [11,17] (by kernel_rfl) (by simp) ?_;refine bA.cons rfl (fun K d=>?_) (bA.cons rfl (fun K d=>?_) bA.nil)
           .refine bg lS rfl _ _ rfl (vals:=#[ah fb]) rfl (cH.o _ ((au.refl (fun k=>(Value.slice C i E).ownBlock=some k) y).drew)) ?_;rintro e w' ⟨rfl,bp⟩;subst bp;refine⟨_,rfl,d _ _ (fun h _=>h) ?_⟩;clear d K;refine bG [(12,false),(13,false),(14,true)] ⟨⟨_,((au.refl (fun k=>(Value.slice C i E).ownBlock=some k) y).drew)⟩,rfl⟩ rfl ?_;simp only[bn,aX,aY,aW,aN,aM,aO]
            repeat(refine aD (fun K d=>?_);go_simp;first|(refine d _ ?_;clear d K)|(apply Exists.intro;refine⟨fun _=>?_,d _ ?_⟩;rfl;clear d K))
            refine aJ ?_;refine aA 17 rfl fun K d=>?_;go_simp;refine d _ _ (fun _ _=>⟨⟨_,(((au.refl (fun k=>(Value.slice C i E).ownBlock=some k) y).alloc _).drew)⟩,rfl⟩) ?_;clear d K;refine aA 18 rfl fun K d=>?_;refine bH sM u.heap.size (w:=(y.alloc (.cells #[ai az] 27)).drew) (ax a5.o ((aB _ y).alloc (ay _) _|>.drew)) [.int .u32 az] rfl (by simp[Value.oneCell']) rfl (.tmp 134) (.tmp 137) rfl rfl y.heap.size rfl (kF _ _) (by unfold maxLen;omega) (by omega) (by simp;omega) ?_;intro M L G a8 bR c6 da;have bP:y.grownBy G (Value.slice C i E).ownBlock:=dN (bQ ((aB _ y).alloc (ay _) _|>.drew)) bR;have X:au (fun k=>(Value.slice C i E).ownBlock=some k) y G:=(au.refl _ y).grown bP (fun k al=>.inl al);refine d _ _ (fun _ _=>⟨⟨_,X⟩,rfl⟩) ?_;clear d K;refine aF [19,20,21] _ _ _ (by kernel_rfl) ?_;simp only[pick,aX,aY,aW,aN,aM];have bT:¬(Value.slice C i E).ownBlock=some gl:=fun h=>by have:=av gl h;omega
            obtain⟨bC,bE⟩:=cu X eG bT;have gt:=(bC (A*2)).trans ca;have fz:=(bE (A*2)).trans f9;have ao:au (fun k=>k=gl) G (G.setCell (ae gl (A*2)) (aj M (i+1) L)):=(au.refl (fun k=>k=gl) G).set (a:=(ae gl (A*2))) _ (.inl rfl);have cT:Hid ((G.setCell (ae gl (A*2)) (aj M (i+1) L)).heap[tb]? =some (vN (.slice T j P) (.slice am j an) N fb (.slice aw f nc) (aj gl f f) (aj ar (i+1) aq) j)):=bF ao (bF X ck.o (fun h=>by have:=av tb h;omega)) (by omega);have cW:Hid ((G.setCell (ae gl (A*2)) (aj M (i+1) L)).ownsRow u.heap.size 2 1 (aj ar (i+1) aq) (i+1) (((iW R (dO R)).take (i+1)).map (Value.int .i64))):=aS (S:=fun k=>k=gl) (aS (S:=fun k=>(Value.slice C i E).ownBlock=some k) a0.o X (fun g h h2=>bD a5.o a0.o (by decide) g h2 h)) ao (fun g h h2=>by have:=(a0.o.lt g h).1;omega);have cQ:Hid (cO (G.setCell (ae gl (A*2)) (aj M (i+1) L)) w.heap.size gl f f (upd (fun _=>aG) A (aj M (i+1) L)) (fun _=>aG)):=by
             have h:=(cO.kept ce.o X bT).zY cr (aj M (i+1) L);rwa [rX]at h
            have cU:Hid ((G.setCell (ae gl (A*2)) (aj M (i+1) L)).ownsRow u.heap.size 27 1 (aj M (i+1) L) (i+1) ((((dO R).take (i+1)).map (jw R)).map (Value.int .u32))):=by
             have h:=aS (S:=fun k=>k=gl) a8 ao (fun g h h2=>by have:=(a8.lt g h).1;omega);show World.ownsRow _ _ _ _ _ _ _;rw[dm.o,bS];exact h
            have cM:Hid (au (fun k=>k=tb\/k=gl) u (G.setCell (ae gl (A*2)) (aj M (i+1) L))):=(((bB.o.mono (S':=fun k=>(k=tb\/k=gl)\/u.heap.size<=k) (fun k h=>.inl h)).trans (X.mono (fun k h=>.inr (av k h)))).strip).trans (ao.mono (fun k h=>.inr h));clear bC bE X ao bP bR a8 e0 e1 e2 ca f9 a5 ce ck a0 bB av c6 da;go_wp2
            go_roundg (j-(i+1))
            case measure=>omega
            case rel=>exact⟨i+1,_,_,by go_num,by omega,ay _,cT,cW,cQ,cU,cM⟩
           .go_simp;refine d _ _ (fun _ _=>⟨⟨_,(((au.refl (fun k=>(Value.slice C i E).ownBlock=some k) y).alloc _).drew)⟩,rfl⟩) ?_;clear d K;refine aA 11 rfl fun K d=>?_;refine bg lS rfl _ _ rfl (vals:=#[ah fb]) rfl (cH.o _ (((au.refl (fun k=>(Value.slice C i E).ownBlock=some k) y).alloc _).drew)) ?_;rintro e w' ⟨rfl,bp⟩;subst bp;refine⟨_,rfl,d _ _ (fun h _=>h) ?_⟩;clear d K;refine bG [(12,false),(13,false),(14,true)] ⟨⟨_,(((au.refl (fun k=>(Value.slice C i E).ownBlock=some k) y).alloc _).drew)⟩,rfl⟩ rfl ?_;simp only[bn,aX,aY,aW,aN,aM,aO]
            repeat(refine aD (fun K d=>?_);go_simp;first|(refine d _ ?_;clear d K)|(apply Exists.intro;refine⟨fun _=>?_,d _ ?_⟩;rfl;clear d K))
            refine aJ ?_;refine aA 18 rfl fun K d=>?_;refine bH sM u.heap.size (w:=(y.alloc (.cells #[ai az] 27)).drew) (ax a5.o ((aB _ y).alloc (ay _) _|>.drew)) [.int .u32 az] rfl (by simp[Value.oneCell']) rfl (.tmp 134) (.tmp 137) rfl rfl y.heap.size rfl (kF _ _) (by unfold maxLen;omega) (by omega) (by simp;omega) ?_;intro M L G a8 bR c6 da;have bP:y.grownBy G (Value.slice C i E).ownBlock:=dN (bQ ((aB _ y).alloc (ay _) _|>.drew)) bR;have X:au (fun k=>(Value.slice C i E).ownBlock=some k) y G:=(au.refl _ y).grown bP (fun k al=>.inl al);refine d _ _ (fun _ _=>⟨⟨_,X⟩,rfl⟩) ?_;clear d K;refine aF [19,20,21] _ _ _ (by kernel_rfl) ?_;simp only[pick,aX,aY,aW,aN,aM];have bT:¬(Value.slice C i E).ownBlock=some gl:=fun h=>by have:=av gl h;omega
            obtain⟨bC,bE⟩:=cu X eG bT;have gt:=(bC (A*2)).trans ca;have fz:=(bE (A*2)).trans f9;have ao:au (fun k=>k=gl) G (G.setCell (ae gl (A*2)) (aj M (i+1) L)):=(au.refl (fun k=>k=gl) G).set (a:=(ae gl (A*2))) _ (.inl rfl);have cT:Hid ((G.setCell (ae gl (A*2)) (aj M (i+1) L)).heap[tb]? =some (vN (.slice T j P) (.slice am j an) N fb (.slice aw f nc) (aj gl f f) (aj ar (i+1) aq) j)):=bF ao (bF X ck.o (fun h=>by have:=av tb h;omega)) (by omega);have cW:Hid ((G.setCell (ae gl (A*2)) (aj M (i+1) L)).ownsRow u.heap.size 2 1 (aj ar (i+1) aq) (i+1) (((iW R (dO R)).take (i+1)).map (Value.int .i64))):=aS (S:=fun k=>k=gl) (aS (S:=fun k=>(Value.slice C i E).ownBlock=some k) a0.o X (fun g h h2=>bD a5.o a0.o (by decide) g h2 h)) ao (fun g h h2=>by have:=(a0.o.lt g h).1;omega);have cQ:Hid (cO (G.setCell (ae gl (A*2)) (aj M (i+1) L)) w.heap.size gl f f (upd (fun _=>aG) A (aj M (i+1) L)) (fun _=>aG)):=by
             have h:=(cO.kept ce.o X bT).zY cr (aj M (i+1) L);rwa [rX]at h
            have cU:Hid ((G.setCell (ae gl (A*2)) (aj M (i+1) L)).ownsRow u.heap.size 27 1 (aj M (i+1) L) (i+1) ((((dO R).take (i+1)).map (jw R)).map (Value.int .u32))):=by
             have h:=aS (S:=fun k=>k=gl) a8 ao (fun g h h2=>by have:=(a8.lt g h).1;omega);show World.ownsRow _ _ _ _ _ _ _;rw[dm.o,bS];exact h
            have cM:Hid (au (fun k=>k=tb\/k=gl) u (G.setCell (ae gl (A*2)) (aj M (i+1) L))):=(((bB.o.mono (S':=fun k=>(k=tb\/k=gl)\/u.heap.size<=k) (fun k h=>.inl h)).trans (X.mono (fun k h=>.inr (av k h)))).strip).trans (ao.mono (fun k h=>.inr h));clear bC bE X ao bP bR a8 e0 e1 e2 ca f9 a5 ce ck a0 bB av c6 da;go_wp2
            go_roundg (j-(i+1))
            case measure=>omega
            case rel=>exact⟨i+1,_,_,by go_num,by omega,ay _,cT,cW,cQ,cU,cM⟩
          .go_simp;refine d _ _ (fun _ _=>⟨⟨_,(((au.refl (fun k=>(Value.slice C i E).ownBlock=some k) y).alloc _).drew)⟩,rfl⟩) ?_;clear d K;refine aA 5 rfl fun K d=>?_;refine bg lS rfl _ _ rfl (vals:=#[ah fb]) rfl (cH.o _ (((au.refl (fun k=>(Value.slice C i E).ownBlock=some k) y).alloc _).drew)) ?_;rintro e w' ⟨rfl,bp⟩;subst bp;refine⟨_,rfl,d _ _ (fun h _=>h) ?_⟩;clear d K;refine aA 11 rfl fun K d=>?_;refine bg lS rfl _ _ rfl (vals:=#[ah fb]) rfl (cH.o _ (((au.refl (fun k=>(Value.slice C i E).ownBlock=some k) y).alloc _).drew)) ?_;rintro e w' ⟨rfl,bp⟩;subst bp;refine⟨_,rfl,d _ _ (fun h _=>h) ?_⟩;clear d K;refine bG [(12,false),(13,false),(14,true)] ⟨⟨_,(((au.refl (fun k=>(Value.slice C i E).ownBlock=some k) y).alloc _).drew)⟩,rfl⟩ rfl ?_;simp only[bn,aX,aY,aW,aN,aM,aO]
           repeat(refine aD (fun K d=>?_);go_simp;first|(refine d _ ?_;clear d K)|(apply Exists.intro;refine⟨fun _=>?_,d _ ?_⟩;rfl;clear d K))
           refine aJ ?_;refine aA 18 rfl fun K d=>?_;refine bH sM u.heap.size (w:=(y.alloc (.cells #[ai az] 27)).drew) (ax a5.o ((aB _ y).alloc (ay _) _|>.drew)) [.int .u32 az] rfl (by simp[Value.oneCell']) rfl (.tmp 134) (.tmp 137) rfl rfl y.heap.size rfl (kF _ _) (by unfold maxLen;omega) (by omega) (by simp;omega) ?_;intro M L G a8 bR c6 da;have bP:y.grownBy G (Value.slice C i E).ownBlock:=dN (bQ ((aB _ y).alloc (ay _) _|>.drew)) bR;have X:au (fun k=>(Value.slice C i E).ownBlock=some k) y G:=(au.refl _ y).grown bP (fun k al=>.inl al);refine d _ _ (fun _ _=>⟨⟨_,X⟩,rfl⟩) ?_;clear d K;refine aF [19,20,21] _ _ _ (by kernel_rfl) ?_;simp only[pick,aX,aY,aW,aN,aM];have bT:¬(Value.slice C i E).ownBlock=some gl:=fun h=>by have:=av gl h;omega
           obtain⟨bC,bE⟩:=cu X eG bT;have gt:=(bC (A*2)).trans ca;have fz:=(bE (A*2)).trans f9;have ao:au (fun k=>k=gl) G (G.setCell (ae gl (A*2)) (aj M (i+1) L)):=(au.refl (fun k=>k=gl) G).set (a:=(ae gl (A*2))) _ (.inl rfl);have cT:Hid ((G.setCell (ae gl (A*2)) (aj M (i+1) L)).heap[tb]? =some (vN (.slice T j P) (.slice am j an) N fb (.slice aw f nc) (aj gl f f) (aj ar (i+1) aq) j)):=bF ao (bF X ck.o (fun h=>by have:=av tb h;omega)) (by omega);have cW:Hid ((G.setCell (ae gl (A*2)) (aj M (i+1) L)).ownsRow u.heap.size 2 1 (aj ar (i+1) aq) (i+1) (((iW R (dO R)).take (i+1)).map (Value.int .i64))):=aS (S:=fun k=>k=gl) (aS (S:=fun k=>(Value.slice C i E).ownBlock=some k) a0.o X (fun g h h2=>bD a5.o a0.o (by decide) g h2 h)) ao (fun g h h2=>by have:=(a0.o.lt g h).1;omega);have cQ:Hid (cO (G.setCell (ae gl (A*2)) (aj M (i+1) L)) w.heap.size gl f f (upd (fun _=>aG) A (aj M (i+1) L)) (fun _=>aG)):=by
            have h:=(cO.kept ce.o X bT).zY cr (aj M (i+1) L);rwa [rX]at h
           have cU:Hid ((G.setCell (ae gl (A*2)) (aj M (i+1) L)).ownsRow u.heap.size 27 1 (aj M (i+1) L) (i+1) ((((dO R).take (i+1)).map (jw R)).map (Value.int .u32))):=by
            have h:=aS (S:=fun k=>k=gl) a8 ao (fun g h h2=>by have:=(a8.lt g h).1;omega);show World.ownsRow _ _ _ _ _ _ _;rw[dm.o,bS];exact h
           have cM:Hid (au (fun k=>k=tb\/k=gl) u (G.setCell (ae gl (A*2)) (aj M (i+1) L))):=(((bB.o.mono (S':=fun k=>(k=tb\/k=gl)\/u.heap.size<=k) (fun k h=>.inl h)).trans (X.mono (fun k h=>.inr (av k h)))).strip).trans (ao.mono (fun k h=>.inr h));clear bC bE X ao bP bR a8 e0 e1 e2 ca f9 a5 ce ck a0 bB av c6 da;go_wp2
           go_roundg (j-(i+1))
           case measure=>omega
           case rel=>exact⟨i+1,_,_,by go_num,by omega,ay _,cT,cW,cQ,cU,cM⟩
         .obtain rfl:i=j:=by omega
          have cy:=jH R;have hs:(iW R (dO R)).length=i:=by simp[iW,cy];omega
          have gO:Hid (wr.ownsRow u.heap.size 2 1 yv i ((iW R (dO R)).map (Value.int .i64))):=by
           have h:=dv.o;rw[jQ (by omega)]at h;exact h
          have gL:Hid (wr.ownsRow u.heap.size 27 1 vr i (((dO R).map (jw R)).map (Value.int .u32))):=by
           have h:=dt.o;rw[jQ (by omega)]at h;exact h
          clear cy hs;go_wp2;go_meet;refine⟨yv,upd (fun _=>aG) A vr,eh.o,gO.o,ec.o,cK.o,?_,?_⟩
          .intro k al h8;exact upd_ne (by have:=eg.o;omega)
          .intro _;show World.ownsRow _ _ _ _ _ _ _;rw[<-eg.o,upd_same];exact gL.o
      case rest=>
       obtain⟨yv,fw,ds,fv,cf,cN,cc,ei⟩:=hcut;have eW:=pM dp.o.1 dp.o.2;have gM:=af eW;have ih:=cN.o.size;have fH:Else u (fun k=>k=tb\/k=gl):=fun k B h2=>by
        rcases h2 with h2|h2
        .subst h2;exact⟨_,_,_,bc.o,by decide,by decide,by decide,by decide⟩
        .subst h2;rcases b1.o.2 with⟨x,-⟩|⟨g,cX,cY,x,-,aI,-⟩
         .cases x
         .injection x with x;injection x with x;injection x with x;subst x;exact⟨_,_,_,aI,by decide,by decide,by decide,by decide⟩
       have dq:=af (ef.o.kept cN.o fH);have fs:Hid (wc.ownsRow w.heap.size 2 1 (.slice am j an) j ((bU R).map (Value.int .i64))):=aS cl.o cN.o (fun g h h2=>by
        rcases h2 with h2|h2
        .exact bz cl.o bc.o (by decide) g h h2.symm
        .subst h2;exact bD b1.o cl.o (by decide) g rfl h)
       have fk:Hid (wc.ownsMap prog 27 (plainElem prog 3) U j D):=vM ed.o (cN.o.block U hj (fun h=>by
        obtain⟨ep,en,aI,-⟩:=ed.o;rcases h with h|h
        .subst h;have Y:=aI.symm.trans bc.o;cases Y
        .subst h;rcases b1.o.2 with⟨x,-⟩|⟨g,cX,cY,x,-,c9,-⟩
         .cases x
         .injection x with x;injection x with x;injection x with x;subst x;rw[aI]at c9;cases c9))
       have fc:Hid (Below w.heap.size w wc):=d9.o.trans (cN.o.toBelow d9.o.size (fun k h=>by rcases h with h|h<;>omega));have gH:Hid (xN wc u.heap.size j R (dO R) f fw (fun _=>aG)):=by
        have hk:∀t s,FT.At (aU j) t s->t.root s=2*j-2->nl (dO R) t=dO R:=fun t s I b7=>by
         have aK:=ky I;obtain⟨rfl,rfl⟩:=FT.At.unique I (jF j aK) (by rw[kL aK,b7]);have h:=eW.top (by omega);rwa [ct]at h
        refine⟨fun t s I h2=>?_,fun l r q I h2=>?_,fun l r q I h2=>?_,fun k B h2=>?_,fun k B=>rfl,fun k B g h2=>?_,fun i k B h2 ac g be bI=>?_,fun i k B h2 ac g be bI=>by cases be⟩
        .rcases h2 with h2|⟨l,r,q,ac,be,bI⟩
         .rw[h2,hk t s I h2];have:=ei.o (ky I);rw[jH,ct];exact this
         .have:=ac.lt;omega
        .have aK:=ky I;have B:=FT.yA (fG aK▸I);rw[kL aK]at B;have ac:=I.left.lt;have be:=I.right.lt;exact⟨cc.o _ (by omega) B.1,cc.o _ (by omega) B.2⟩
        .have:=I.lt;omega
        .omega
        .by_cases e:k=2*j-2
         .have aK:0<j:=by rw[dh]at B;omega
          subst e;exact(ei.o aK).lt g h2
         .rw[cc.o k (by omega) e]at h2;cases h2
        .by_cases e:i=2*j-2
         .rw[cc.o k (by omega) (by omega)]at bI;cases bI
         .rw[cc.o i (by omega) e]at be;cases be
       have O:=ds.o;have fy:wc.cell? (ae tb 4)=some (.slice aw f nc):=by simp[World.cell?,O]
       clear O eW fH ef cl ed d9 dj cc ei
       go_wp2_with fail
       go_loopg [15] f (fun b9 hz wr=>∃(m:Nat) (z:Int) (LN LL:Nat->Value),hz=.int .i64 z/\z+1=(m:Int)/\m<=f/\m<=b9/\Hid (cO wr w.heap.size gl f f LN LL)/\Hid (au (fun k=>k=gl) wc wr)/\Hid (xN wr u.heap.size j R (dO R) m LN LL))
       case atStart=>exact⟨f,_,fw,_,rfl,by omega,ay _,ay _,cf,au.refl _ _,gH⟩
       case round=>
        obtain⟨m,z,LN,LL,rfl,ik,ge,h1,cP,a3,a4⟩:=hrel;have bW:(aU j).length=f:=g2;by_cases h5:0<m
        .obtain⟨k,rfl⟩:∃k,m=k+1:=⟨m-1,by omega⟩;obtain rfl:z=(k:Int):=by omega
         obtain⟨t,s,I,dc⟩:=rZ (j:=j) (k:=k) (by omega);have aK:=ky I;obtain⟨c1,cn,x,-,hQ,-⟩:=aQ dq.o.iP (by omega);injection x with gW gX gY;subst gW;have O:=ds.o;have dU:tb≠gl:=by omega
         have ey:=bF a3.o ds.o (fun h=>dU h);have el:wr.cell? (ae tb 4)=some (aj c1 (aU j).length nc):=by rw[bW];simp[World.cell?,ey]
         have em:wr.cell? (ae tb 5)=some (aj gl (aU j).length f):=by rw[bW];simp[World.cell?,ey]
         have f5:c1≠gl:=fun h=>bD cf.o dq.o.iP (by decide) gl rfl (by rw[<-h];rfl);have eJ:cz nU 7 wr (some (ae c1 0)) (aU j):=by
          have bi:=aS dq.o.iP a3.o (fun g h h2=>by have Y:=MN h;omega);obtain⟨_,_,bo,-,-,Y⟩:=cz.aC iZ (by decide) bi;injection bo with Z co cp;rw[<-Z]at Y;exact Y
         have fC:u.heap.size<=wr.heap.size:=by have:=a3.o.size;omega
         have ev:cO wr w.heap.size gl (aU j).length f LN LL:=by rw[bW];exact cP.o
         have e8:aH 96 #[ah tb,aa k,.map (some U)] wr fun e w'=>e=.returned (.tuple #[])/\∃dy dw,cO w' w.heap.size gl f f dy dw/\au (fun k=>k=gl) wr w'/\xN w' u.heap.size j R (dO R) k dy dw:=by
          cases t with
          |leaf a=>
           refine(xK a s tb c1 0 nc gl f w.heap.size k U (aU j) LN LL wr I dc (by omega) el eJ em ev).mono ?_;rintro e w' ⟨rfl,vf,hq,B,h2,ac⟩;rw[bW]at B;exact⟨rfl,LN,_,B,ac,a4.o.leaf cP.o I dc ac fC hq h2⟩
          |node l r=>
           have eC:=a4.o.cur I (by omega);rw[dc]at eC;obtain⟨gQ,gS,eo,-,-,aR⟩:=Rd.aC eC;rw[bX]at eo;have hX:=FT.vE l r s;obtain⟨gZ,g0⟩:=a4.o.emp l r s I (by omega);have hr:∀p,p∈(dK 0 j).subs 0->p.1.wf:=fun p hp=>FT.pG _ _ (bO 0 j aK).1 p hp;have eX:=hr _ (FT.at_mem (fG aK▸I));have eH:∀i,i∈nl (dO R) (.node l r)->i<j:=fun i hi=>by
            have:=gM.o.lt (bK.1 hi).1;omega
           have g8:=FT.y5 _ 0 (bO 0 j aK).1 _ (FT.at_mem (fG aK▸I));have hT:(FT.node l r).hi<=(dK 0 j).hi:=g8;have hR:=(bO 0 j aK).2.2;have h3:l.hi<=(FT.node l r).hi:=by have:=FT.eQ r eX.2.1;have:=eX.2.2;show l.hi<=r.hi;omega
           have ha:(nl (dO R) (.node l r)).length<=(dO R).length:=gK _ _;rw[jH]at ha;have hc:wr.ownsMap prog 27 (plainElem prog 3) U j D:=vM fk.o (a3.o.block U (by omega) (fun h=>by
            obtain⟨ep,en,aI,-⟩:=fk.o;subst h;rcases cf.o.2 with⟨x,-⟩|⟨g,cX,cY,x,-,c9,-⟩
            .cases x
            .injection x with x;injection x with x;injection x with x;subst x;rw[aI]at c9;cases c9))
           refine(xJ l r s tb c1 0 nc gl f w.heap.size k (l.root s) (r.root (s+l.size)) l.hi U j (aU j) LN LL (nl (dO R) (.node l r)) (jw R) gQ gS D wr I dc rfl rfl rfl (by omega) (by omega) el eJ em ev ⟨f5,dU,fun b o e=>?_⟩ eo aR (by omega) gZ g0 hc (fun i hi=>?_) (fun i hi=>?_) (fun i hi=>by have:=eH i hi;omega)).mono ?_
           .intro h;subst h;exact bD cP.o eC (by decide) b rfl (by rw[eo,e];rfl)
           .obtain⟨sm,ge⟩:=gF.o;have Y:=(ge.2.2.2.2 (jw R i)).2 (.lit (.int .i64 0));rw[Y];have et:=Aj dp.o.2 j (by omega) i (eH i hi);have g1:placeF R j (jw R i)=some (i:Int):=et;rw[g1]
           .have ga:i<R.length:=by have:=eH i hi;omega
            have et:bV R i=R[i]:=by simp[bV,ga]
            unfold jw;rw[et];exact fn.o _ (bN ga)
           .rintro e w' ⟨rfl,vl,vr,vf,B,h2,ac,be,bI,c2⟩;rw[bW]at B;exact⟨rfl,_,_,B,c2,a4.o.node cP.o I eX dc c2 fC h2 ac be bI⟩
         have fd:=af e8;clear e8 ev eJ ey el em O f5 gX gY
         go_wp2_with fail
         refine fd.o.mono ?_;rintro e w' ⟨rfl,dy,dw,B,h2,ac⟩;have gv:=af B;have gw:Hid (au (fun k=>k=gl) wc w'):=a3.o.trans h2;have gx:=af ac;clear B h2 ac fd;go_wp2
         go_roundg k
         case measure=>omega
         case rel=>exact⟨k,(k:Int)-1,dy,dw,by go_num,by omega,by omega,ay _,gv,gw,gx⟩
        .obtain rfl:m=0:=by omega
         obtain rfl:z=-1:=by omega
         have ii:=a3.o.size;have a6:uE wr w.heap.size fb j (.slice T j P) N (.slice aw f nc) ab R:=dq.o.kept a3.o (fun k B h2=>by
          subst h2;rcases cf.o.2 with⟨x,-⟩|⟨g,cX,cY,x,-,aI,-⟩
          .cases x
          .injection x with x;injection x with x;injection x with x;subst x;exact⟨_,_,_,aI,by decide,by decide,by decide,by decide⟩)
         have eB:=aS fs.o a3.o (fun g h h2=>by subst h2;exact bD cf.o fs.o (by decide) g rfl h);have dE:=aS fv.o a3.o (fun g h h2=>by subst h2;exact bD cf.o fv.o (by decide) g rfl h);have dU:tb≠gl:=by omega
         have ez:=bF a3.o ds.o (fun h=>dU h);have fE:Below w.heap.size w wr:=fc.o.trans (a3.o.toBelow fc.o.size (fun k h=>by omega));have ew:=cP.o;have cy:=jH R;have e9:Hid (jl wr w.heap.size wr.heap.size tb fb R (List.replicate R.length false) (dO R) ⟨.slice T j P,.slice am j an,N,.slice aw f nc,aj gl f f,yv,ab,LN,LL⟩/\Below w.heap.size w wr):=by
          have Z:R.length=j:=ct;have f1:=(aZ.1 a6.ig.blk).1;have ho:=(aZ.1 ez).1;refine⟨⟨?_,⟨hn,ho,a6.OT,f1,ay _⟩,?_,?_,?_,?_,?_,?_,?_,?_,?_,?_,?_,?_,?_,?_,?_⟩,fE⟩
          .rw[cy,Z];exact ez
          .rw[Z];exact a6.row
          .rw[Z];exact eB
          .rw[Z];exact a6.Cs
          .rw[Z];exact a6.ig
          .rw[Z,bW];have h:=a6.iP;rw[bW]at h;exact h
          .rw[Z,bW];exact ew
          .rw[cy,Z];exact bL dE (by omega)
          .intro t s I;rw[Z]at I;exact bL (a4.o.all I) (by omega)
          .intro l r s I;rw[Z]at I;exact bL (a4.o.zW l r s I (bf _)) (by omega)
          .intro k al;rw[Z]at al;exact(a4.o.Cn k al (bf _)).1
          .intro v dV g aP;rcases dV with rfl|rfl|rfl|rfl|rfl|rfl|rfl
           .exact(a6.row.lt g aP).2
           .exact(eB.lt g aP).2
           .exact(a6.Cs.lt g aP).2
           .exact(a6.iP.lt g aP).2
           .exact(ew.lt g aP).2
           .exact(dE.lt g aP).2
           .exact(a6.ig.row.lt g aP).2
          .intro k al;rw[Z]at al;exact⟨fun g aP=>(a4.o.Ps k al g aP).2,fun g aP=>((a4.o.Cn k al (bf _)).2 g aP).2⟩
          .intro g aP h2;have hH:=gN.o g aP;have hI:=(dE.lt g h2).1;omega
          .intro i k B h2 ac;rw[Z]at B h2;exact a4.o.Gx i k B h2 ac
          .intro i k B h2 ac;rw[Z]at B h2;exact a4.o.Fj i k B h2 ac
         clear a6 eB dE ez fE ew cy;go_wp2;go_ret2;rw[gG.o];exact⟨tb,fb,_,rfl,e9.o.1,e9.o.2⟩
end
section
open Go.RowKit Go.Sort Go.Shelf Go.Lib Go.Maps
def mE {α:Type} (f:Nat->α) (k:Nat) (v:α):Nat->α:=fun j=>if j=k then v else f j
theorem jm {α:Type} (f:Nat->α) (k:Nat) (v:α):mE f k v k=v:=by simp[mE]
theorem vX {α:Type} {f:Nat->α} {k j:Nat} {v:α} (h:j≠k):mE f k v j=f j:=by simp[mE,h]
structure gz (w:World) (lo hi tb fb:Nat) (R:List Pt) (gone:List Bool) (cnt:Nat) (yy:List Nat) (nc:Nat->List Nat) (lc:Nat->List Int) (V:xG):Prop where
 blk:w.heap[tb]? =some (vN V.rv V.xv V.gv fb V.nv V.lv V.yv cnt)
 fq:lo<=tb/\tb<hi/\lo<=fb/\fb<hi/\hi<=w.heap.size
 row:w.ownsRow lo 29 3 V.rv R.length (R.flatMap dx)
 xs:w.ownsRow lo 2 1 V.xv R.length ((bU R).map (Value.int .i64))
 Cs:w.ownsRow lo 4 1 V.gv R.length (gone.map Value.bool)
 ig:mQ w lo fb R.length V.fv
 iP:w.ownsRow lo 163 7 V.nv (aU R.length).length ((aU R.length).flatMap nU)
 DR:w.ownsRow lo 150 2 V.lv (aU R.length).length (M3 V.LN V.LL (aU R.length).length)
 ys:w.ownsRow lo 2 1 V.yv yy.length ((iW R yy).map (Value.int .i64))
 EU:∀k,k<(aU R.length).length->w.ownsRow lo 27 1 (V.LN k) (nc k).length (((nc k).map (jw R)).map (Value.int .u32))
 zW:∀l r s,FT.At (aU R.length) (.node l r) s->w.ownsRow lo 3 1 (V.LL ((FT.node l r).root s)) (lc ((FT.node l r).root s)).length ((lc ((FT.node l r).root s)).map (Value.int .i64))
 Cn:∀k,k<(aU R.length).length->∃a m c,V.LL k=.slice a m c
 top:∀v,v=V.rv\/v=V.xv\/v=V.gv\/v=V.nv\/v=V.lv\/v=V.yv\/v=V.fv->∀g,v.ownBlock=some g->g<hi
 nX:∀k,k<(aU R.length).length->(∀g,(V.LN k).ownBlock=some g->g<hi)/\∀g,(V.LL k).ownBlock=some g->g<hi
 Mj:∀g,V.xv.ownBlock=some g->V.yv.ownBlock≠some g
 Gx:∀i k,i<(aU R.length).length->k<(aU R.length).length->i≠k->∀g,(V.LN i).ownBlock=some g->(V.LN k).ownBlock≠some g
 Fj:∀i k,i<(aU R.length).length->k<(aU R.length).length->i≠k->∀g,(V.LL i).ownBlock=some g->(V.LL k).ownBlock≠some g
theorem eX {w w':World} {g base:Nat} {cs:Array Value} {t:TypeId} {fr:Nat×Nat} {e:TypeId} {sz:Nat} {v:Value} {n:Nat} {xs:List Value} (h:w.ownsRow base e sz v n xs) (K:au (fun k=>k=g) w w') (b:w.heap[g]? =some (.cells cs t fr)) (ht:t≠e):w'.ownsRow base e sz v n xs:=
 og h K fun k c a=>by subst a;exact⟨_,_,_,b,ht⟩
theorem PG {w w':World} {g base:Nat} {e:TypeId} {sz:Nat} {v:Value} {n:Nat} {xs:List Value} (h:w.ownsRow base e sz v n xs) (K:au (fun k=>k=g) w w') (c:v.ownBlock≠some g):w'.ownsRow base e sz v n xs:=
 aS h K fun k a b=>by subst b;exact c a
theorem xR {w w':World} {g base fb n:Nat} {b:Value} {cs:Array Value} {t:TypeId} {fr:Nat×Nat} (h:mQ w base fb n b) (K:au (fun k=>k=g) w w') (c:w.heap[g]? =some (.cells cs t fr)) (d:t≠236) (f:t≠163):mQ w' base fb n b:=
 ⟨bF K h.blk fun e=>by subst e;have a:=c.symm.trans h.blk;injection a with a;injection a with _ a _;exact d a,eX h.row K c f⟩
theorem Ef {w w':World} {g b:Nat} {cs d:Array Value} {t c:TypeId} {fr f:Nat×Nat} (h:w.heap[b]? =some (.cells d c f)) (K:au (fun k=>k=g) w w') (j:w.heap[g]? =some (.cells cs t fr)) (i:t≠c):w'.heap[b]? =some (.cells d c f):=
 bF K h fun e=>by subst e;have a:=j.symm.trans h;injection a with a;injection a with _ a _;exact i a
theorem pU {w:World} {base g n c:Nat} {e:TypeId} {sz m:Nat} {xs:List Value} (h:w.ownsRow base e sz (aj g n c) m xs):∃cs fr,w.heap[g]? =some (.cells cs e fr):=by
 rcases h.2 with⟨a,-⟩|⟨i,d,f,a,-,b,-⟩
 .cases a
 .injection a with a;injection a with a;injection a with a;subst a;exact⟨_,_,b⟩
section
variable {w w':World} {lo hi tb fb:Nat} {R:List Pt} {gone:List Bool} {cnt:Nat} {yy:List Nat} {nc:Nat->List Nat} {lc:Nat->List Int} {V:xG}
theorem gz.kept {S:Nat->Prop} (h:gz w lo hi tb fb R gone cnt yy nc lc V) (K:au S w w') (hS:∀k,lo<=k->k<hi->¬S k):gz w' lo hi tb fb R gone cnt yy nc lc V:=by
 have ht:=h.top;have a:∀{e:TypeId} {sz:Nat} {v:Value} {n:Nat} {xs:List Value},w.ownsRow lo e sz v n xs->(∀g,v.ownBlock=some g->g<hi)->w'.ownsRow lo e sz v n xs:=fun a d=>aS a K fun g e=>hS g (a.lt g e).1 (d g e);exact⟨bF K h.blk (hS tb h.fq.1 h.fq.2.1),⟨h.fq.1,h.fq.2.1,h.fq.2.2.1,h.fq.2.2.2.1,bJ h.fq.2.2.2.2 K.size⟩,
  a h.row (ht _ (by simp)),a h.xs (ht _ (by simp)),a h.Cs (ht _ (by simp)),
  ⟨bF K h.ig.blk (hS fb h.fq.2.2.1 h.fq.2.2.2.1),a h.ig.row (ht _ (by simp))⟩,a h.iP (ht _ (by simp)),a h.DR (ht _ (by simp)),a h.ys (ht _ (by simp)),
  fun k c=>a (h.EU k c) (h.nX k c).1,fun l r s b=>a (h.zW l r s b) (h.nX _ b.lt).2,h.Cn,h.top,h.nX,h.Mj,h.Gx,h.Fj⟩
theorem gz.below {B:Nat} (h:gz w lo hi tb fb R gone cnt yy nc lc V) (a:Below B w w') (e:hi<=B):gz w' lo hi tb fb R gone cnt yy nc lc V:=
 h.kept (S:=fun k=>hi<=k) ⟨a.os,a.tape,a.output,a.size,fun k f g=>a.block k (by omega)⟩ fun k b c d=>by omega
theorem gz.Ay (h:gz w lo hi tb fb R gone cnt yy nc lc V) (m:Nat):gz (w.setCell (ae tb 7) (.int .i64 m)) lo hi tb fb R gone m yy nc lc V:=by
 have K:au (fun k=>k=tb) w (w.setCell (ae tb 7) (.int .i64 m)):=(au.refl (fun k=>k=tb) w).set (a:=(ae tb 7)) _ (.inl rfl);have b:=h.blk;exact⟨dA w tb 7 _ _ _ h.blk,by simpa using h.fq,eX h.row K b (by decide),eX h.xs K b (by decide),eX h.Cs K b (by decide),xR h.ig K b (by decide) (by decide),eX h.iP K b (by decide),eX h.DR K b (by decide),eX h.ys K b (by decide),
  fun k d=>eX (h.EU k d) K b (by decide),fun l r s c=>eX (h.zW l r s c) K b (by decide),h.Cn,h.top,h.nX,h.Mj,h.Gx,h.Fj⟩
theorem gz.PH (h:gz w lo hi tb fb R gone cnt yy nc lc V) {g n c:Nat} (f:V.gv=aj g n c) (i:Nat):gz (w.setCell (ae g i) (.bool true)) lo hi tb fb R (gone.set i true) cnt yy nc lc V:=by
 have K:au (fun k=>k=g) w (w.setCell (ae g i) (.bool true)):=(au.refl (fun k=>k=g) w).set (a:=(ae g i)) _ (.inl rfl);have e:=h.Cs;rw[f]at e;have⟨cs,fr,b⟩:=pU e;refine⟨Ef h.blk K b (by decide),by simpa using h.fq,eX h.row K b (by decide),eX h.xs K b (by decide),?_,xR h.ig K b (by decide) (by decide),eX h.iP K b (by decide),eX h.DR K b (by decide),eX h.ys K b (by decide),
  fun k m=>eX (h.EU k m) K b (by decide),fun l r s j=>eX (h.zW l r s j) K b (by decide),h.Cn,h.top,h.nX,h.Mj,h.Gx,h.Fj⟩
 rw[f,j3];have o:n=R.length:=by
  rcases e.2 with⟨d,-⟩|⟨t,p,q,d,-⟩
  .cases d
  .injection d with _ d _
 subst o;exact(e.stored i (.bool true)).1
theorem gz.Tj (h:gz w lo hi tb fb R gone cnt yy nc lc V) {g n c n':Nat} (j:V.yv=aj g n c) (K:au (fun k=>k=g) w w') {yy':List Nat} (A:w'.ownsRow lo 2 1 (aj g n' c) yy'.length ((iW R yy').map (Value.int .i64))):
  gz (w'.setCell (ae tb 6) (aj g n' c)) lo hi tb fb R gone cnt yy' nc lc {V with yv:=aj g n' c}:=by
 have t:=h.ys;rw[j]at t;have⟨cs,fr,q⟩:=pU t;have ht:=Ef h.blk K q (by decide);have i:au (fun k=>k=tb) w' (w'.setCell (ae tb 6) (aj g n' c)):=(au.refl (fun k=>k=tb) w').set (a:=(ae tb 6)) _ (.inl rfl);have C:=h.xs;have y:V.xv.ownBlock≠some g:=fun e=>h.Mj g e (by rw[j];rfl);have f:∀{e:TypeId} {sz:Nat} {v:Value} {m:Nat} {xs:List Value},w.ownsRow lo e sz v m xs->2≠e->146≠e->(w'.setCell (ae tb 6) (aj g n' c)).ownsRow lo e sz v m xs:=fun z o p=>eX (eX z K q o) i ht p;refine⟨dA w' tb 6 _ _ _ ht,?_,f h.row (by decide) (by decide),eX (PG C K y) i ht (by decide),f h.Cs (by decide) (by decide),xR (xR h.ig K q (by decide) (by decide)) i ht (by decide) (by decide),f h.iP (by decide) (by decide),f h.DR (by decide) (by decide),eX A i ht (by decide),
  fun k x=>f (h.EU k x) (by decide) (by decide),fun l r s u=>f (h.zW l r s u) (by decide) (by decide),h.Cn,?_,h.nX,?_,h.Gx,h.Fj⟩
 .have:=h.fq;have:=K.size;simp;omega
 .intro v B b d;rcases B with e|e|e|e|e|e|e
  .exact h.top v (.inl e) b d
  .exact h.top v (.inr (.inl e)) b d
  .exact h.top v (.inr (.inr (.inl e))) b d
  .exact h.top v (.inr (.inr (.inr (.inl e)))) b d
  .exact h.top v (.inr (.inr (.inr (.inr (.inl e))))) b d
  .exact h.top V.yv (by simp) b (by rw[j];rw[e]at d;exact d)
  .exact h.top v (.inr (.inr (.inr (.inr (.inr (.inr e)))))) b d
 .intro b o p;exact h.Mj b o (by rw[j];exact p)
theorem gz.Rz (h:gz w lo hi tb fb R gone cnt yy nc lc V) {k g n c n' gl nl cl:Nat} (B:k<(aU R.length).length) (y:V.LN k=aj g n c) (D:V.lv=aj gl nl cl) (K:au (fun k=>k=g) w w') {L':List Nat} (N:w'.ownsRow lo 27 1 (aj g n' c) L'.length ((L'.map (jw R)).map (Value.int .u32))):
  gz (w'.setCell (ae gl (k*2)) (aj g n' c)) lo hi tb fb R gone cnt yy (mE nc k L') lc {V with LN:=upd V.LN k (aj g n' c)}:=by
 have F:=h.EU k B;rw[y]at F;have⟨cs,fr,x⟩:=pU F;have C:=h.DR;rw[D]at C;have L:nl=(aU R.length).length:=by
  rcases C.2 with⟨q,-⟩|⟨b,O,Q,q,-⟩
  .cases q
  .injection q with _ q _
 subst L;have E:=eX C K x (by decide);have⟨P,S,p⟩:=pU E;have o:au (fun k=>k=gl) w' (w'.setCell (ae gl (k*2)) (aj g n' c)):=(au.refl (fun k=>k=gl) w').set (a:=(ae gl (k*2))) _ (.inl rfl);have j:∀{e:TypeId} {sz:Nat} {v:Value} {m:Nat} {xs:List Value},w.ownsRow lo e sz v m xs->27≠e->150≠e->(w'.setCell (ae gl (k*2)) (aj g n' c)).ownsRow lo e sz v m xs:=fun M z A=>eX (eX M K x z) o p A;refine⟨Ef (Ef h.blk K x (by decide)) o p (by decide),?_,j h.row (by decide) (by decide),j h.xs (by decide) (by decide),j h.Cs (by decide) (by decide),xR (xR h.ig K x (by decide) (by decide)) o p (by decide) (by decide),j h.iP (by decide) (by decide),?_,j h.ys (by decide) (by decide),
  fun k' f=>?_,fun l r s J=>j (h.zW l r s J) (by decide) (by decide),h.Cn,h.top,fun k' f=>⟨fun b d=>?_,(h.nX k' f).2⟩,h.Mj,fun i G z A H b t u=>?_,h.Fj⟩
 .have:=h.fq;have:=K.size;simp;omega
 .show World.ownsRow _ _ _ _ V.lv _ _;rw[D];exact cO.zY E B _
 .by_cases e:k'=k
  .subst e;rw[jm];show World.ownsRow _ _ _ _ (upd V.LN k' _ k') _ _;rw[upd_same];exact eX N o p (by decide)
  .rw[vX e];show World.ownsRow _ _ _ _ (upd V.LN k _ k') _ _;rw[upd_ne e];exact eX (PG (h.EU k' f) K (fun I=>h.Gx k k' B f (iG e) g (by rw[y];rfl) I)) o p (by decide)
 .by_cases e:k'=k
  .subst e;have d:(upd V.LN k' (aj g n' c) k').ownBlock=some b:=d;rw[upd_same]at d;exact(h.nX k' f).1 b (by rw[y];exact d)
  .have d:(upd V.LN k (aj g n' c) k').ownBlock=some b:=d;rw[upd_ne e]at d;exact(h.nX k' f).1 b d
 .have own:∀i,(upd V.LN k (aj g n' c) i).ownBlock=(V.LN i).ownBlock:=fun i=>by
   by_cases e:i=k
   .subst e;rw[upd_same,y];rfl
   .rw[upd_ne e]
  have t:(upd V.LN k (aj g n' c) i).ownBlock=some b:=t;have u:(upd V.LN k (aj g n' c) G).ownBlock=some b:=u;rw[own]at t u;exact h.Gx i G z A H b t u
theorem gz.RA (h:gz w lo hi tb fb R gone cnt yy nc lc V) {D E:FT} {F k g n c n' gl nl cl:Nat} (H:FT.At (aU R.length) (.node D E) F) (J:(FT.node D E).root F=k) (C:V.LL k=aj g n c) (L:V.lv=aj gl nl cl) (K:au (fun k=>k=g) w w') {L':List Int} (W:w'.ownsRow lo 3 1 (aj g n' c) L'.length (L'.map (Value.int .i64))):
  gz (w'.setCell (ae gl (k*2+1)) (aj g n' c)) lo hi tb fb R gone cnt yy nc (mE lc k L') {V with LL:=upd V.LL k (aj g n' c)}:=by
 have I:k<(aU R.length).length:=J▸H.lt;have N:=h.zW D E F H;rw[J,C]at N;have⟨cs,fr,x⟩:=pU N;have B:=h.DR;rw[L]at B;have T:nl=(aU R.length).length:=by
  rcases B.2 with⟨p,-⟩|⟨b,Y,aa,p,-⟩
  .cases p
  .injection p with _ p _
 subst T;have M:=eX B K x (by decide);have⟨Z,ab,o⟩:=pU M;have j:au (fun k=>k=gl) w' (w'.setCell (ae gl (k*2+1)) (aj g n' c)):=(au.refl (fun k=>k=gl) w').set (a:=(ae gl (k*2+1))) _ (.inl rfl);have f:∀{e:TypeId} {sz:Nat} {v:Value} {m:Nat} {xs:List Value},w.ownsRow lo e sz v m xs->3≠e->150≠e->(w'.setCell (ae gl (k*2+1)) (aj g n' c)).ownsRow lo e sz v m xs:=fun U z A=>eX (eX U K x z) j o A;have own:∀i,(upd V.LL k (aj g n' c) i).ownBlock=(V.LL i).ownBlock:=fun i=>by
  by_cases e:i=k
  .subst e;rw[upd_same,C];rfl
  .rw[upd_ne e]
 refine⟨Ef (Ef h.blk K x (by decide)) j o (by decide),?_,f h.row (by decide) (by decide),f h.xs (by decide) (by decide),f h.Cs (by decide) (by decide),xR (xR h.ig K x (by decide) (by decide)) j o (by decide) (by decide),f h.iP (by decide) (by decide),?_,f h.ys (by decide) (by decide),
  fun k' d=>f (h.EU k' d) (by decide) (by decide),fun l r s G=>?_,fun k' d=>?_,h.top,fun k' d=>⟨(h.nX k' d).1,fun b y=>?_⟩,h.Mj,h.Gx,fun i O z A P b q t=>?_⟩
 .have:=h.fq;have:=K.size;simp;omega
 .show World.ownsRow _ _ _ _ V.lv _ _;rw[L];exact cO.Pn M I _
 .have S:=G.lt;generalize Q:(FT.node l r).root s=k' at*;by_cases e:k'=k
  .subst e;rw[jm];show World.ownsRow _ _ _ _ (upd V.LL k' _ k') _ _;rw[upd_same];exact eX W j o (by decide)
  .rw[vX e];show World.ownsRow _ _ _ _ (upd V.LL k _ k') _ _;rw[upd_ne e];have u:=h.zW l r s G;rw[Q]at u;exact eX (PG u K (fun u=>h.Fj k k' I S (iG e) g (by rw[C];rfl) u)) j o (by decide)
 .show∃a m X,upd V.LL k _ k'=_;by_cases e:k'=k
  .subst e;rw[upd_same];exact⟨_,_,_,rfl⟩
  .rw[upd_ne e];exact h.Cn k' d
 .have y:(upd V.LL k (aj g n' c) k').ownBlock=some b:=y;rw[own]at y;exact(h.nX k' d).2 b y
 .have q:(upd V.LL k (aj g n' c) i).ownBlock=some b:=q;have t:(upd V.LL k (aj g n' c) O).ownBlock=some b:=t;rw[own]at q t;exact h.Fj i O z A P b q t
theorem gz.RB (h:gz w lo hi tb fb R gone cnt yy nc lc V) {m n:FT} {o k g c j:Nat} (q:FT.At (aU R.length) (.node m n) o) (t:(FT.node m n).root o=k) (i:V.LL k=aj g (lc k).length c) (x:Int):
  gz (w.setCell (ae g j) (.int .i64 x)) lo hi tb fb R gone cnt yy nc (mE lc k ((lc k).set j x)) V:=by
 have u:k<(aU R.length).length:=t▸q.lt;have f:=h.zW m n o q;rw[t,i]at f;have⟨cs,fr,b⟩:=pU f;have K:au (fun k=>k=g) w (w.setCell (ae g j) (.int .i64 x)):=(au.refl (fun k=>k=g) w).set (a:=(ae g j)) _ (.inl rfl);refine⟨Ef h.blk K b (by decide),by simpa using h.fq,eX h.row K b (by decide),eX h.xs K b (by decide),eX h.Cs K b (by decide),xR h.ig K b (by decide) (by decide),eX h.iP K b (by decide),eX h.DR K b (by decide),eX h.ys K b (by decide),
  fun k' v=>eX (h.EU k' v) K b (by decide),fun l r s p=>?_,h.Cn,h.top,h.nX,h.Mj,h.Gx,h.Fj⟩
 have y:=p.lt;have d:=h.zW l r s p;generalize z:(FT.node l r).root s=k' at*;by_cases e:k'=k
 .subst e;rw[jm,i,jY,j3];exact(f.stored j (.int .i64 x)).1
 .rw[vX e];exact PG d K (fun d=>h.Fj k k' u y (iG e) g (by rw[i];rfl) d)
end
end
end Go.Proofs.YtkjdbndekceffaaGreat
