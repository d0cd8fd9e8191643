/- Made small by a program. -/
import Derived.Test.YtkjdbndekceffaaGreatY07
set_option linter.unusedSimpArgs false
set_option linter.unusedVariables false
set_option maxRecDepth 100000
set_option maxHeartbeats 16000000
namespace Go.Proofs.YtkjdbndekceffaaGreat
open Tryz
section
open Go.RowKit Go.Sort Go.Shelf Go.Lib Go.Maps
attribute [local irreducible] wpQuiet
attribute [local go_sem] Oper.eT
theorem Jg (a:Option Addr) (c:Nat) (l:List Pt) (w:World) (dG:bV dw 3 w a l) (hb:l.length<=20000) (gj:HZ l) (hu:lF l=true):
  aK 35 #[.slice a l.length c] w fun e w'=>∃tb fb V,e=.returned (.tuple #[aj tb,ae 0])/\jC w' w.heap.size w'.heap.size tb fb (eQ l) (List.replicate (eQ l).length false) (dQ (eQ l)) V/\Below w.heap.size w w':=by
 have db:=Gh a c l w dG aa gj;rw[hu]at db;have hC:=ag dG;obtain⟨n,dJ⟩:∃n,n=l.length:=⟨_,rfl⟩;have dX:=ag (fun W (c1:Below w.heap.size w W)=>oP a l n c W dJ.symm (dG.below c1) aa);have fh:=ag dJ;rw[<-dJ]at hb db |-;have e1:=ag (fun W=>yo n aa W);clear dJ dG;have d1:decide ((n:Int)>2147483648)=false:=aF;have d2:decide ((2147483648:Int)<(n:Int))=false:=aF;have d3:decide (2147483648<n)=false:=aF;go_enter func35,ntmps35
 go_wp2_with (go_at_call 89;refine db.mono ?_;rintro e w1 ⟨rfl,dB⟩;clear db)
 go_wp2_with fail
 refine(e1.o w1).mono ?_;rintro e w2 ⟨rfl,du⟩;have cF:Hid (Below w.heap.size w w2):=by rw[du];exact dB.alloc dB.size _
 have dd:Hid (w2.heap[w1.heap.size]? =some (lq 0 0 (aL) n)):=by rw[du];exact df w1 _
 obtain⟨fb,eB⟩:∃fb,fb=w1.heap.size:=⟨_,rfl⟩;have fX:w.heap.size<=fb/\fb<w2.heap.size:=by rw[du,eB];exact⟨dB.size,aA⟩
 rw[<-eB]at dd |-;clear du dB eB e1
 go_upto_region 8 with fail
 go_cut [6]from 6 (fun hz bt=>∃tb aV N Q ab,hz=aj tb/\Hid (vH bt w.heap.size fb n aV N Q ab l)/\Hid (bt.heap[tb]? =some (wS aV (aL) N fb Q (aL) (aL) n))/\Hid (Below w.heap.size w bt)/\w.heap.size<=tb)
 case first=>
  have h3:=Ol n aa;have fw:∀(J:World) aV N Q ab,J.ownsRow w.heap.size 29 3 aV n (l.flatMap dw)->J.ownsRow w.heap.size 4 1 N n ((List.replicate n false).map Value.bool)->J.ownsRow w.heap.size 163 7 ab (aW n).length ((aW n).flatMap oM)->J.ownsRow w.heap.size 163 7 Q (aW n).length ((aW n).flatMap oM)->J.heap[fb]? =some (lq 1 0 ab n)->Below w.heap.size w J->
    vH (J.alloc (.cells #[aV,aL,N,aj fb,Q,aL,aL,ae n] 146)) w.heap.size fb n aV N Q ab l/\(J.alloc (.cells #[aV,aL,N,aj fb,Q,aL,aL,ae n] 146)).heap[J.heap.size]? =some (wS aV (aL) N fb Q (aL) (aL) n)/\Below w.heap.size w (J.alloc (.cells #[aV,aL,N,aj fb,Q,aL,aL,ae n] 146)):=fun J aV N Q ab B h2 ac bd bE cY=>
   ⟨(vH.mk B h2 ⟨bE,ac⟩ fX.1 bd).kept ((ay.refl (fun _=>False) J).alloc _) (fun k _ h=>h.elim),df J _,cY.alloc cY.size _⟩
  have d0:=ag fw;clear fw;refine au (fun W=>True) [1,4,7,10,11,12] [(0,false),(2,false),(3,false),(5,false),(6,false),(8,false),(9,false)] trivial 6 ?_;have cr:Below w.heap.size w w2.drew:=cF.o.drew;have eA:w2.drew.heap[fb]? =some (lq 0 0 (aL) n):=dd.o;have h8:w2.drew.heap.size=w2.heap.size:=rfl;refine iQ 1 4 rfl rfl (fun K f=>?_) (fun K f=>?_)
  .
   refine aZ wT rfl _ _ rfl (vals:=#[.slice a n c]) rfl (dX.o w2.drew cr) ?_;rintro e w3 ⟨aV,rfl,b5,br⟩;refine⟨_,rfl,f _ _ (fun _ _=>trivial) ?_⟩;clear f K;have cu:w3.heap[fb]? =some (lq 0 0 (aL) n):=(br.block fb aa).trans eA;have bp:Below w.heap.size w w3:=cr.trans (br.mono cr.size);have eL:=bJ b5 cr.size;have dL:=br.size;have dY:=ag cu;have bX:=ag bp;have ft:=ag eL;obtain⟨T,P,rfl⟩:=fF eL;clear b5 br cr eA cu bp eL;refine iQ 4 7 rfl rfl (fun K f=>?_) (fun K f=>?_)
   .go_simp;refine f _ _ (fun _ _=>trivial) ?_;clear f K;refine aH 7 rfl fun K f=>?_;have b3:(w3.alloc (.cells (madeCells #[.bool false] n) 4)).heap[fb]? =some (lq 0 0 (aL) n):=(bW _ _ _ aa).trans dY.o;refine aZ vI rfl _ _ rfl (vals:=#[aj fb]) rfl (gJ fb n aa _ b3) ?_;rintro e J ⟨ab,Q,rfl,jh,a6,bs,aO⟩;refine⟨_,rfl,f _ _ (fun _ _=>trivial) ?_⟩;clear f K;have bF:Below w.heap.size w (w3.alloc (.cells (madeCells #[.bool false] n) 4)):=bX.o.alloc bX.o.size _;have a0:Below w.heap.size w J:=bF.trans (aO.toBelow bF.size (fun k h=>aa));have F:=d0.o J _ (ax w3.heap.size n n) Q ab (I7 (az ft.o ((aJ _ _).alloc (aB _) _)) ai b3 aO) (I7 (yB w3 w.heap.size n bX.o.size aa) ai b3 aO) (bJ jh bF.size) (bJ a6 bF.size) bs a0;have a1:=ag F;have a8:=a0.size;obtain⟨aw,nc,rfl⟩:=fF a6;clear F jh a6 bs aO bF a0 b3;refine aI [10,11,12] ?_;go_wp2;go_meet;exact⟨_,_,_,_,_,rfl,a1.o.1,a1.o.2.1,a1.o.2.2,a8⟩
   .refine aZ vI rfl _ _ rfl (vals:=#[aj fb]) rfl (gJ fb n aa _ dY.o) ?_;rintro e J ⟨ab,Q,rfl,jh,a6,bs,aO⟩;refine⟨_,rfl,f _ _ (fun _ _=>trivial) ?_⟩;clear f K;have a0:Below w.heap.size w J:=bX.o.trans (aO.toBelow bX.o.size (fun k h=>aa));have ap:Below w.heap.size w (J.alloc (.cells (madeCells #[.bool false] n) 4)):=a0.alloc a0.size _;have be:Below J.heap.size J (J.alloc (.cells (madeCells #[.bool false] n) 4)):=(aJ _ _).alloc (aB _) _;have g3:=(aY.1 bs).1;have F:=d0.o (J.alloc (.cells (madeCells #[.bool false] n) 4)) _ (ax J.heap.size n n) Q ab (az (I7 ft.o ai dY.o aO) be) (yB J w.heap.size n a0.size aa) (az (bJ jh bX.o.size) be) (az (bJ a6 bX.o.size) be) ((bW _ _ _ g3).trans bs) ap;have gh:(J.alloc (.cells (madeCells #[.bool false] n) 4)).heap.size=J.heap.size+1:=aA;rw[gh]at F;have a1:=ag F;have a8:=ap.size;rw[gh]at a8;obtain⟨aw,nc,rfl⟩:=fF a6;clear F jh a6 bs aO a0 ap be;refine aI [4,10,11,12] ?_;go_wp2;go_meet;exact⟨_,_,_,_,_,rfl,a1.o.1,a1.o.2.1,a1.o.2.2,a8⟩
  .
   go_simp;refine f _ _ (fun _ _=>trivial) ?_;clear f K;refine aH 1 rfl fun K f=>?_;have bp:Below w.heap.size w (w2.alloc (.cells (madeCells #[.bool false] n) 4)).drew:=(cF.o.alloc cF.o.size _).drew;have cu:(w2.alloc (.cells (madeCells #[.bool false] n) 4)).drew.heap[fb]? =some (lq 0 0 (aL) n):=(bW w2 _ _ fX.2).trans dd.o;have eC:(w2.alloc (.cells (madeCells #[.bool false] n) 4)).drew.ownsRow w.heap.size 4 1 (ax w2.heap.size n n) n ((List.replicate n false).map Value.bool):=yB w2 w.heap.size n cF.o.size aa;have dL:fb<(w2.alloc (.cells (madeCells #[.bool false] n) 4)).drew.heap.size:=by
    show fb<(w2.alloc (.cells (madeCells #[.bool false] n) 4)).heap.size;simp;omega
   obtain⟨w3,en⟩:∃w3,w3=(w2.alloc (.cells (madeCells #[.bool false] n) 4)).drew:=⟨_,rfl⟩;rw[<-en]at bp cu eC dL;refine aZ wT rfl _ _ rfl (vals:=#[.slice a n c]) rfl (by rw[<-en];exact dX.o w3 bp) ?_;rintro e w4 ⟨aV,rfl,b5,br⟩;refine⟨_,rfl,f _ _ (fun _ _=>trivial) ?_⟩;clear f K;have b3:w4.heap[fb]? =some (lq 0 0 (aL) n):=(br.block fb dL).trans cu;have bF:Below w.heap.size w w4:=bp.trans (br.mono bp.size);have cw:=bJ b5 bp.size;have fZ:=az eC br;have dZ:=ag b3;have da:=ag bF;have gK:=ag cw;have gr:=ag fZ;obtain⟨T,P,rfl⟩:=fF cw;clear b5 br cr eA b3 bF cw cu bp eC fZ dL en;refine aH 7 rfl fun K f=>?_;refine aZ vI rfl _ _ rfl (vals:=#[aj fb]) rfl (gJ fb n aa _ dZ.o) ?_;rintro e J ⟨ab,Q,rfl,jh,a6,bs,aO⟩;refine⟨_,rfl,f _ _ (fun _ _=>trivial) ?_⟩;clear f K;have a0:Below w.heap.size w J:=da.o.trans (aO.toBelow da.o.size (fun k h=>aa));have F:=d0.o J _ (ax w2.heap.size n n) Q ab (I7 gK.o ai dZ.o aO) (I7 gr.o ai dZ.o aO) (bJ jh da.o.size) (bJ a6 da.o.size) bs a0;have a1:=ag F;have a8:=a0.size;obtain⟨aw,nc,rfl⟩:=fF a6;clear F jh a6 bs aO a0;refine aI [10,11,12] ?_;go_wp2;go_meet;exact⟨_,_,_,_,_,rfl,a1.o.1,a1.o.2.1,a1.o.2.2,a8⟩
 case rest=>
  obtain⟨tb,aV,N,Q,ab,rfl,ce,cN,d4,hk⟩:=hcut;clear cF dd dX;obtain⟨T,P,rfl⟩:=fF ce.o.row;have cy:=(aY.1 cN.o).1;have eP:(ids l).Nodup:=by unfold lF at hu;simpa using hu
  have e2:=ag (yA fh.o.symm aa ce.o.row eP);have O:=cN.o;have ck:wc.cell? (af tb 0)=some (.slice T n P):=aD O;clear O
  go_wp2_with fail
  refine e2.o.mono ?_;rintro e w4 ⟨rfl,cw,b4⟩;have fL:vH w4 w.heap.size fb n (.slice T n P) N Q ab (eQ l):=by
   have h:=ce.o;have hp:∀k,k<wc.heap.size->(Value.slice T n P).ownBlock=some k->∃cs t fr,wc.heap[k]? =some (.cells cs t fr)/\t=29:=fun k al ct=>by
    rcases h.row.2 with⟨x,-⟩|⟨g,cT,cU,x,-,aM,-⟩
    .rw[x]at ct;cases ct
    .rw[x]at ct;injection ct with ct;subst ct;exact⟨_,_,_,aM,rfl⟩
   refine⟨cw,oW h.Dr b4 fun k B h2=>?_,⟨bz b4 h.iF.blk fun h2=>?_,oW h.iF.row b4 fun k B h2=>?_⟩,h.Qb,oW h.jd b4 fun k B h2=>?_⟩
   .obtain⟨cs,t,fr,a,rfl⟩:=hp k B h2;exact⟨cs,_,fr,a,ai⟩
   .obtain⟨cs,t,fr,a,rfl⟩:=hp fb (aY.1 h.iF.blk).1 h2;have Y:=a.symm.trans h.iF.blk;injection Y with Y;injection Y with _ Y _;exact absurd Y ai
   .obtain⟨cs,t,fr,a,rfl⟩:=hp k B h2;exact⟨cs,_,fr,a,ai⟩
   .obtain⟨cs,t,fr,a,rfl⟩:=hp k B h2;exact⟨cs,_,fr,a,ai⟩
  have cg:Hid (w4.heap[tb]? =some (wS (.slice T n P) (aL) N fb Q (aL) (aL) n)):=bz b4 cN.o (fun h=>bg ce.o.row cN.o ai tb h rfl);have dc:Hid (Below w.heap.size w w4):=d4.o.trans (b4.toBelow d4.o.size (fun k h=>(ce.o.row.lt k h).1));have dj:=ag fL;have cq:(eQ l).length=n:=by rw[(dO l).length_eq];exact fh.o.symm
  have fR:(ids (eQ l)).Nodup:=((dO l).map _).nodup_iff.2 eP;have dk:Hid ((eQ l).Pairwise kH/\(ids (eQ l)).Nodup):=⟨fQ eP,fR⟩;have fj:Hid (HZ (eQ l)):=fun p hp=>gj p ((wC l p).1 hp);clear cw b4 fL ce cN d4 e2 fR ck cy;generalize fP:eQ l=R at*;have gC:Hid (eQ l=R):=fP;clear fP;have cy:=(aY.1 cg.o).1;have O:=cg.o;have ck:w4.cell? (af tb 0)=some (.slice T n P):=aD O;clear O
  go_wp2_with fail
  go_loopg [52] n (fun b7 hx wr=>∃(i:Nat) (eZ:Value),hx=.int .i64 i/\i<=n/\n-i<=b7/\Hid (wr.heap[tb]? =some (wS (.slice T n P) eZ N fb Q (aL) (aL) n))/\Hid (wr.ownsRow w4.heap.size 2 1 eZ i (((bS R).take i).map (Value.int .i64)))/\Hid (ay (fun k=>k=tb) w4 wr))
  case atStart=>exact⟨0,_,rfl,bH _,aa,cg,dA _ _ _ _,ay.refl _ _⟩
  case round=>
   obtain⟨i,eZ,rfl,hi,hV,bl,b0,cb⟩:=hrel;by_cases hR:i<n
   .have bh:=aU dj.o.row cb.o (fun g h h2=>bg dj.o.row cg.o ai g h h2.symm);obtain⟨_,_,bm,-,-,aT⟩:=bV.aG bf ai bh;injection bm with Z cl cm;subst Z;clear cl cm;obtain⟨b,off,cV,fV,aE⟩:=aT.get aa;have bj:=aE i aa 0 aa;have x1:=aE i aa 1 aa;have x2:=aE i aa 2 aa;simp only[dw,fG,dx,dH]at bj x1 x2;have gm:(bS R).take (i+1)=(bS R).take i++[R[i].1]:=by
     have h:i<(bS R).length:=by unfold bS;simp;omega
     rw[ig h];simp[bS]
    have fm:=ag gm;subst cV;clear aE aT gm bh;generalize R[i]=p at*;obtain⟨a9,ba,aC⟩:=p;simp only at fm bj x1 x2;have O:=bl.o;have c8:=(aY.1 O).1;obtain⟨am,an,rfl⟩:=fF b0.o
    go_upto_region 13 with fail
    obtain⟨w6,bo⟩:∃w6,w6=wr.alloc (.cells #[ae a9,ae ba,ak aC] 29):=⟨_,rfl⟩;have ap:Below wr.heap.size wr w6:=by rw[bo];exact(aJ _ _).alloc (aB _) _
    have cA:w6.heap[wr.heap.size]? =some (.cells #[ae a9,ae ba,ak aC] 29 (0,0)):=by rw[bo];exact df wr _
    have b6:=(ap.block tb c8).trans O;have hh:=cb.o.size;have hj:=ap.size;have eo:=ah (w:=w6) (ad:=(af tb 1)) (v:=.slice am i an) (aD b6);have ep:=ah (w:=w6) (ad:=(af wr.heap.size 0)) (v:=.int .i64 a9) (aD cA);have eg:=ag (az b0.o ap);have cI:Hid (ay (fun k=>k=tb) w4 w6):=cb.o.below ap;have cO:=ag b6;rw[<-bo];clear bo ap cA b6 O bj x1 x2;refine au (fun W=>∃p:aR w6,W=p.W) [8,9,10,11] [(0,false),(1,false),(2,false),(3,false),(4,true),(5,false),(6,true)] ⟨⟨_,(aJ _ _).drew⟩,rfl⟩ 5 ?_;refine aH 7 rfl fun K f=>?_;go_simp;refine f _ _ (fun _ _=>⟨⟨_,(aJ _ w6).alloc (aB _) _|>.drew⟩,rfl⟩) ?_;clear f K;refine aH 8 rfl fun K f=>?_;refine bC zG w4.heap.size (w:=(w6.alloc (.cells #[ae a9] 2)).drew) (az eg.o ((aJ _ w6).alloc (aB _) _|>.drew)) [.int .i64 a9] rfl (by simp[Value.oneCell']) rfl (.tmp 60) (.tmp 63) rfl rfl w6.heap.size rfl (kZ _ _) dI aa aF ?_;intro ar aq H eI f0 hL h0;refine f _ _ (fun _ h=>absurd aA h) ?_;clear f K;refine aI [9,10,11] ?_;have c5:w6.grownBy H (Value.slice am i an).ownBlock:=dP (bM ((aJ _ w6).alloc (aB _) _|>.drew)) f0;have bc:ay (fun k=>(Value.slice am i an).ownBlock=some k) w6 H:=(ay.refl _ w6).grown c5 (fun k al=>.inl al);have eT:∀g,(Value.slice am i an).ownBlock=some g->w4.heap.size<=g:=fun g h=>(eg.o.lt g h).1;have dM:=bz bc cO.o (fun h=>by have:=eT tb h;omega);have gp:H.cell? (af tb 1)=some (.slice am i an):=aD dM;have f8:H.frozen? (af tb 1)=false:=aD dM;have bb:Hid ((H.setCell (af tb 1) (ax ar (i+1) aq)).heap[tb]? =some (wS (.slice (some (af b off)) n P) (ax ar (i+1) aq) N fb Q (aL) (aL) n)):=dC H tb 1 _ _ _ dM;have cj:Hid ((H.setCell (af tb 1) (ax ar (i+1) aq)).ownsRow w4.heap.size 2 1 (ax ar (i+1) aq) (i+1) (((bS R).take (i+1)).map (Value.int .i64))):=by
     have Y:=aU (S:=fun k=>k=tb) eI ((ay.refl (fun k=>k=tb) H).set (a:=(af tb 1)) (ax ar (i+1) aq) (.inl rfl)) (fun g h h2=>by have:=(eI.lt g h).1;omega);show World.ownsRow _ _ _ _ _ _ _;rw[fm.o,bP];exact Y
    have gy:Hid (ay (fun k=>k=tb) w4 (H.setCell (af tb 1) (ax ar (i+1) aq))):=((cI.o.mono (S':=fun k=>k=tb\/w4.heap.size<=k) (fun k h=>.inl h)).trans (bc.mono (fun k h=>.inr (eT k h)))).strip.set (a:=(af tb 1)) _ (.inl rfl);clear bc c5 f0 eI dM eo ep eg cO cI eT;go_wp2
    go_roundg (n-(i+1))
    case measure=>omega
    case rel=>exact⟨i+1,_,by go_num,aa,aB _,bb,cj,gy⟩
   .obtain rfl:i=n:=aa;have fN:vH wr w.heap.size fb i (.slice T i P) N Q ab R:=dj.o.kept cb.o (fun k B h2=>by subst h2;exact⟨_,_,_,cg.o,ai,ai,ai,ai⟩);have er:Below w.heap.size w wr:=dc.o.trans (cb.o.toBelow dc.o.size (fun k h=>aa));have dy:=b0.o;rw[jJ (by unfold bS;simp;omega)]at dy;have b9:=ag er;have cf:=ag fN;have a8:=er.size;have fk:=ag (bJ dy dc.o.size);obtain⟨am,an,rfl⟩:=fF dy;clear er fN dy cb b0 dc dj cg ck cy;have cy:=(aY.1 bl.o).1;have ha:=@run_makeMap prog
    go_upto_region 16 with fail
    obtain⟨U,dK⟩:∃U,U=wr.heap.size:=⟨_,rfl⟩;obtain⟨bi,cW⟩:∃bi,bi=wr.alloc (.map #[] 0):=⟨_,rfl⟩;have c4:Below wr.heap.size wr bi:=by rw[cW];exact(aJ _ _).alloc (aB _) _
    have dh:Hid (∃D:DataW Unit,bi.ownsMap prog 27 (plainElem prog 3) U 0 D/\nL D R 0):=by rw[cW,dK];exact⟨.map [],xK _ _ _ _,[],IsM.empty _ _⟩
    have eO:=(c4.block tb cy).trans bl.o;have fi:=ag eO;have dm:Hid (vH bi w.heap.size fb i (.slice T i P) N Q ab R):=cf.o.kept ((ay.refl (fun _=>False) wr).below c4) (fun k _ h=>h.elim);have fo:=ag (az fk.o c4);have d7:Hid (Below w.heap.size w bi):=b9.o.trans (c4.mono a8);have h6:w.heap.size<=U/\U<bi.heap.size/\tb<U:=by rw[cW,dK];simp;omega
    have ck:bi.cell? (af tb 0)=some (.slice T i P):=aD eO;rw[<-cW,<-dK];clear cW dK c4 eO bl cf fk b9 a8 cy ha
    go_wp2_with fail
    go_loopg [74] i (fun b7 hy wr=>∃(j:Nat),hy=.int .i64 j/\j<=i/\i-j<=b7/\Hid (ay (fun k=>k=U) bi wr)/\Hid (∃D:DataW Unit,wr.ownsMap prog 27 (plainElem prog 3) U j D/\nL D R j))
    case atStart=>exact⟨0,rfl,bH _,aa,ay.refl _ _,dh.o⟩
    case round=>
     obtain⟨j,rfl,aN,hW,bw,dg⟩:=hrel;by_cases hT:j<i
     .have bh:=aU dm.o.row bw.o (fun g h h2=>by
       subst h2;obtain⟨em,ek,gc,-⟩:=dh.o.choose_spec.1;rcases dm.o.row.2 with⟨x,-⟩|⟨hI,cT,cU,x,-,aM,-⟩
       .rw[x]at h;cases h
       .rw[x]at h;injection h with h;subst h;rw[aM]at gc;cases gc)
      obtain⟨_,_,bm,-,-,aT⟩:=bV.aG bf ai bh;injection bm with Z cl cm;subst Z;clear cl cm;obtain⟨b,off,cV,fV,aE⟩:=aT.get aa;have bj:=aE j aa 0 aa;have x1:=aE j aa 1 aa;have x2:=aE j aa 2 aa;simp only[dw,fG,dx,dH]at bj x1 x2;have g6:j<R.length:=aa;have ga:Hid (keyOf prog 27 (.int .u32 R[j].2.2)=some (.int .u32 R[j].2.2)):=x8 underlying27 (fj.o _ (bG _));obtain⟨D,gf,fA⟩:=dg.o;have d8:=ag (fA.put g6);have h7:=bw.o.size;subst cV;clear aE aT bh fA dg;generalize R[j]=p at*;obtain⟨a9,ba,aC⟩:=p;simp only at d8 ga bj x1 x2;have ge:=gf.kept (qN wr (.cells #[ae a9,ae ba,ak aC] 29) none) aA
      go_wp2_with (at_mapUpdate;refine xD _ rfl _ _ _ 26 rfl 27 3 (int_keyed underlying27) underlying26 _ U j _ rfl ge dI _ _ _ rfl rfl ga.o _ [] (uY underlying3 (by simp[Lit.wf,IntKind.min,IntKind.max,IntKind.bits,IntKind.signed];omega)) ?_;intro w3 gg f3)
      have gx:Hid (ay (fun k=>k=U) bi w3):=((bw.o.alloc _).grown f3 (fun k h=>.inl (by injection h with h;exact h.symm)));have gz:Hid (∃D:DataW Unit,w3.ownsMap prog 27 (plainElem prog 3) U (j+1) D/\nL D R (j+1)):=⟨_,gg,d8.o⟩;clear gg f3 ge gf d8;go_wp2
      go_roundg (i-(j+1))
      case measure=>omega
      case rel=>exact⟨j+1,by go_num,aa,aB _,gx,gz⟩
     .obtain rfl:j=i:=aa;obtain⟨hB,⟨hH,hG,eF,-⟩,-⟩:=dh.o;have cf:=ag (dm.o.Ut bw.o eF);have b0:=ag (Oo fo.o bw.o eF);have bl:Hid (wr.heap[tb]? =_):=bz bw.o fi.o (fun h=>aa);have b9:Hid (Below w.heap.size w wr):=d7.o.trans (bw.o.toBelow d7.o.size (fun k h=>aa));obtain⟨D,eu,fK⟩:=dg.o;have fe:=ag eu;have gB:=ag fK;have a8:=b9.o.size;have he:U<wr.heap.size:=by
       obtain⟨em,ek,aM,-⟩:=eu;exact(aY.1 aM).1
      obtain⟨_,_,bm,-,-,aT⟩:=bV.aG bf ai cf.o.row;injection bm with Z cl cm;subst Z;clear cl cm;have e0:=ag (oP T R j P wr cq aT aa);have c8:=(aY.1 bl.o).1;have O:=bl.o;have ck:wr.cell? (af tb 0)=some (.slice T j P):=aD O;clear O aT eF eu fK dg dm fo fi d7 dh bw
      go_wp2_with fail
      refine e0.o.mono ?_;rintro e ii ⟨dT,rfl,dF,fU⟩;have e3:=ag (LQ cq aa dF dk.o.2);have e9:=ag dF;have d5:=ag fU;obtain⟨I,g2,rfl⟩:=fF dF;clear dF fU e0
      go_wp2_with fail
      refine e3.o.mono ?_;rintro e H ⟨rfl,f4,f7⟩;have bI:Below wr.heap.size wr H:=d5.o.trans (f7.toBelow d5.o.size (fun k h=>(e9.o.lt k h).1));have gv:=ag bI;have fa:=ag f4;have eb:Hid (vH H w.heap.size fb j (.slice T j P) N Q ab R):=cf.o.kept ((ay.refl (fun _=>False) wr).below bI) (fun k _ h=>h.elim);have fl:=ag (az b0.o bI);have ch:Hid (H.heap[tb]? =some (wS (.slice T j P) (.slice am j an) N fb Q (aL) (aL) j)):=(bI.block tb c8).trans bl.o;have ff:Hid (H.ownsMap prog 27 (plainElem prog 3) U j D):=wR fe.o (bI.block U he);have cG:Hid (Below w.heap.size w H):=b9.o.trans (bI.mono a8);have h9:=bI.size;obtain⟨aw,nc,rfl⟩:=fF eb.o.jd;have fJ:=cZ j;have h4:=Om (aW j).length aa;generalize gZ:(aW j).length=d at*;have gA:Hid (d=2*j-1):=fJ;have hJ:d<=40000:=aa;clear fJ;clear f7 bI f4 e3 cf b0 bl fe b9 e9 d5 gv ck;have O:=ch.o;have cz:tb<H.heap.size:=aa;have fu:H.cell? (af tb 4)=some (.slice aw d nc):=aD O;have be:Below H.heap.size H (H.alloc (.cells (madeCells #[aL,aL] (d*2)) 150)):=(aJ _ _).alloc (aB _) _;have gM:(H.alloc (.cells (madeCells #[aL,aL] (d*2)) 150)).cell? (af tb 5)=some (aL):=(be.cell (p:=(af tb 5)) cz).trans (aD O);have hA:(H.alloc (.cells (madeCells #[aL,aL] (d*2)) 150)).frozen? (af tb 5)=false:=(be.frozen (p:=(af tb 5)) cz).trans (aD O);have gi:=(be.block tb cz).trans O;have gw:=ag be;have gE:=ag gi;clear be gi O
      go_upto_region 24 with fail
      obtain⟨gl,dE⟩:∃gl,gl=H.heap.size:=⟨_,rfl⟩;obtain⟨u,co⟩:∃u,u=(H.setCell (af tb 5) (ax H.heap.size d d)).alloc (.cells (madeCells #[aL,aL] (d*2)) 150):=⟨_,rfl⟩;have b2:ay (fun k=>k=tb) H u:=by rw[co];exact((ay.refl (fun k=>k=tb) H).set (a:=(af tb 5)) _ (.inl rfl)).alloc _
      have fS:u.heap[tb]? =some (wS (.slice T j P) (.slice am j an) N fb (.slice aw d nc) (ax gl d d) (aL) j):=by rw[co,dE];exact(bW _ _ _ (aP cz)).trans (dC H tb 5 _ _ _ ch.o)
      have fE:cB u w.heap.size gl d d (fun _=>aL) (fun _=>aL):=by
       have h:=LW (H.setCell (af tb 5) (ax H.heap.size d d)) w.heap.size d (by simp;exact cG.o.size) aa;rw[co,dE];simpa using h
      have hM:gl<u.heap.size/\tb<gl/\w.heap.size<=gl:=by rw[co,dE];simp;exact⟨cz,cG.o.size⟩
      have fC:Else H (fun k=>k=tb):=fun k B h2=>by subst h2;exact⟨_,_,_,ch.o,ai,ai,ai,ai⟩
      have fO:vH u w.heap.size fb j (.slice T j P) N (.slice aw d nc) ab R:=eb.o.kept b2 fC;have ex:u.ownsRow w.heap.size 2 1 (.slice am j an) j ((bS R).map (Value.int .i64)):=oW fl.o b2 (fun k B h2=>by subst h2;exact⟨_,_,_,ch.o,ai⟩);have fD:u.ownsRow wr.heap.size 29 3 (.slice I j g2) j ((kD R).flatMap dw):=oW fa.o b2 (fun k B h2=>by subst h2;exact⟨_,_,_,ch.o,ai⟩);have fH:u.ownsMap prog 27 (plainElem prog 3) U j D:=wR ff.o (b2.block U aa aa);have fx:Below w.heap.size w u:=cG.o.trans (b2.toBelow cG.o.size (fun k h=>aa));have bb:=ag fS;have bZ:=ag fE;have ec:=ag fO;have cj:=ag ex;have de:=ag fD;have ea:=ag fH;have d6:=ag fx;have hc:=bb.o;have ia:=b2.size;have hf:U<u.heap.size:=aa;have gn:∀g,(Value.slice am j an).ownBlock=some g->g<u.heap.size:=fun g h=>(ex.lt g h).2;have gH:=ag gn;clear hc gn;rw[<-co];clear co dE b2 fS fE fC fO ex fD fH fx ch eb fl fa ff cG gw gE fu gM hA cz;obtain⟨b1,c2⟩:∃b1,b1=decide (0<j):=⟨_,rfl⟩;have hr:decide ((j:Int)>0)=b1:=by rw[c2];simp
      have hs:decide ((0:Int)<(j:Int))=b1:=by rw[c2];simp
      have ht:decide (0<j)=b1:=c2.symm;have e6:=ag c2;clear c2
      go_upto_if 102 with fail
      clear hr hs ht
      go_cut []from 12 (fun bt=>∃(yv:Value) (LN:Nat->Value),Hid (bt.heap[tb]? =some (wS (.slice T j P) (.slice am j an) N fb (.slice aw d nc) (ax gl d d) yv j))/\Hid (bt.ownsRow u.heap.size 2 1 yv j ((jl R (dQ R)).map (Value.int .i64)))/\Hid (cB bt w.heap.size gl d d LN (fun _=>aL))/\Hid (ay (fun k=>k=tb\/k=gl) u bt)/\
       Hid (∀k,k<d->k≠2*j-2->LN k=aL)/\Hid (0<j->bt.ownsRow u.heap.size 27 1 (LN (2*j-2)) j (((dQ R).map (jI R)).map (Value.int .u32))))
      case first=>
       by_cases f6:j=0
       .obtain rfl:b1=false:=by rw[e6.o];simp;omega
        have g0:R=[]:=gU aa;have hq:jl R (dQ R)=[]:=by subst g0;simp[jl,dQ,kD]
        have fc:=ag f6;clear f6;go_wp2;go_meet;refine⟨aL,fun _=>aL,bb.o,?_,bZ.o,ay.refl _ _,fun _ _ _=>rfl,fun h=>absurd fc.o aa⟩;show World.ownsRow _ _ _ _ _ _ _;rw[hq,fc.o];exact dA _ _ _ _
       .obtain rfl:b1=true:=by rw[e6.o];simp;omega
        have cp:2*j-2<d:=by have:=gA.o;omega
        obtain⟨A,eM⟩:∃A,A=2*j-2:=⟨_,rfl⟩;have ed:=ag eM;rw[<-eM]at cp;clear eM
        go_wp2_with fail
        go_loopg [105] j (fun b7 hv wr=>∃(i:Nat) (yv vr:Value),hv=.int .i64 i/\i<=j/\j-i<=b7/\Hid (wr.heap[tb]? =some (wS (.slice T j P) (.slice am j an) N fb (.slice aw d nc) (ax gl d d) yv j))/\Hid (wr.ownsRow u.heap.size 2 1 yv i (((jl R (dQ R)).take i).map (Value.int .i64)))/\
         Hid (cB wr w.heap.size gl d d (upd (fun _=>aL) A vr) (fun _=>aL))/\Hid (wr.ownsRow u.heap.size 27 1 vr i ((((dQ R).take i).map (jI R)).map (Value.int .u32)))/\Hid (ay (fun k=>k=tb\/k=gl) u wr))
        case atStart=>
         refine⟨0,aL,aL,rfl,bH _,aa,bb.o,dA _ _ _ _,?_,dA _ _ _ _,ay.refl _ _⟩;show cB _ _ _ _ _ _ _;rw[I6 _ A _ rfl];exact bZ.o
        case round=>
         obtain⟨i,yv,vr,rfl,hi,hX,ee,dr,d9,dp,cH⟩:=hrel;by_cases hQ:i<j
         .have bh:=aU de.o cH.o (fun g h h2=>by
           rcases h2 with h2|h2
           .exact bg de.o bb.o ai g h h2.symm
           .subst h2;exact bu bZ.o de.o ai g rfl h)
          obtain⟨_,_,bm,-,-,aT⟩:=bV.aG bf ai bh;injection bm with gO gP gQ;subst gO;clear gP gQ;have hK:(kD R).length=j:=by rw[(iY R).length_eq];exact cq
          obtain⟨b,off,cV,fV,aE⟩:=aT.get aa;have bj:=aE i aa 0 aa;have x1:=aE i aa 1 aa;have x2:=aE i aa 2 aa;simp only[dw,fG,dx,dH]at bj x1 x2;have eH:i<(dQ R).length:=by rw[jW];omega
          have eK:=QC eH;have go:(jl R (dQ R)).take (i+1)=(jl R (dQ R)).take i++[((kD R)[i]'aa).2.1]:=by
           have h:i<(jl R (dQ R)).length:=by unfold jl;simp;exact eH
           rw[ig h];simp only[jl,fM,lG,eK]
          have gd:((dQ R).take (i+1)).map (jI R)=((dQ R).take i).map (jI R)++[((kD R)[i]'aa).2.2]:=by
           rw[ig eH,bP];simp only[lX,pV,jI,eK]
          have fp:=ag go;have di:=ag gd;subst cV;clear aE aT go gd bh eK;generalize(kD R)[i]'aa=p at*;obtain⟨a9,ba,aC⟩:=p;simp only at fp di bj x1 x2;have O:=ee.o;have c8:=(aY.1 O).1;obtain⟨cC,cD,rfl⟩:=fF dr.o;obtain⟨C,E,rfl⟩:=fF dp.o
          go_upto_region 28 with fail
          obtain⟨bv,eU⟩:∃bv,bv=wr.heap.size:=⟨_,rfl⟩;obtain⟨w6,bo⟩:∃w6,w6=wr.alloc (.cells #[ae a9,ae ba,ak aC] 29):=⟨_,rfl⟩;have ap:Below wr.heap.size wr w6:=by rw[bo];exact(aJ _ _).alloc (aB _) _
          have cA:w6.heap[bv]? =some (.cells #[ae a9,ae ba,ak aC] 29 (0,0)):=by rw[bo,eU];exact df wr _
          have b6:=(ap.block tb c8).trans O;have hh:=cH.o.size;have hj:=ap.size;have ie:u.heap.size<=bv:=aa;have eo:=ah (w:=w6) (ad:=(af tb 6)) (v:=.slice cC i cD) (aD b6);have ep:=ah (w:=w6) (ad:=(af bv 1)) (v:=.int .i64 ba) (aD cA);have cR:=ag (az dr.o ap);have dq:=ag (az dp.o ap);have fd:Hid (cB w6 w.heap.size gl d d (upd (fun _=>aL) A (.slice C i E)) (fun _=>aL)):=az d9.o ap;have cI:Hid (ay (fun k=>k=tb\/k=gl) u w6):=cH.o.below ap;have cO:=ag b6;have eh:=ag cA;rw[<-bo,<-eU];clear bo ap cA b6 O bj x1 x2 eU dr dp d9 cH ee;refine au (fun W=>∃p:aR w6,W=p.W) [8,9,10,11] [(0,false),(1,false),(2,false),(3,false),(4,true),(5,false),(6,true)] ⟨⟨_,(aJ _ _).drew⟩,rfl⟩ 5 ?_;refine aH 7 rfl fun K f=>?_;go_simp;refine f _ _ (fun _ _=>⟨⟨_,(aJ _ w6).alloc (aB _) _|>.drew⟩,rfl⟩) ?_;clear f K;refine aH 8 rfl fun K f=>?_;refine bC zG u.heap.size (w:=(w6.alloc (.cells #[ae ba] 2)).drew) (az cR.o ((aJ _ w6).alloc (aB _) _|>.drew)) [.int .i64 ba] rfl (by simp[Value.oneCell']) rfl (.tmp 113) (.tmp 116) rfl rfl w6.heap.size rfl (kZ _ _) dI aa aF ?_;intro ar aq bT eJ f1 g1 g8;refine f _ _ (fun _ h=>absurd aA h) ?_;clear f K;refine aI [9,10,11] ?_;have c5:w6.grownBy bT (Value.slice cC i cD).ownBlock:=dP (bM ((aJ _ w6).alloc (aB _) _|>.drew)) f1;have bc:ay (fun k=>(Value.slice cC i cD).ownBlock=some k) w6 bT:=(ay.refl _ w6).grown c5 (fun k al=>.inl al);have dV:∀g,(Value.slice cC i cD).ownBlock=some g->u.heap.size<=g:=fun g h=>(cR.o.lt g h).1;have dR:=bz bc cO.o (fun h=>by have:=dV tb h;omega);have gp:bT.cell? (af tb 6)=some (.slice cC i cD):=aD dR;have f8:bT.frozen? (af tb 6)=false:=aD dR;obtain⟨y,dv⟩:∃y,y=bT.setCell (af tb 6) (ax ar (i+1) aq):=⟨_,rfl⟩;have cx:ay (fun k=>k=tb) bT y:=by rw[dv];exact(ay.refl (fun k=>k=tb) bT).set (a:=(af tb 6)) _ (.inl rfl)
          have eN:y.heap[tb]? =some (wS (.slice T j P) (.slice am j an) N fb (.slice aw d nc) (ax gl d d) (ax ar (i+1) aq) j):=by rw[dv];exact dC bT tb 6 _ _ _ dR
          have aX:Hid (y.ownsRow u.heap.size 2 1 (ax ar (i+1) aq) (i+1) (((jl R (dQ R)).take (i+1)).map (Value.int .i64))):=by
           have Y:=aU (S:=fun k=>k=tb) eJ cx (fun g h h2=>by have:=(eJ.lt g h).1;omega);show World.ownsRow _ _ _ _ _ _ _;rw[fp.o,bP];exact Y
          have fT:y.ownsRow u.heap.size 27 1 (.slice C i E) i ((((dQ R).take i).map (jI R)).map (Value.int .u32)):=aU (S:=fun k=>k=tb) (aU (S:=fun k=>(Value.slice cC i cD).ownBlock=some k) dq.o bc (fun g h h2=>bu dq.o cR.o ai g h h2)) cx (fun g h h2=>by have:=(dq.o.lt g h).1;omega);have c0:cB y w.heap.size gl d d (upd (fun _=>aL) A (.slice C i E)) (fun _=>aL):=(cB.kept fd.o bc (fun h=>by have:=dV gl h;omega)).kept cx aa;have bx:Hid (ay (fun k=>k=tb\/k=gl) u y):=(((cI.o.mono (S':=fun k=>(k=tb\/k=gl)\/u.heap.size<=k) (fun k h=>.inl h)).trans (bc.mono (fun k h=>.inr (dV k h)))).strip).trans (cx.mono (fun k h=>.inl h));have dU:y.heap[bv]? =some (.cells #[ae a9,ae ba,ak aC] 29 (0,0)):=bz cx (bz bc eh.o (fun h=>bg cR.o eh.o ai bv h rfl)) aa;have a4:=ag fT;have cc:=ag c0;have ci:=ag eN;have ib:=bx.o.size;clear bc c5 f1 eJ dR eo ep cR cO cI dV dq fd eh cx fT g1 g8
          go_upto_region 29 with fail
          rw[<-dv];clear dv gp f8;have av:∀g,(Value.slice C i E).ownBlock=some g->u.heap.size<=g:=fun g h=>(a4.o.lt g h).1;have dW:∀{bk o:Nat} {v:Value},bk<y.heap.size->¬(Value.slice C i E).ownBlock=some bk->y.cell? (af bk o)=some v->∀p:wD (fun k=>(Value.slice C i E).ownBlock=some k) y,p.W.cell? (af bk o)=some v:=fun c1 hd dT p=>((bY p.h c1 hd).1 _).trans dT;have eV:=dW (bk:=tb) (o:=5) (v:=ax gl d d) aa (fun h=>by have:=av tb h;omega) (aD eN);have eW:=dW (bk:=bv) (o:=2) (v:=.int .u32 aC) (aY.1 dU).1 (fun h=>bg a4.o dU ai bv h rfl) (aD dU);have eX:=dW (bk:=gl) (o:=A*2) (v:=.slice C i E) aa (fun h=>by have:=av gl h;omega) ((c0.get cp).1.trans (by rw[upd_same]));have b8:=(c0.get cp).1;rw[upd_same]at b8;have f9:=c0.frozenAt (A*2);have eD:gl<y.heap.size:=aa;have cE:Hid (∀W,ay (fun k=>(Value.slice C i E).ownBlock=some k) y W->aK 95 #[aj fb] W fun e w'=>e=.returned (ae (A:Nat))/\w'=W):=fun W c1=>by
           have dD:=ec.o.iF.blk;have fY:=(aY.1 dD).1;have g4:=bz bx.o dD (fun h=>by
            rcases h with h|h
            .subst h;have Y:=dD.symm.trans bb.o;injection Y with Y;injection Y with _ Y _;exact absurd Y ai
            .subst h;exact bg bZ.o dD ai fb rfl rfl)
           have fW:=bz c1 g4 (fun h=>by have:=av fb h;omega);have h:=jw fb j aa aa W (aD fW) (aD fW);rw[<-ed.o]at h;exact h
          clear eN dU c0 dW;refine au (fun W=>∃p:wD (fun k=>(Value.slice C i E).ownBlock=some k) y,W=p.W) [19,20,21] [(0,false),(1,false),(2,false),(3,true),(4,false),(6,false),(7,false),(8,false),(9,true),(10,false),(15,false),(16,true)] ⟨⟨_,(ay.refl _ _).drew⟩,rfl⟩ 10 ?_;refine iQ 5 17 rfl rfl (fun K f=>?_) (fun K f=>?_)
          .
           refine aZ mi rfl _ _ rfl (vals:=#[aj fb]) rfl (cE.o _ ((ay.refl (fun k=>(Value.slice C i E).ownBlock=some k) y).drew)) ?_;rintro e w' ⟨rfl,bn⟩;subst bn;refine⟨_,rfl,f _ _ (fun h _=>h) ?_⟩;clear f K;refine iQ 11 17 rfl rfl (fun K f=>?_) (fun K f=>?_)
           .refine aZ mi rfl _ _ rfl (vals:=#[aj fb]) rfl (cE.o _ ((ay.refl (fun k=>(Value.slice C i E).ownBlock=some k) y).drew)) ?_;rintro e w' ⟨rfl,bn⟩;subst bn;refine⟨_,rfl,f _ _ (fun h _=>h) ?_⟩;clear f K;refine bq [(12,false),(13,false),(14,true)] ⟨⟨_,((ay.refl (fun k=>(Value.slice C i E).ownBlock=some k) y).drew)⟩,rfl⟩ rfl ?_;refine aH 17 rfl fun K f=>?_;go_simp;refine f _ _ (fun _ _=>⟨⟨_,(((ay.refl (fun k=>(Value.slice C i E).ownBlock=some k) y).alloc _).drew)⟩,rfl⟩) ?_;clear f K;refine aH 18 rfl fun K f=>?_;refine bC uj u.heap.size (w:=(y.alloc (.cells #[ak aC] 27)).drew) (az a4.o ((aJ _ y).alloc (aB _) _|>.drew)) [.int .u32 aC] rfl (by simp[Value.oneCell']) rfl (.tmp 134) (.tmp 137) rfl rfl y.heap.size rfl (kZ _ _) dI aa aF ?_;intro M L G a7 bN c3 c7;have bL:y.grownBy G (Value.slice C i E).ownBlock:=dP (bM ((aJ _ y).alloc (aB _) _|>.drew)) bN;have X:ay (fun k=>(Value.slice C i E).ownBlock=some k) y G:=(ay.refl _ y).grown bL (fun k al=>.inl al);refine f _ _ (fun _ _=>⟨⟨_,X⟩,rfl⟩) ?_;clear f K;refine aI [19,20,21] ?_;have bO:¬(Value.slice C i E).ownBlock=some gl:=fun h=>by have:=av gl h;omega
            obtain⟨bA,bB⟩:=bY X eD bO;have gq:=(bA (A*2)).trans b8;have fv:=(bB (A*2)).trans f9;have ao:ay (fun k=>k=gl) G (G.setCell (af gl (A*2)) (ax M (i+1) L)):=(ay.refl (fun k=>k=gl) G).set (a:=(af gl (A*2))) _ (.inl rfl);have cP:Hid ((G.setCell (af gl (A*2)) (ax M (i+1) L)).heap[tb]? =some (wS (.slice T j P) (.slice am j an) N fb (.slice aw d nc) (ax gl d d) (ax ar (i+1) aq) j)):=bz ao (bz X ci.o (fun h=>by have:=av tb h;omega)) aa;have cS:Hid ((G.setCell (af gl (A*2)) (ax M (i+1) L)).ownsRow u.heap.size 2 1 (ax ar (i+1) aq) (i+1) (((jl R (dQ R)).take (i+1)).map (Value.int .i64))):=aU (S:=fun k=>k=gl) (aU (S:=fun k=>(Value.slice C i E).ownBlock=some k) aX.o X (fun g h h2=>bu a4.o aX.o ai g h2 h)) ao (fun g h h2=>by have:=(aX.o.lt g h).1;omega);have cM:Hid (cB (G.setCell (af gl (A*2)) (ax M (i+1) L)) w.heap.size gl d d (upd (fun _=>aL) A (ax M (i+1) L)) (fun _=>aL)):=by
             have h:=(cB.kept cc.o X bO).A7 cp (ax M (i+1) L);rwa [tq]at h
            have cQ:Hid ((G.setCell (af gl (A*2)) (ax M (i+1) L)).ownsRow u.heap.size 27 1 (ax M (i+1) L) (i+1) ((((dQ R).take (i+1)).map (jI R)).map (Value.int .u32))):=by
             have h:=aU (S:=fun k=>k=gl) a7 ao (fun g h h2=>by have:=(a7.lt g h).1;omega);show World.ownsRow _ _ _ _ _ _ _;rw[di.o,bP];exact h
            have cJ:Hid (ay (fun k=>k=tb\/k=gl) u (G.setCell (af gl (A*2)) (ax M (i+1) L))):=(((bx.o.mono (S':=fun k=>(k=tb\/k=gl)\/u.heap.size<=k) (fun k h=>.inl h)).trans (X.mono (fun k h=>.inr (av k h)))).strip).trans (ao.mono (fun k h=>.inr h));clear bA bB X ao bL bN a7 eV eW eX b8 f9 a4 cc ci aX bx av c3 c7;go_wp2
            go_roundg (j-(i+1))
            case measure=>omega
            case rel=>exact⟨i+1,_,_,by go_num,aa,aB _,cP,cS,cM,cQ,cJ⟩
           .go_simp;refine f _ _ (fun _ _=>⟨⟨_,(((ay.refl (fun k=>(Value.slice C i E).ownBlock=some k) y).alloc _).drew)⟩,rfl⟩) ?_;clear f K;refine aH 11 rfl fun K f=>?_;refine aZ mi rfl _ _ rfl (vals:=#[aj fb]) rfl (cE.o _ (((ay.refl (fun k=>(Value.slice C i E).ownBlock=some k) y).alloc _).drew)) ?_;rintro e w' ⟨rfl,bn⟩;subst bn;refine⟨_,rfl,f _ _ (fun h _=>h) ?_⟩;clear f K;refine bq [(12,false),(13,false),(14,true)] ⟨⟨_,(((ay.refl (fun k=>(Value.slice C i E).ownBlock=some k) y).alloc _).drew)⟩,rfl⟩ rfl ?_;refine aH 18 rfl fun K f=>?_;refine bC uj u.heap.size (w:=(y.alloc (.cells #[ak aC] 27)).drew) (az a4.o ((aJ _ y).alloc (aB _) _|>.drew)) [.int .u32 aC] rfl (by simp[Value.oneCell']) rfl (.tmp 134) (.tmp 137) rfl rfl y.heap.size rfl (kZ _ _) dI aa aF ?_;intro M L G a7 bN c3 c7;have bL:y.grownBy G (Value.slice C i E).ownBlock:=dP (bM ((aJ _ y).alloc (aB _) _|>.drew)) bN;have X:ay (fun k=>(Value.slice C i E).ownBlock=some k) y G:=(ay.refl _ y).grown bL (fun k al=>.inl al);refine f _ _ (fun _ _=>⟨⟨_,X⟩,rfl⟩) ?_;clear f K;refine aI [19,20,21] ?_;have bO:¬(Value.slice C i E).ownBlock=some gl:=fun h=>by have:=av gl h;omega
            obtain⟨bA,bB⟩:=bY X eD bO;have gq:=(bA (A*2)).trans b8;have fv:=(bB (A*2)).trans f9;have ao:ay (fun k=>k=gl) G (G.setCell (af gl (A*2)) (ax M (i+1) L)):=(ay.refl (fun k=>k=gl) G).set (a:=(af gl (A*2))) _ (.inl rfl);have cP:Hid ((G.setCell (af gl (A*2)) (ax M (i+1) L)).heap[tb]? =some (wS (.slice T j P) (.slice am j an) N fb (.slice aw d nc) (ax gl d d) (ax ar (i+1) aq) j)):=bz ao (bz X ci.o (fun h=>by have:=av tb h;omega)) aa;have cS:Hid ((G.setCell (af gl (A*2)) (ax M (i+1) L)).ownsRow u.heap.size 2 1 (ax ar (i+1) aq) (i+1) (((jl R (dQ R)).take (i+1)).map (Value.int .i64))):=aU (S:=fun k=>k=gl) (aU (S:=fun k=>(Value.slice C i E).ownBlock=some k) aX.o X (fun g h h2=>bu a4.o aX.o ai g h2 h)) ao (fun g h h2=>by have:=(aX.o.lt g h).1;omega);have cM:Hid (cB (G.setCell (af gl (A*2)) (ax M (i+1) L)) w.heap.size gl d d (upd (fun _=>aL) A (ax M (i+1) L)) (fun _=>aL)):=by
             have h:=(cB.kept cc.o X bO).A7 cp (ax M (i+1) L);rwa [tq]at h
            have cQ:Hid ((G.setCell (af gl (A*2)) (ax M (i+1) L)).ownsRow u.heap.size 27 1 (ax M (i+1) L) (i+1) ((((dQ R).take (i+1)).map (jI R)).map (Value.int .u32))):=by
             have h:=aU (S:=fun k=>k=gl) a7 ao (fun g h h2=>by have:=(a7.lt g h).1;omega);show World.ownsRow _ _ _ _ _ _ _;rw[di.o,bP];exact h
            have cJ:Hid (ay (fun k=>k=tb\/k=gl) u (G.setCell (af gl (A*2)) (ax M (i+1) L))):=(((bx.o.mono (S':=fun k=>(k=tb\/k=gl)\/u.heap.size<=k) (fun k h=>.inl h)).trans (X.mono (fun k h=>.inr (av k h)))).strip).trans (ao.mono (fun k h=>.inr h));clear bA bB X ao bL bN a7 eV eW eX b8 f9 a4 cc ci aX bx av c3 c7;go_wp2
            go_roundg (j-(i+1))
            case measure=>omega
            case rel=>exact⟨i+1,_,_,by go_num,aa,aB _,cP,cS,cM,cQ,cJ⟩
          .go_simp;refine f _ _ (fun _ _=>⟨⟨_,(((ay.refl (fun k=>(Value.slice C i E).ownBlock=some k) y).alloc _).drew)⟩,rfl⟩) ?_;clear f K;refine aH 5 rfl fun K f=>?_;refine aZ mi rfl _ _ rfl (vals:=#[aj fb]) rfl (cE.o _ (((ay.refl (fun k=>(Value.slice C i E).ownBlock=some k) y).alloc _).drew)) ?_;rintro e w' ⟨rfl,bn⟩;subst bn;refine⟨_,rfl,f _ _ (fun h _=>h) ?_⟩;clear f K;refine aH 11 rfl fun K f=>?_;refine aZ mi rfl _ _ rfl (vals:=#[aj fb]) rfl (cE.o _ (((ay.refl (fun k=>(Value.slice C i E).ownBlock=some k) y).alloc _).drew)) ?_;rintro e w' ⟨rfl,bn⟩;subst bn;refine⟨_,rfl,f _ _ (fun h _=>h) ?_⟩;clear f K;refine bq [(12,false),(13,false),(14,true)] ⟨⟨_,(((ay.refl (fun k=>(Value.slice C i E).ownBlock=some k) y).alloc _).drew)⟩,rfl⟩ rfl ?_;refine aH 18 rfl fun K f=>?_;refine bC uj u.heap.size (w:=(y.alloc (.cells #[ak aC] 27)).drew) (az a4.o ((aJ _ y).alloc (aB _) _|>.drew)) [.int .u32 aC] rfl (by simp[Value.oneCell']) rfl (.tmp 134) (.tmp 137) rfl rfl y.heap.size rfl (kZ _ _) dI aa aF ?_;intro M L G a7 bN c3 c7;have bL:y.grownBy G (Value.slice C i E).ownBlock:=dP (bM ((aJ _ y).alloc (aB _) _|>.drew)) bN;have X:ay (fun k=>(Value.slice C i E).ownBlock=some k) y G:=(ay.refl _ y).grown bL (fun k al=>.inl al);refine f _ _ (fun _ _=>⟨⟨_,X⟩,rfl⟩) ?_;clear f K;refine aI [19,20,21] ?_;have bO:¬(Value.slice C i E).ownBlock=some gl:=fun h=>by have:=av gl h;omega
           obtain⟨bA,bB⟩:=bY X eD bO;have gq:=(bA (A*2)).trans b8;have fv:=(bB (A*2)).trans f9;have ao:ay (fun k=>k=gl) G (G.setCell (af gl (A*2)) (ax M (i+1) L)):=(ay.refl (fun k=>k=gl) G).set (a:=(af gl (A*2))) _ (.inl rfl);have cP:Hid ((G.setCell (af gl (A*2)) (ax M (i+1) L)).heap[tb]? =some (wS (.slice T j P) (.slice am j an) N fb (.slice aw d nc) (ax gl d d) (ax ar (i+1) aq) j)):=bz ao (bz X ci.o (fun h=>by have:=av tb h;omega)) aa;have cS:Hid ((G.setCell (af gl (A*2)) (ax M (i+1) L)).ownsRow u.heap.size 2 1 (ax ar (i+1) aq) (i+1) (((jl R (dQ R)).take (i+1)).map (Value.int .i64))):=aU (S:=fun k=>k=gl) (aU (S:=fun k=>(Value.slice C i E).ownBlock=some k) aX.o X (fun g h h2=>bu a4.o aX.o ai g h2 h)) ao (fun g h h2=>by have:=(aX.o.lt g h).1;omega);have cM:Hid (cB (G.setCell (af gl (A*2)) (ax M (i+1) L)) w.heap.size gl d d (upd (fun _=>aL) A (ax M (i+1) L)) (fun _=>aL)):=by
            have h:=(cB.kept cc.o X bO).A7 cp (ax M (i+1) L);rwa [tq]at h
           have cQ:Hid ((G.setCell (af gl (A*2)) (ax M (i+1) L)).ownsRow u.heap.size 27 1 (ax M (i+1) L) (i+1) ((((dQ R).take (i+1)).map (jI R)).map (Value.int .u32))):=by
            have h:=aU (S:=fun k=>k=gl) a7 ao (fun g h h2=>by have:=(a7.lt g h).1;omega);show World.ownsRow _ _ _ _ _ _ _;rw[di.o,bP];exact h
           have cJ:Hid (ay (fun k=>k=tb\/k=gl) u (G.setCell (af gl (A*2)) (ax M (i+1) L))):=(((bx.o.mono (S':=fun k=>(k=tb\/k=gl)\/u.heap.size<=k) (fun k h=>.inl h)).trans (X.mono (fun k h=>.inr (av k h)))).strip).trans (ao.mono (fun k h=>.inr h));clear bA bB X ao bL bN a7 eV eW eX b8 f9 a4 cc ci aX bx av c3 c7;go_wp2
           go_roundg (j-(i+1))
           case measure=>omega
           case rel=>exact⟨i+1,_,_,by go_num,aa,aB _,cP,cS,cM,cQ,cJ⟩
         .obtain rfl:i=j:=aa;have cv:=jW R;have ho:(jl R (dQ R)).length=i:=by simp[jl,cv];omega
          have gI:Hid (wr.ownsRow u.heap.size 2 1 yv i ((jl R (dQ R)).map (Value.int .i64))):=by
           have h:=dr.o;rw[jJ aa]at h;exact h
          have gF:Hid (wr.ownsRow u.heap.size 27 1 vr i (((dQ R).map (jI R)).map (Value.int .u32))):=by
           have h:=dp.o;rw[jJ aa]at h;exact h
          clear cv ho;go_wp2;go_meet;refine⟨yv,upd (fun _=>aL) A vr,ee.o,gI.o,d9.o,cH.o,?_,?_⟩
          .intro k al h5;exact upd_ne (by have:=ed.o;omega)
          .intro _;show World.ownsRow _ _ _ _ _ _ _;rw[<-ed.o,upd_same];exact gF.o
      case rest=>
       obtain⟨yv,fs,dn,fq,cd,cK,ca,ef⟩:=hcut;have eR:=qB dk.o.1 dk.o.2;have gG:=ag eR;have ic:=cK.o.size;have fB:Else u (fun k=>k=tb\/k=gl):=fun k B h2=>by
        rcases h2 with h2|h2
        .subst h2;exact⟨_,_,_,bb.o,ai,ai,ai,ai⟩
        .subst h2;rcases bZ.o.2 with⟨x,-⟩|⟨g,cT,cU,x,-,aM,-⟩
         .cases x
         .injection x with x;injection x with x;injection x with x;subst x;exact⟨_,_,_,aM,ai,ai,ai,ai⟩
       have dl:=ag (ec.o.kept cK.o fB);have fn:Hid (wc.ownsRow w.heap.size 2 1 (.slice am j an) j ((bS R).map (Value.int .i64))):=aU cj.o cK.o (fun g h h2=>by
        rcases h2 with h2|h2
        .exact bg cj.o bb.o ai g h h2.symm
        .subst h2;exact bu bZ.o cj.o ai g rfl h)
       have fg:Hid (wc.ownsMap prog 27 (plainElem prog 3) U j D):=wR ea.o (cK.o.block U hf (fun h=>by
        obtain⟨em,ek,aM,-⟩:=ea.o;rcases h with h|h
        .subst h;have Y:=aM.symm.trans bb.o;cases Y
        .subst h;rcases bZ.o.2 with⟨x,-⟩|⟨g,cT,cU,x,-,c6,-⟩
         .cases x
         .injection x with x;injection x with x;injection x with x;subst x;rw[aM]at c6;cases c6))
       have e7:Hid (Below w.heap.size w wc):=d6.o.trans (cK.o.toBelow d6.o.size (fun k h=>by rcases h with h|h<;>omega));have gD:Hid (yC wc u.heap.size j R (dQ R) d fs (fun _=>aL)):=by
        have hg:∀t s,FT.At (aW j) t s->t.root s=2*j-2->nl (dQ R) t=dQ R:=fun t s I b5=>by
         have aN:=kV I;obtain⟨rfl,rfl⟩:=FT.At.unique I (jU j aN) (by rw[lu aN,b5]);have h:=eR.top aa;rwa [cq]at h
        refine⟨fun t s I h2=>?_,fun l r q I h2=>?_,fun l r q I h2=>?_,fun k B h2=>?_,fun k B=>rfl,fun k B g h2=>?_,fun i k B h2 ac g bd bE=>?_,fun i k B h2 ac g bd bE=>by cases bd⟩
        .rcases h2 with h2|⟨l,r,q,ac,bd,bE⟩
         .rw[h2,hg t s I h2];have:=ef.o (kV I);rw[jW,cq];exact this
         .have:=ac.lt;omega
        .have aN:=kV I;have B:=FT.zf (fI aN▸I);rw[lu aN]at B;have ac:=I.left.lt;have bd:=I.right.lt;exact⟨ca.o _ aa B.1,ca.o _ aa B.2⟩
        .have:=I.lt;omega
        .omega
        .by_cases e:k=2*j-2
         .have aN:0<j:=by rw[cZ]at B;omega
          subst e;exact(ef.o aN).lt g h2
         .rw[ca.o k aa e]at h2;cases h2
        .by_cases e:i=2*j-2
         .rw[ca.o k aa aa]at bE;cases bE
         .rw[ca.o i aa e]at bd;cases bd
       have O:=dn.o;have fu:wc.cell? (af tb 4)=some (.slice aw d nc):=aD O;clear O eR fB ec cj ea d6 de ca ef
       go_wp2_with fail
       go_loopg [15] d (fun b7 hw wr=>∃(m:Nat) (z:Int) (LN LL:Nat->Value),hw=.int .i64 z/\z+1=(m:Int)/\m<=d/\m<=b7/\Hid (cB wr w.heap.size gl d d LN LL)/\Hid (ay (fun k=>k=gl) wc wr)/\Hid (yC wr u.heap.size j R (dQ R) m LN LL))
       case atStart=>exact⟨d,_,fs,_,rfl,aa,aB _,aB _,cd,ay.refl _ _,gD⟩
       case round=>
        obtain⟨m,z,LN,LL,rfl,ih,gb,hY,cL,a2,a3⟩:=hrel;have bQ:(aW j).length=d:=gZ;by_cases h1:0<m
        .obtain⟨k,rfl⟩:∃k,m=k+1:=⟨m-1,aa⟩;obtain rfl:z=(k:Int):=aa;obtain⟨t,s,I,c9⟩:=tH (j:=j) (k:=k) aa;have aN:=kV I;obtain⟨cX,cn,x,-,hN,-⟩:=aQ dl.o.jd aa;injection x with gR gS gT;subst gR;have O:=dn.o;have dS:tb≠gl:=aa;have ev:=bz a2.o dn.o (fun h=>dS h);have ei:wr.cell? (af tb 4)=some (ax cX (aW j).length nc):=by rw[bQ];simp[World.cell?,ev]
         have ej:wr.cell? (af tb 5)=some (ax gl (aW j).length d):=by rw[bQ];simp[World.cell?,ev]
         have f2:cX≠gl:=fun h=>bu cd.o dl.o.jd ai gl rfl (by rw[<-h];rfl);have eG:bV oM 7 wr (some (af cX 0)) (aW j):=by
          have bh:=aU dl.o.jd a2.o (fun g h h2=>by have Y:=NU h;omega);obtain⟨_,_,bm,-,-,Y⟩:=bV.aG jq ai bh;injection bm with Z cl cm;rw[<-Z]at Y;exact Y
         have fy:u.heap.size<=wr.heap.size:=by have:=a2.o.size;omega
         have es:cB wr w.heap.size gl (aW j).length d LN LL:=by rw[bQ];exact cL.o
         have e4:aK 96 #[aj tb,ae k,.map (some U)] wr fun e w'=>e=.returned (.tuple #[])/\∃dt ds,cB w' w.heap.size gl d d dt ds/\ay (fun k=>k=gl) wr w'/\yC w' u.heap.size j R (dQ R) k dt ds:=by
          cases t with
          |leaf a=>
           refine(yz a s tb cX 0 nc gl d w.heap.size k U (aW j) LN LL wr I c9 aa ei eG ej es).mono ?_;rintro e w' ⟨rfl,vf,hm,B,h2,ac⟩;rw[bQ]at B;exact⟨rfl,LN,_,B,ac,a3.o.leaf cL.o I c9 ac fy hm h2⟩
          |node l r=>
           have ez:=a3.o.cur I aa;rw[c9]at ez;obtain⟨gL,gN,el,-,-,aT⟩:=Rd.aG ez;rw[bR]at el;have hU:=FT.wJ l r s;obtain⟨gW,gX⟩:=a3.o.emp l r s I aa;have hn:∀p,p∈(dN 0 j).subs 0->p.1.wf:=fun p hp=>FT.qx _ _ (bK 0 j aN).1 p hp;have eS:=hn _ (FT.at_mem (fI aN▸I));have eE:∀i,i∈nl (dQ R) (.node l r)->i<j:=fun i hi=>by
            have:=gG.o.lt (bD.1 hi).1;omega
           have g5:=FT.zO _ 0 (bK 0 j aN).1 _ (FT.at_mem (fI aN▸I));have hP:(FT.node l r).hi<=(dN 0 j).hi:=g5;have hO:=(bK 0 j aN).2.2;have hZ:l.hi<=(FT.node l r).hi:=by have:=FT.eY r eS.2.1;have:=eS.2.2;show l.hi<=r.hi;omega
           have g7:(nl (dQ R) (.node l r)).length<=(dQ R).length:=gV _ _;rw[jW]at g7;have g9:wr.ownsMap prog 27 (plainElem prog 3) U j D:=wR fg.o (a2.o.block U aa (fun h=>by
            obtain⟨em,ek,aM,-⟩:=fg.o;subst h;rcases cd.o.2 with⟨x,-⟩|⟨g,cT,cU,x,-,c6,-⟩
            .cases x
            .injection x with x;injection x with x;injection x with x;subst x;rw[aM]at c6;cases c6))
           refine(yx l r s tb cX 0 nc gl d w.heap.size k (l.root s) (r.root (s+l.size)) l.hi U j (aW j) LN LL (nl (dQ R) (.node l r)) (jI R) gL gN D wr I c9 rfl rfl rfl aa aa ei eG ej es ⟨f2,dS,fun b o e=>?_⟩ el aT aa gW gX g9 (fun i hi=>?_) (fun i hi=>?_) (fun i hi=>by have:=eE i hi;omega)).mono ?_
           .intro h;subst h;exact bu cL.o ez ai b rfl (by rw[el,e];rfl)
           .obtain⟨sm,gb⟩:=gB.o;have Y:=(gb.2.2.2.2 (jI R i)).2 (.lit (.int .i64 0));rw[Y];have eq:=Bj dk.o.2 j aa i (eE i hi);have gY:placeF R j (jI R i)=some (i:Int):=eq;rw[gY]
           .have f5:i<R.length:=by have:=eE i hi;omega
            have eq:bU R i=R[i]:=by simp[bU,f5]
            unfold jI;rw[eq];exact fj.o _ (bG f5)
           .rintro e w' ⟨rfl,vl,vr,vf,B,h2,ac,bd,bE,cY⟩;rw[bQ]at B;exact⟨rfl,_,_,B,cY,a3.o.node cL.o I eS c9 cY fy h2 ac bd bE⟩
         have e8:=ag e4;clear e4 es eG ev ei ej O f2 gS gT
         go_wp2_with fail
         refine e8.o.mono ?_;rintro e w' ⟨rfl,dt,ds,B,h2,ac⟩;have gs:=ag B;have gt:Hid (ay (fun k=>k=gl) wc w'):=a2.o.trans h2;have gu:=ag ac;clear B h2 ac e8;go_wp2
         go_roundg k
         case measure=>omega
         case rel=>exact⟨k,(k:Int)-1,dt,ds,by go_num,aa,aa,aB _,gs,gt,gu⟩
        .obtain rfl:m=0:=aa;obtain rfl:z=-1:=aa;have id:=a2.o.size;have a5:vH wr w.heap.size fb j (.slice T j P) N (.slice aw d nc) ab R:=dl.o.kept a2.o (fun k B h2=>by
          subst h2;rcases cd.o.2 with⟨x,-⟩|⟨g,cT,cU,x,-,aM,-⟩
          .cases x
          .injection x with x;injection x with x;injection x with x;subst x;exact⟨_,_,_,aM,ai,ai,ai,ai⟩)
         have ey:=aU fn.o a2.o (fun g h h2=>by subst h2;exact bu cd.o fn.o ai g rfl h);have dz:=aU fq.o a2.o (fun g h h2=>by subst h2;exact bu cd.o fq.o ai g rfl h);have dS:tb≠gl:=aa;have ew:=bz a2.o dn.o (fun h=>dS h);have fz:Below w.heap.size w wr:=e7.o.trans (a2.o.toBelow e7.o.size (fun k h=>aa));have et:=cL.o;have cv:=jW R;have e5:Hid (jC wr w.heap.size wr.heap.size tb fb R (List.replicate R.length false) (dQ R) ⟨.slice T j P,.slice am j an,N,.slice aw d nc,ax gl d d,yv,ab,LN,LL⟩/\Below w.heap.size w wr):=by
          have Z:R.length=j:=cq;have fY:=(aY.1 a5.iF.blk).1;have hl:=(aY.1 ew).1;refine⟨⟨?_,⟨hk,hl,a5.Qb,fY,aB _⟩,?_,?_,?_,?_,?_,?_,?_,?_,?_,?_,?_,?_,?_,?_,?_⟩,fz⟩
          .rw[cv,Z];exact ew
          .rw[Z];exact a5.row
          .rw[Z];exact ey
          .rw[Z];exact a5.Dr
          .rw[Z];exact a5.iF
          .rw[Z,bQ];have h:=a5.jd;rw[bQ]at h;exact h
          .rw[Z,bQ];exact et
          .rw[cv,Z];exact bJ dz aa
          .intro t s I;rw[Z]at I;exact bJ (a3.o.all I) aa
          .intro l r s I;rw[Z]at I;exact bJ (a3.o.AY l r s I (bH _)) aa
          .intro k al;rw[Z]at al;exact(a3.o.Dm k al (bH _)).1
          .intro v dT g aS;rcases dT with rfl|rfl|rfl|rfl|rfl|rfl|rfl
           .exact(a5.row.lt g aS).2
           .exact(ey.lt g aS).2
           .exact(a5.Dr.lt g aS).2
           .exact(a5.jd.lt g aS).2
           .exact(et.lt g aS).2
           .exact(dz.lt g aS).2
           .exact(a5.iF.row.lt g aS).2
          .intro k al;rw[Z]at al;exact⟨fun g aS=>(a3.o.QD k al g aS).2,fun g aS=>((a3.o.Dm k al (bH _)).2 g aS).2⟩
          .intro g aS h2;have hD:=gH.o g aS;have hE:=(dz.lt g h2).1;omega
          .intro i k B h2 ac;rw[Z]at B h2;exact a3.o.HY i k B h2 ac
          .intro i k B h2 ac;rw[Z]at B h2;exact a3.o.Gc i k B h2 ac
         clear a5 ey dz ew fz et cv;go_wp2;go_ret2;rw[gC.o];exact⟨tb,fb,_,rfl,e5.o.1,e5.o.2⟩
end
section
open Go.RowKit Go.Sort Go.Shelf Go.Lib Go.Maps
def nu {α:Type} (f:Nat->α) (k:Nat) (v:α):Nat->α:=fun j=>if j=k then v else f j
theorem jD {α:Type} (f:Nat->α) (k:Nat) (v:α):nu f k v k=v:=by simp[nu]
theorem w9 {α:Type} {f:Nat->α} {k j:Nat} {v:α} (h:j≠k):nu f k v j=f j:=by simp[nu,h]
structure gL (w:World) (lo hi tb fb:Nat) (R:List Pt) (gone:List Bool) (cnt:Nat) (yy:List Nat) (nc:Nat->List Nat) (lc:Nat->List Int) (V:yt):Prop where
 blk:w.heap[tb]? =some (wS V.rv V.xv V.gv fb V.nv V.lv V.yv cnt)
 fu:lo<=tb/\tb<hi/\lo<=fb/\fb<hi/\hi<=w.heap.size
 row:w.ownsRow lo 29 3 V.rv R.length (R.flatMap dw)
 xs:w.ownsRow lo 2 1 V.xv R.length ((bS R).map (Value.int .i64))
 Dr:w.ownsRow lo 4 1 V.gv R.length (gone.map Value.bool)
 iF:nJ w lo fb R.length V.fv
 jd:w.ownsRow lo 163 7 V.nv (aW R.length).length ((aW R.length).flatMap oM)
 EE:w.ownsRow lo 150 2 V.lv (aW R.length).length (Oe V.LN V.LL (aW R.length).length)
 ys:w.ownsRow lo 2 1 V.yv yy.length ((jl R yy).map (Value.int .i64))
 FV:∀k,k<(aW R.length).length->w.ownsRow lo 27 1 (V.LN k) (nc k).length (((nc k).map (jI R)).map (Value.int .u32))
 AY:∀l r s,FT.At (aW R.length) (.node l r) s->w.ownsRow lo 3 1 (V.LL ((FT.node l r).root s)) (lc ((FT.node l r).root s)).length ((lc ((FT.node l r).root s)).map (Value.int .i64))
 Dm:∀k,k<(aW R.length).length->∃a m c,V.LL k=.slice a m c
 top:∀v,v=V.rv\/v=V.xv\/v=V.gv\/v=V.nv\/v=V.lv\/v=V.yv\/v=V.fv->∀g,v.ownBlock=some g->g<hi
 oQ:∀k,k<(aW R.length).length->(∀g,(V.LN k).ownBlock=some g->g<hi)/\∀g,(V.LL k).ownBlock=some g->g<hi
 Ns:∀g,V.xv.ownBlock=some g->V.yv.ownBlock≠some g
 HY:∀i k,i<(aW R.length).length->k<(aW R.length).length->i≠k->∀g,(V.LN i).ownBlock=some g->(V.LN k).ownBlock≠some g
 Gc:∀i k,i<(aW R.length).length->k<(aW R.length).length->i≠k->∀g,(V.LL i).ownBlock=some g->(V.LL k).ownBlock≠some g
theorem fe {w w':World} {g base:Nat} {cs:Array Value} {t:TypeId} {fr:Nat×Nat} {e:TypeId} {sz:Nat} {v:Value} {n:Nat} {xs:List Value} (h:w.ownsRow base e sz v n xs) (K:ay (fun k=>k=g) w w') (b:w.heap[g]? =some (.cells cs t fr)) (ht:t≠e):w'.ownsRow base e sz v n xs:=
 oW h K fun k c a=>by subst a;exact⟨_,_,_,b,ht⟩
theorem QM {w w':World} {g base:Nat} {e:TypeId} {sz:Nat} {v:Value} {n:Nat} {xs:List Value} (h:w.ownsRow base e sz v n xs) (K:ay (fun k=>k=g) w w') (c:v.ownBlock≠some g):w'.ownsRow base e sz v n xs:=
 aU h K fun k a b=>by subst b;exact c a
theorem yG {w w':World} {g base fb n:Nat} {b:Value} {cs:Array Value} {t:TypeId} {fr:Nat×Nat} (h:nJ w base fb n b) (K:ay (fun k=>k=g) w w') (c:w.heap[g]? =some (.cells cs t fr)) (d:t≠236) (f:t≠163):nJ w' base fb n b:=
 ⟨bz K h.blk fun e=>by subst e;have a:=c.symm.trans h.blk;injection a with a;injection a with _ a _;exact d a,fe h.row K c f⟩
theorem EY {w w':World} {g b:Nat} {cs d:Array Value} {t c:TypeId} {fr f:Nat×Nat} (h:w.heap[b]? =some (.cells d c f)) (K:ay (fun k=>k=g) w w') (j:w.heap[g]? =some (.cells cs t fr)) (i:t≠c):w'.heap[b]? =some (.cells d c f):=
 bz K h fun e=>by subst e;have a:=j.symm.trans h;injection a with a;injection a with _ a _;exact i a
theorem qF {w:World} {base g n c:Nat} {e:TypeId} {sz m:Nat} {xs:List Value} (h:w.ownsRow base e sz (ax g n c) m xs):∃cs fr,w.heap[g]? =some (.cells cs e fr):=by
 rcases h.2 with⟨a,-⟩|⟨i,d,f,a,-,b,-⟩
 .cases a
 .injection a with a;injection a with a;injection a with a;subst a;exact⟨_,_,b⟩
section
variable {w w':World} {lo hi tb fb:Nat} {R:List Pt} {gone:List Bool} {cnt:Nat} {yy:List Nat} {nc:Nat->List Nat} {lc:Nat->List Int} {V:yt}
theorem gL.kept {S:Nat->Prop} (h:gL w lo hi tb fb R gone cnt yy nc lc V) (K:ay S w w') (hS:∀k,lo<=k->k<hi->¬S k):gL w' lo hi tb fb R gone cnt yy nc lc V:=by
 have ht:=h.top;have a:∀{e:TypeId} {sz:Nat} {v:Value} {n:Nat} {xs:List Value},w.ownsRow lo e sz v n xs->(∀g,v.ownBlock=some g->g<hi)->w'.ownsRow lo e sz v n xs:=fun a d=>aU a K fun g e=>hS g (a.lt g e).1 (d g e);exact⟨bz K h.blk (hS tb h.fu.1 h.fu.2.1),⟨h.fu.1,h.fu.2.1,h.fu.2.2.1,h.fu.2.2.2.1,bA h.fu.2.2.2.2 K.size⟩,
  a h.row (ht _ aA),a h.xs (ht _ aA),a h.Dr (ht _ aA),
  ⟨bz K h.iF.blk (hS fb h.fu.2.2.1 h.fu.2.2.2.1),a h.iF.row (ht _ aA)⟩,a h.jd (ht _ aA),a h.EE (ht _ aA),a h.ys (ht _ aA),
  fun k c=>a (h.FV k c) (h.oQ k c).1,fun l r s b=>a (h.AY l r s b) (h.oQ _ b.lt).2,h.Dm,h.top,h.oQ,h.Ns,h.HY,h.Gc⟩
theorem gL.below {B:Nat} (h:gL w lo hi tb fb R gone cnt yy nc lc V) (a:Below B w w') (e:hi<=B):gL w' lo hi tb fb R gone cnt yy nc lc V:=
 h.kept (S:=fun k=>hi<=k) ⟨a.os,a.tape,a.output,a.size,fun k f g=>a.block k aa⟩ fun k b c d=>aa
theorem gL.BB (h:gL w lo hi tb fb R gone cnt yy nc lc V) (m:Nat):gL (w.setCell (af tb 7) (.int .i64 m)) lo hi tb fb R gone m yy nc lc V:=by
 have K:ay (fun k=>k=tb) w (w.setCell (af tb 7) (.int .i64 m)):=(ay.refl (fun k=>k=tb) w).set (a:=(af tb 7)) _ (.inl rfl);have b:=h.blk;exact⟨dC w tb 7 _ _ _ h.blk,aP h.fu,fe h.row K b ai,fe h.xs K b ai,fe h.Dr K b ai,yG h.iF K b ai ai,fe h.jd K b ai,fe h.EE K b ai,fe h.ys K b ai,
  fun k d=>fe (h.FV k d) K b ai,fun l r s c=>fe (h.AY l r s c) K b ai,h.Dm,h.top,h.oQ,h.Ns,h.HY,h.Gc⟩
theorem gL.QN (h:gL w lo hi tb fb R gone cnt yy nc lc V) {g n c:Nat} (f:V.gv=ax g n c) (i:Nat):gL (w.setCell (af g i) (.bool true)) lo hi tb fb R (gone.set i true) cnt yy nc lc V:=by
 have K:ay (fun k=>k=g) w (w.setCell (af g i) (.bool true)):=(ay.refl (fun k=>k=g) w).set (a:=(af g i)) _ (.inl rfl);have e:=h.Dr;rw[f]at e;have⟨cs,fr,b⟩:=qF e;refine⟨EY h.blk K b ai,aP h.fu,fe h.row K b ai,fe h.xs K b ai,?_,yG h.iF K b ai ai,fe h.jd K b ai,fe h.EE K b ai,fe h.ys K b ai,
  fun k m=>fe (h.FV k m) K b ai,fun l r s j=>fe (h.AY l r s j) K b ai,h.Dm,h.top,h.oQ,h.Ns,h.HY,h.Gc⟩
 rw[f,kM];have o:n=R.length:=by
  rcases e.2 with⟨d,-⟩|⟨t,p,q,d,-⟩
  .cases d
  .injection d with _ d _
 subst o;exact(e.stored i (.bool true)).1
theorem gL.Uz (h:gL w lo hi tb fb R gone cnt yy nc lc V) {g n c n':Nat} (j:V.yv=ax g n c) (K:ay (fun k=>k=g) w w') {yy':List Nat} (A:w'.ownsRow lo 2 1 (ax g n' c) yy'.length ((jl R yy').map (Value.int .i64))):
  gL (w'.setCell (af tb 6) (ax g n' c)) lo hi tb fb R gone cnt yy' nc lc {V with yv:=ax g n' c}:=by
 have t:=h.ys;rw[j]at t;have⟨cs,fr,q⟩:=qF t;have ht:=EY h.blk K q ai;have i:ay (fun k=>k=tb) w' (w'.setCell (af tb 6) (ax g n' c)):=(ay.refl (fun k=>k=tb) w').set (a:=(af tb 6)) _ (.inl rfl);have C:=h.xs;have y:V.xv.ownBlock≠some g:=fun e=>h.Ns g e (by rw[j];rfl);have f:∀{e:TypeId} {sz:Nat} {v:Value} {m:Nat} {xs:List Value},w.ownsRow lo e sz v m xs->2≠e->146≠e->(w'.setCell (af tb 6) (ax g n' c)).ownsRow lo e sz v m xs:=fun z o p=>fe (fe z K q o) i ht p;refine⟨dC w' tb 6 _ _ _ ht,?_,f h.row ai ai,fe (QM C K y) i ht ai,f h.Dr ai ai,yG (yG h.iF K q ai ai) i ht ai ai,f h.jd ai ai,f h.EE ai ai,fe A i ht ai,
  fun k x=>f (h.FV k x) ai ai,fun l r s u=>f (h.AY l r s u) ai ai,h.Dm,?_,h.oQ,?_,h.HY,h.Gc⟩
 .have:=h.fu;have:=K.size;simp;omega
 .intro v B b d;rcases B with e|e|e|e|e|e|e
  .exact h.top v (.inl e) b d
  .exact h.top v (.inr (.inl e)) b d
  .exact h.top v (.inr (.inr (.inl e))) b d
  .exact h.top v (.inr (.inr (.inr (.inl e)))) b d
  .exact h.top v (.inr (.inr (.inr (.inr (.inl e))))) b d
  .exact h.top V.yv aA b (by rw[j];rw[e]at d;exact d)
  .exact h.top v (.inr (.inr (.inr (.inr (.inr (.inr e)))))) b d
 .intro b o p;exact h.Ns b o (by rw[j];exact p)
theorem gL.Td (h:gL w lo hi tb fb R gone cnt yy nc lc V) {k g n c n' gl nl cl:Nat} (B:k<(aW R.length).length) (y:V.LN k=ax g n c) (D:V.lv=ax gl nl cl) (K:ay (fun k=>k=g) w w') {L':List Nat} (N:w'.ownsRow lo 27 1 (ax g n' c) L'.length ((L'.map (jI R)).map (Value.int .u32))):
  gL (w'.setCell (af gl (k*2)) (ax g n' c)) lo hi tb fb R gone cnt yy (nu nc k L') lc {V with LN:=upd V.LN k (ax g n' c)}:=by
 have F:=h.FV k B;rw[y]at F;have⟨cs,fr,x⟩:=qF F;have C:=h.EE;rw[D]at C;have L:nl=(aW R.length).length:=by
  rcases C.2 with⟨q,-⟩|⟨b,O,Q,q,-⟩
  .cases q
  .injection q with _ q _
 subst L;have E:=fe C K x ai;have⟨P,S,p⟩:=qF E;have o:ay (fun k=>k=gl) w' (w'.setCell (af gl (k*2)) (ax g n' c)):=(ay.refl (fun k=>k=gl) w').set (a:=(af gl (k*2))) _ (.inl rfl);have j:∀{e:TypeId} {sz:Nat} {v:Value} {m:Nat} {xs:List Value},w.ownsRow lo e sz v m xs->27≠e->150≠e->(w'.setCell (af gl (k*2)) (ax g n' c)).ownsRow lo e sz v m xs:=fun M z A=>fe (fe M K x z) o p A;refine⟨EY (EY h.blk K x ai) o p ai,?_,j h.row ai ai,j h.xs ai ai,j h.Dr ai ai,yG (yG h.iF K x ai ai) o p ai ai,j h.jd ai ai,?_,j h.ys ai ai,
  fun k' f=>?_,fun l r s J=>j (h.AY l r s J) ai ai,h.Dm,h.top,fun k' f=>⟨fun b d=>?_,(h.oQ k' f).2⟩,h.Ns,fun i G z A H b t u=>?_,h.Gc⟩
 .have:=h.fu;have:=K.size;simp;omega
 .show World.ownsRow _ _ _ _ V.lv _ _;rw[D];exact cB.A7 E B _
 .by_cases e:k'=k
  .subst e;rw[jD];show World.ownsRow _ _ _ _ (upd V.LN k' _ k') _ _;rw[upd_same];exact fe N o p ai
  .rw[w9 e];show World.ownsRow _ _ _ _ (upd V.LN k _ k') _ _;rw[upd_ne e];exact fe (QM (h.FV k' f) K (fun I=>h.HY k k' B f (iO e) g (by rw[y];rfl) I)) o p ai
 .by_cases e:k'=k
  .subst e;have d:(upd V.LN k' (ax g n' c) k').ownBlock=some b:=d;rw[upd_same]at d;exact(h.oQ k' f).1 b (by rw[y];exact d)
  .have d:(upd V.LN k (ax g n' c) k').ownBlock=some b:=d;rw[upd_ne e]at d;exact(h.oQ k' f).1 b d
 .have own:∀i,(upd V.LN k (ax g n' c) i).ownBlock=(V.LN i).ownBlock:=fun i=>by
   by_cases e:i=k
   .subst e;rw[upd_same,y];rfl
   .rw[upd_ne e]
  have t:(upd V.LN k (ax g n' c) i).ownBlock=some b:=t;have u:(upd V.LN k (ax g n' c) G).ownBlock=some b:=u;rw[own]at t u;exact h.HY i G z A H b t u
theorem gL.Te (h:gL w lo hi tb fb R gone cnt yy nc lc V) {D E:FT} {F k g n c n' gl nl cl:Nat} (H:FT.At (aW R.length) (.node D E) F) (J:(FT.node D E).root F=k) (C:V.LL k=ax g n c) (L:V.lv=ax gl nl cl) (K:ay (fun k=>k=g) w w') {L':List Int} (W:w'.ownsRow lo 3 1 (ax g n' c) L'.length (L'.map (Value.int .i64))):
  gL (w'.setCell (af gl (k*2+1)) (ax g n' c)) lo hi tb fb R gone cnt yy nc (nu lc k L') {V with LL:=upd V.LL k (ax g n' c)}:=by
 have I:k<(aW R.length).length:=J▸H.lt;have N:=h.AY D E F H;rw[J,C]at N;have⟨cs,fr,x⟩:=qF N;have B:=h.EE;rw[L]at B;have T:nl=(aW R.length).length:=by
  rcases B.2 with⟨p,-⟩|⟨b,Y,aa,p,-⟩
  .cases p
  .injection p with _ p _
 subst T;have M:=fe B K x ai;have⟨Z,ab,o⟩:=qF M;have j:ay (fun k=>k=gl) w' (w'.setCell (af gl (k*2+1)) (ax g n' c)):=(ay.refl (fun k=>k=gl) w').set (a:=(af gl (k*2+1))) _ (.inl rfl);have f:∀{e:TypeId} {sz:Nat} {v:Value} {m:Nat} {xs:List Value},w.ownsRow lo e sz v m xs->3≠e->150≠e->(w'.setCell (af gl (k*2+1)) (ax g n' c)).ownsRow lo e sz v m xs:=fun U z A=>fe (fe U K x z) j o A;have own:∀i,(upd V.LL k (ax g n' c) i).ownBlock=(V.LL i).ownBlock:=fun i=>by
  by_cases e:i=k
  .subst e;rw[upd_same,C];rfl
  .rw[upd_ne e]
 refine⟨EY (EY h.blk K x ai) j o ai,?_,f h.row ai ai,f h.xs ai ai,f h.Dr ai ai,yG (yG h.iF K x ai ai) j o ai ai,f h.jd ai ai,?_,f h.ys ai ai,
  fun k' d=>f (h.FV k' d) ai ai,fun l r s G=>?_,fun k' d=>?_,h.top,fun k' d=>⟨(h.oQ k' d).1,fun b y=>?_⟩,h.Ns,h.HY,fun i O z A P b q t=>?_⟩
 .have:=h.fu;have:=K.size;simp;omega
 .show World.ownsRow _ _ _ _ V.lv _ _;rw[L];exact cB.Qz M I _
 .have S:=G.lt;generalize Q:(FT.node l r).root s=k' at*;by_cases e:k'=k
  .subst e;rw[jD];show World.ownsRow _ _ _ _ (upd V.LL k' _ k') _ _;rw[upd_same];exact fe W j o ai
  .rw[w9 e];show World.ownsRow _ _ _ _ (upd V.LL k _ k') _ _;rw[upd_ne e];have u:=h.AY l r s G;rw[Q]at u;exact fe (QM u K (fun u=>h.Gc k k' I S (iO e) g (by rw[C];rfl) u)) j o ai
 .show∃a m X,upd V.LL k _ k'=_;by_cases e:k'=k
  .subst e;rw[upd_same];exact⟨_,_,_,rfl⟩
  .rw[upd_ne e];exact h.Dm k' d
 .have y:(upd V.LL k (ax g n' c) k').ownBlock=some b:=y;rw[own]at y;exact(h.oQ k' d).2 b y
 .have q:(upd V.LL k (ax g n' c) i).ownBlock=some b:=q;have t:(upd V.LL k (ax g n' c) O).ownBlock=some b:=t;rw[own]at q t;exact h.Gc i O z A P b q t
theorem gL.Tf (h:gL w lo hi tb fb R gone cnt yy nc lc V) {m n:FT} {o k g c j:Nat} (q:FT.At (aW R.length) (.node m n) o) (t:(FT.node m n).root o=k) (i:V.LL k=ax g (lc k).length c) (x:Int):
  gL (w.setCell (af g j) (.int .i64 x)) lo hi tb fb R gone cnt yy nc (nu lc k ((lc k).set j x)) V:=by
 have u:k<(aW R.length).length:=t▸q.lt;have f:=h.AY m n o q;rw[t,i]at f;have⟨cs,fr,b⟩:=qF f;have K:ay (fun k=>k=g) w (w.setCell (af g j) (.int .i64 x)):=(ay.refl (fun k=>k=g) w).set (a:=(af g j)) _ (.inl rfl);refine⟨EY h.blk K b ai,aP h.fu,fe h.row K b ai,fe h.xs K b ai,fe h.Dr K b ai,yG h.iF K b ai ai,fe h.jd K b ai,fe h.EE K b ai,fe h.ys K b ai,
  fun k' v=>fe (h.FV k' v) K b ai,fun l r s p=>?_,h.Dm,h.top,h.oQ,h.Ns,h.HY,h.Gc⟩
 have y:=p.lt;have d:=h.AY l r s p;generalize z:(FT.node l r).root s=k' at*;by_cases e:k'=k
 .subst e;rw[jD,i,kK,kM];exact(f.stored j (.int .i64 x)).1
 .rw[w9 e];exact QM d K (fun d=>h.Gc k k' u y (iO e) g (by rw[i];rfl) d)
end
end
end Go.Proofs.YtkjdbndekceffaaGreat
