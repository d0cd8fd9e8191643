/- Made small by a program. -/
import Derived.Test.YtkjdbndekceffaaGreatW07
set_option linter.unusedSimpArgs false
set_option linter.unusedVariables false
set_option maxRecDepth 100000
set_option maxHeartbeats 16000000
namespace Go.Proofs.YtkjdbndekceffaaGreat
open Tryz
section
open Go.RowKit Go.Sort Go.Shelf Go.Lib Go.Maps
attribute [local irreducible] wpQuiet
attribute [local go_sem] Oper.fw
theorem Jt (a:Option Addr) (c:Nat) (l:List Pt) (w:World) (dG:bW dw 3 w a l) (hb:l.length<=20000) (gj:Il l) (hu:lF l=true):
  aK 35 #[.slice a l.length c] w fun e w'=>∃tb fb V,e=.returned (.tuple #[aj tb,ae 0])/\jE w' w.heap.size w'.heap.size tb fb (eX l) (List.replicate (eX l).length false) (dS (eX l)) V/\Below w.heap.size w w':=by
 have db:=Gy a c l w dG aa gj;rw[hu]at db;have hC:=af dG;obtain⟨n,dH⟩:∃n,n=l.length:=⟨_,rfl⟩;have dX:=af (fun W (c1:Below w.heap.size w W)=>oQ a l n c W dH.symm (dG.below c1) aa);have fh:=af dH;rw[<-dH]at hb db |-;have e1:=af (fun W=>yE n aa W);clear dH dG;have d1:decide ((n:Int)>2147483648)=false:=aG;have d2:decide ((2147483648:Int)<(n:Int))=false:=aG;have d3:decide (2147483648<n)=false:=aG;go_enter func35,ntmps35
 go_wp2_with (go_at_call 89;refine db.mono ?_;rintro e w1 ⟨rfl,dC⟩;clear db)
 go_wp2_with fail
 refine(e1.o w1).mono ?_;rintro e w2 ⟨rfl,dv⟩;have cF:Hid (Below w.heap.size w w2):=by rw[dv];exact dC.alloc dC.size _
 have dd:Hid (w2.heap[w1.heap.size]? =some (lq 0 0 (aL) n)):=by rw[dv];exact bV w1 _
 obtain⟨fb,eB⟩:∃fb,fb=w1.heap.size:=⟨_,rfl⟩;have fX:w.heap.size<=fb/\fb<w2.heap.size:=by rw[dv,eB];exact⟨dC.size,aA⟩
 rw[<-eB]at dd |-;clear dv dC eB e1
 go_upto_region 8 with fail
 go_cut [6]from 6 (fun hz bu=>∃tb aV N Q ab,hz=aj tb/\Hid (vJ bu w.heap.size fb n aV N Q ab l)/\Hid (bu.heap[tb]? =some (wW aV (aL) N fb Q (aL) (aL) n))/\Hid (Below w.heap.size w bu)/\w.heap.size<=tb)
 case first=>
  have h3:=Ot n aa;have fw:∀(J:World) aV N Q ab,J.ownsRow w.heap.size 29 3 aV n (l.flatMap dw)->J.ownsRow w.heap.size 4 1 N n ((List.replicate n false).map Value.bool)->J.ownsRow w.heap.size 163 7 ab (aW n).length ((aW n).flatMap oN)->J.ownsRow w.heap.size 163 7 Q (aW n).length ((aW n).flatMap oN)->J.heap[fb]? =some (lq 1 0 ab n)->Below w.heap.size w J->
    vJ (J.alloc (.cells #[aV,aL,N,aj fb,Q,aL,aL,ae n] 146)) w.heap.size fb n aV N Q ab l/\(J.alloc (.cells #[aV,aL,N,aj fb,Q,aL,aL,ae n] 146)).heap[J.heap.size]? =some (wW aV (aL) N fb Q (aL) (aL) n)/\Below w.heap.size w (J.alloc (.cells #[aV,aL,N,aj fb,Q,aL,aL,ae n] 146)):=fun J aV N Q ab B h2 ac bd bE cZ=>
   ⟨(vJ.mk B h2 ⟨bE,ac⟩ fX.1 bd).kept ((ay.refl (fun _=>False) J).alloc _) (fun k _ h=>h.elim),bV J _,cZ.alloc cZ.size _⟩
  have d0:=af fw;clear fw;refine ax (fun W=>True) [1,4,7,10,11,12] [(0,false),(2,false),(3,false),(5,false),(6,false),(8,false),(9,false)] trivial 6 ?_;have cr:Below w.heap.size w w2.drew:=cF.o.drew;have eA:w2.drew.heap[fb]? =some (lq 0 0 (aL) n):=dd.o;have h8:w2.drew.heap.size=w2.heap.size:=rfl;refine iU 1 4 rfl rfl (fun K f=>?_) (fun K f=>?_)
  .
   refine bf wX rfl _ _ rfl (vals:=#[.slice a n c]) rfl (dX.o w2.drew cr) ?_;rintro e w3 ⟨aV,rfl,b5,bs⟩;refine⟨_,rfl,f _ _ (fun _ _=>trivial) ?_⟩;clear f K;have cu:w3.heap[fb]? =some (lq 0 0 (aL) n):=(bs.block fb aa).trans eA;have br:Below w.heap.size w w3:=cr.trans (bs.mono cr.size);have eL:=bI b5 cr.size;have dL:=bs.size;have dY:=af cu;have bY:=af br;have ft:=af eL;obtain⟨T,P,rfl⟩:=fH eL;clear b5 bs cr eA cu br eL;refine iU 4 7 rfl rfl (fun K f=>?_) (fun K f=>?_)
   .go_simp;refine f _ _ (fun _ _=>trivial) ?_;clear f K;refine aH 7 rfl fun K f=>?_;have b3:(w3.alloc (.cells (madeCells #[.bool false] n) 4)).heap[fb]? =some (lq 0 0 (aL) n):=(bR _ _ _ aa).trans dY.o;refine bf vK rfl _ _ rfl (vals:=#[aj fb]) rfl (gK fb n aa _ b3) ?_;rintro e J ⟨ab,Q,rfl,ji,a6,bt,aO⟩;refine⟨_,rfl,f _ _ (fun _ _=>trivial) ?_⟩;clear f K;have bH:Below w.heap.size w (w3.alloc (.cells (madeCells #[.bool false] n) 4)):=bY.o.alloc bY.o.size _;have a0:Below w.heap.size w J:=bH.trans (aO.toBelow bH.size (fun k h=>aa));have F:=d0.o J _ (az w3.heap.size n n) Q ab (Jk (ak ft.o ((aJ _ _).alloc (aB _) _)) ai b3 aO) (Jk (yL w3 w.heap.size n bY.o.size aa) ai b3 aO) (bI ji bH.size) (bI a6 bH.size) bt a0;have a1:=af F;have a8:=a0.size;obtain⟨aw,nc,rfl⟩:=fH a6;clear F ji a6 bt aO bH a0 b3;refine aI [10,11,12] ?_;go_wp2;go_meet;exact⟨_,_,_,_,_,rfl,a1.o.1,a1.o.2.1,a1.o.2.2,a8⟩
   .refine bf vK rfl _ _ rfl (vals:=#[aj fb]) rfl (gK fb n aa _ dY.o) ?_;rintro e J ⟨ab,Q,rfl,ji,a6,bt,aO⟩;refine⟨_,rfl,f _ _ (fun _ _=>trivial) ?_⟩;clear f K;have a0:Below w.heap.size w J:=bY.o.trans (aO.toBelow bY.o.size (fun k h=>aa));have ap:Below w.heap.size w (J.alloc (.cells (madeCells #[.bool false] n) 4)):=a0.alloc a0.size _;have be:Below J.heap.size J (J.alloc (.cells (madeCells #[.bool false] n) 4)):=(aJ _ _).alloc (aB _) _;have g3:=(aZ.1 bt).1;have F:=d0.o (J.alloc (.cells (madeCells #[.bool false] n) 4)) _ (az J.heap.size n n) Q ab (ak (Jk ft.o ai dY.o aO) be) (yL J w.heap.size n a0.size aa) (ak (bI ji bY.o.size) be) (ak (bI a6 bY.o.size) be) ((bR _ _ _ g3).trans bt) ap;have gh:(J.alloc (.cells (madeCells #[.bool false] n) 4)).heap.size=J.heap.size+1:=aA;rw[gh]at F;have a1:=af F;have a8:=ap.size;rw[gh]at a8;obtain⟨aw,nc,rfl⟩:=fH a6;clear F ji a6 bt aO a0 ap be;refine aI [4,10,11,12] ?_;go_wp2;go_meet;exact⟨_,_,_,_,_,rfl,a1.o.1,a1.o.2.1,a1.o.2.2,a8⟩
  .
   go_simp;refine f _ _ (fun _ _=>trivial) ?_;clear f K;refine aH 1 rfl fun K f=>?_;have br:Below w.heap.size w (w2.alloc (.cells (madeCells #[.bool false] n) 4)).drew:=(cF.o.alloc cF.o.size _).drew;have cu:(w2.alloc (.cells (madeCells #[.bool false] n) 4)).drew.heap[fb]? =some (lq 0 0 (aL) n):=(bR w2 _ _ fX.2).trans dd.o;have eC:(w2.alloc (.cells (madeCells #[.bool false] n) 4)).drew.ownsRow w.heap.size 4 1 (az w2.heap.size n n) n ((List.replicate n false).map Value.bool):=yL w2 w.heap.size n cF.o.size aa;have dL:fb<(w2.alloc (.cells (madeCells #[.bool false] n) 4)).drew.heap.size:=by
    show fb<(w2.alloc (.cells (madeCells #[.bool false] n) 4)).heap.size;simp;omega
   obtain⟨w3,en⟩:∃w3,w3=(w2.alloc (.cells (madeCells #[.bool false] n) 4)).drew:=⟨_,rfl⟩;rw[<-en]at br cu eC dL;refine bf wX rfl _ _ rfl (vals:=#[.slice a n c]) rfl (by rw[<-en];exact dX.o w3 br) ?_;rintro e w4 ⟨aV,rfl,b5,bs⟩;refine⟨_,rfl,f _ _ (fun _ _=>trivial) ?_⟩;clear f K;have b3:w4.heap[fb]? =some (lq 0 0 (aL) n):=(bs.block fb dL).trans cu;have bH:Below w.heap.size w w4:=br.trans (bs.mono br.size);have cw:=bI b5 br.size;have fZ:=ak eC bs;have dZ:=af b3;have da:=af bH;have gL:=af cw;have gr:=af fZ;obtain⟨T,P,rfl⟩:=fH cw;clear b5 bs cr eA b3 bH cw cu br eC fZ dL en;refine aH 7 rfl fun K f=>?_;refine bf vK rfl _ _ rfl (vals:=#[aj fb]) rfl (gK fb n aa _ dZ.o) ?_;rintro e J ⟨ab,Q,rfl,ji,a6,bt,aO⟩;refine⟨_,rfl,f _ _ (fun _ _=>trivial) ?_⟩;clear f K;have a0:Below w.heap.size w J:=da.o.trans (aO.toBelow da.o.size (fun k h=>aa));have F:=d0.o J _ (az w2.heap.size n n) Q ab (Jk gL.o ai dZ.o aO) (Jk gr.o ai dZ.o aO) (bI ji da.o.size) (bI a6 da.o.size) bt a0;have a1:=af F;have a8:=a0.size;obtain⟨aw,nc,rfl⟩:=fH a6;clear F ji a6 bt aO a0;refine aI [10,11,12] ?_;go_wp2;go_meet;exact⟨_,_,_,_,_,rfl,a1.o.1,a1.o.2.1,a1.o.2.2,a8⟩
 case rest=>
  obtain⟨tb,aV,N,Q,ab,rfl,ce,cO,d4,hk⟩:=hcut;clear cF dd dX;obtain⟨T,P,rfl⟩:=fH ce.o.row;have cy:=(aZ.1 cO.o).1;have eP:(ids l).Nodup:=by unfold lF at hu;simpa using hu
  have e2:=af (yK fh.o.symm aa ce.o.row eP);have O:=cO.o;have ck:wc.cell? (ag tb 0)=some (.slice T n P):=aF O;clear O
  go_wp2_with fail
  refine e2.o.mono ?_;rintro e w4 ⟨rfl,cw,b4⟩;have fL:vJ w4 w.heap.size fb n (.slice T n P) N Q ab (eX l):=by
   have h:=ce.o;have hp:∀k,k<wc.heap.size->(Value.slice T n P).ownBlock=some k->∃cs t fr,wc.heap[k]? =some (.cells cs t fr)/\t=29:=fun k al ct=>by
    rcases h.row.2 with⟨x,-⟩|⟨g,cU,cV,x,-,aM,-⟩
    .rw[x]at ct;cases ct
    .rw[x]at ct;injection ct with ct;subst ct;exact⟨_,_,_,aM,rfl⟩
   refine⟨cw,oZ h.DK b4 fun k B h2=>?_,⟨bq b4 h.iH.blk fun h2=>?_,oZ h.iH.row b4 fun k B h2=>?_⟩,h.Qp,oZ h.je b4 fun k B h2=>?_⟩
   .obtain⟨cs,t,fr,a,rfl⟩:=hp k B h2;exact⟨cs,_,fr,a,ai⟩
   .obtain⟨cs,t,fr,a,rfl⟩:=hp fb (aZ.1 h.iH.blk).1 h2;have Y:=a.symm.trans h.iH.blk;injection Y with Y;injection Y with _ Y _;exact absurd Y ai
   .obtain⟨cs,t,fr,a,rfl⟩:=hp k B h2;exact⟨cs,_,fr,a,ai⟩
   .obtain⟨cs,t,fr,a,rfl⟩:=hp k B h2;exact⟨cs,_,fr,a,ai⟩
  have cg:Hid (w4.heap[tb]? =some (wW (.slice T n P) (aL) N fb Q (aL) (aL) n)):=bq b4 cO.o (fun h=>bn ce.o.row cO.o ai tb h rfl);have dc:Hid (Below w.heap.size w w4):=d4.o.trans (b4.toBelow d4.o.size (fun k h=>(ce.o.row.lt k h).1));have dk:=af fL;have cq:(eX l).length=n:=by rw[(dQ l).length_eq];exact fh.o.symm
  have fQ:(ids (eX l)).Nodup:=((dQ l).map _).nodup_iff.2 eP;have dl:Hid ((eX l).Pairwise kG/\(ids (eX l)).Nodup):=⟨fT eP,fQ⟩;have fj:Hid (Il (eX l)):=fun p hp=>gj p ((wG l p).1 hp);clear cw b4 fL ce cO d4 e2 fQ ck cy;generalize fP:eX l=R at*;have gC:Hid (eX l=R):=fP;clear fP;have cy:=(aZ.1 cg.o).1;have O:=cg.o;have ck:w4.cell? (ag tb 0)=some (.slice T n P):=aF O;clear O
  go_wp2_with fail
  go_loopg [52] n (fun b7 hx wr=>∃(i:Nat) (eY:Value),hx=.int .i64 i/\i<=n/\n-i<=b7/\Hid (wr.heap[tb]? =some (wW (.slice T n P) eY N fb Q (aL) (aL) n))/\Hid (wr.ownsRow w4.heap.size 2 1 eY i (((bT R).take i).map (Value.int .i64)))/\Hid (ay (fun k=>k=tb) w4 wr))
  case atStart=>exact⟨0,_,rfl,aY _,aa,cg,dA _ _ _ _,ay.refl _ _⟩
  case round=>
   obtain⟨i,eY,rfl,hi,hV,bl,b0,cb⟩:=hrel;by_cases hR:i<n
   .have bh:=aR dk.o.row cb.o (fun g h h2=>bn dk.o.row cg.o ai g h h2.symm);obtain⟨_,_,bm,-,-,aT⟩:=bW.aD bg ai bh;injection bm with Z cl cm;subst Z;clear cl cm;obtain⟨b,off,cW,fV,aE⟩:=aT.get aa;have bj:=aE i aa 0 aa;have x1:=aE i aa 1 aa;have x2:=aE i aa 2 aa;simp only[dw,fI,dz,dI]at bj x1 x2;have gm:(bT R).take (i+1)=(bT R).take i++[R[i].1]:=by
     have h:i<(bT R).length:=by unfold bT;simp;omega
     rw[ik h];simp[bT]
    have fm:=af gm;subst cW;clear aE aT gm bh;generalize R[i]=p at*;obtain⟨a9,ba,aC⟩:=p;simp only at fm bj x1 x2;have O:=bl.o;have c8:=(aZ.1 O).1;obtain⟨am,an,rfl⟩:=fH b0.o
    go_upto_region 13 with fail
    obtain⟨w6,bp⟩:∃w6,w6=wr.alloc (.cells #[ae a9,ae ba,au aC] 29):=⟨_,rfl⟩;have ap:Below wr.heap.size wr w6:=by rw[bp];exact(aJ _ _).alloc (aB _) _
    have cB:w6.heap[wr.heap.size]? =some (.cells #[ae a9,ae ba,au aC] 29 (0,0)):=by rw[bp];exact bV wr _
    have b6:=(ap.block tb c8).trans O;have hh:=cb.o.size;have hj:=ap.size;have eo:=ah (w:=w6) (ad:=(ag tb 1)) (v:=.slice am i an) (aF b6);have ep:=ah (w:=w6) (ad:=(ag wr.heap.size 0)) (v:=.int .i64 a9) (aF cB);have eg:=af (ak b0.o ap);have cI:Hid (ay (fun k=>k=tb) w4 w6):=cb.o.below ap;have cP:=af b6;rw[<-bp];clear bp ap cB b6 O bj x1 x2;refine ax (fun W=>∃p:aS w6,W=p.W) [8,9,10,11] [(0,false),(1,false),(2,false),(3,false),(4,true),(5,false),(6,true)] ⟨⟨_,(aJ _ _).drew⟩,rfl⟩ 5 ?_;refine aH 7 rfl fun K f=>?_;go_simp;refine f _ _ (fun _ _=>⟨⟨_,(aJ _ w6).alloc (aB _) _|>.drew⟩,rfl⟩) ?_;clear f K;refine aH 8 rfl fun K f=>?_;refine bD zV w4.heap.size (w:=(w6.alloc (.cells #[ae a9] 2)).drew) (ak eg.o ((aJ _ w6).alloc (aB _) _|>.drew)) [.int .i64 a9] rfl (by simp[Value.oneCell']) rfl (.tmp 60) (.tmp 63) rfl rfl w6.heap.size rfl (kY _ _) dJ aa aG ?_;intro ar aq H eI f0 hL h0;refine f _ _ (fun _ h=>absurd aA h) ?_;clear f K;refine aI [9,10,11] ?_;have c5:w6.grownBy H (Value.slice am i an).ownBlock:=dR (bM ((aJ _ w6).alloc (aB _) _|>.drew)) f0;have bc:ay (fun k=>(Value.slice am i an).ownBlock=some k) w6 H:=(ay.refl _ w6).grown c5 (fun k al=>.inl al);have eS:∀g,(Value.slice am i an).ownBlock=some g->w4.heap.size<=g:=fun g h=>(eg.o.lt g h).1;have dM:=bq bc cP.o (fun h=>by have:=eS tb h;omega);have gp:H.cell? (ag tb 1)=some (.slice am i an):=aF dM;have f8:H.frozen? (ag tb 1)=false:=aF dM;have bb:Hid ((H.setCell (ag tb 1) (az ar (i+1) aq)).heap[tb]? =some (wW (.slice (some (ag b off)) n P) (az ar (i+1) aq) N fb Q (aL) (aL) n)):=di H tb 1 _ _ _ dM;have cj:Hid ((H.setCell (ag tb 1) (az ar (i+1) aq)).ownsRow w4.heap.size 2 1 (az ar (i+1) aq) (i+1) (((bT R).take (i+1)).map (Value.int .i64))):=by
     have Y:=aR (S:=fun k=>k=tb) eI ((ay.refl (fun k=>k=tb) H).set (a:=(ag tb 1)) (az ar (i+1) aq) (.inl rfl)) (fun g h h2=>by have:=(eI.lt g h).1;omega);show World.ownsRow _ _ _ _ _ _ _;rw[fm.o,bL];exact Y
    have gy:Hid (ay (fun k=>k=tb) w4 (H.setCell (ag tb 1) (az ar (i+1) aq))):=((cI.o.mono (S':=fun k=>k=tb\/w4.heap.size<=k) (fun k h=>.inl h)).trans (bc.mono (fun k h=>.inr (eS k h)))).strip.set (a:=(ag tb 1)) _ (.inl rfl);clear bc c5 f0 eI dM eo ep eg cP cI eS;go_wp2
    go_roundg (n-(i+1))
    case measure=>omega
    case rel=>exact⟨i+1,_,by go_num,aa,aB _,bb,cj,gy⟩
   .obtain rfl:i=n:=aa;have fM:vJ wr w.heap.size fb i (.slice T i P) N Q ab R:=dk.o.kept cb.o (fun k B h2=>by subst h2;exact⟨_,_,_,cg.o,ai,ai,ai,ai⟩);have er:Below w.heap.size w wr:=dc.o.trans (cb.o.toBelow dc.o.size (fun k h=>aa));have dy:=b0.o;rw[jK (by unfold bT;simp;omega)]at dy;have b9:=af er;have cf:=af fM;have a8:=er.size;have fk:=af (bI dy dc.o.size);obtain⟨am,an,rfl⟩:=fH dy;clear er fM dy cb b0 dc dk cg ck cy;have cy:=(aZ.1 bl.o).1;have ha:=@run_makeMap prog
    go_upto_region 16 with fail
    obtain⟨U,dK⟩:∃U,U=wr.heap.size:=⟨_,rfl⟩;obtain⟨bi,cX⟩:∃bi,bi=wr.alloc (.map #[] 0):=⟨_,rfl⟩;have c4:Below wr.heap.size wr bi:=by rw[cX];exact(aJ _ _).alloc (aB _) _
    have dg:Hid (∃D:DataW Unit,bi.ownsMap prog 27 (plainElem prog 3) U 0 D/\nO D R 0):=by rw[cX,dK];exact⟨.map [],xU _ _ _ _,[],IsM.empty _ _⟩
    have eO:=(c4.block tb cy).trans bl.o;have fi:=af eO;have dn:Hid (vJ bi w.heap.size fb i (.slice T i P) N Q ab R):=cf.o.kept ((ay.refl (fun _=>False) wr).below c4) (fun k _ h=>h.elim);have fo:=af (ak fk.o c4);have d7:Hid (Below w.heap.size w bi):=b9.o.trans (c4.mono a8);have h6:w.heap.size<=U/\U<bi.heap.size/\tb<U:=by rw[cX,dK];simp;omega
    have ck:bi.cell? (ag tb 0)=some (.slice T i P):=aF eO;rw[<-cX,<-dK];clear cX dK c4 eO bl cf fk b9 a8 cy ha
    go_wp2_with fail
    go_loopg [74] i (fun b7 hy wr=>∃(j:Nat),hy=.int .i64 j/\j<=i/\i-j<=b7/\Hid (ay (fun k=>k=U) bi wr)/\Hid (∃D:DataW Unit,wr.ownsMap prog 27 (plainElem prog 3) U j D/\nO D R j))
    case atStart=>exact⟨0,rfl,aY _,aa,ay.refl _ _,dg.o⟩
    case round=>
     obtain⟨j,rfl,aN,hW,bw,df⟩:=hrel;by_cases hT:j<i
     .have bh:=aR dn.o.row bw.o (fun g h h2=>by
       subst h2;obtain⟨em,ek,gc,-⟩:=dg.o.choose_spec.1;rcases dn.o.row.2 with⟨x,-⟩|⟨hI,cU,cV,x,-,aM,-⟩
       .rw[x]at h;cases h
       .rw[x]at h;injection h with h;subst h;rw[aM]at gc;cases gc)
      obtain⟨_,_,bm,-,-,aT⟩:=bW.aD bg ai bh;injection bm with Z cl cm;subst Z;clear cl cm;obtain⟨b,off,cW,fV,aE⟩:=aT.get aa;have bj:=aE j aa 0 aa;have x1:=aE j aa 1 aa;have x2:=aE j aa 2 aa;simp only[dw,fI,dz,dI]at bj x1 x2;have g6:j<R.length:=aa;have ga:Hid (keyOf prog 27 (.int .u32 R[j].2.2)=some (.int .u32 R[j].2.2)):=yn underlying27 (fj.o _ (bF _));obtain⟨D,gf,fA⟩:=df.o;have d8:=af (fA.put g6);have h7:=bw.o.size;subst cW;clear aE aT bh fA df;generalize R[j]=p at*;obtain⟨a9,ba,aC⟩:=p;simp only at d8 ga bj x1 x2;have ge:=gf.kept (qR wr (.cells #[ae a9,ae ba,au aC] 29) none) aA
      go_wp2_with (at_mapUpdate;refine xO _ rfl _ _ _ 26 rfl 27 3 (int_keyed underlying27) underlying26 _ U j _ rfl ge dJ _ _ _ rfl rfl ga.o _ [] (ve underlying3 (by simp[Lit.wf,IntKind.min,IntKind.max,IntKind.bits,IntKind.signed];omega)) ?_;intro w3 gg f3)
      have gx:Hid (ay (fun k=>k=U) bi w3):=((bw.o.alloc _).grown f3 (fun k h=>.inl (by injection h with h;exact h.symm)));have gz:Hid (∃D:DataW Unit,w3.ownsMap prog 27 (plainElem prog 3) U (j+1) D/\nO D R (j+1)):=⟨_,gg,d8.o⟩;clear gg f3 ge gf d8;go_wp2
      go_roundg (i-(j+1))
      case measure=>omega
      case rel=>exact⟨j+1,by go_num,aa,aB _,gx,gz⟩
     .obtain rfl:j=i:=aa;obtain⟨hB,⟨hH,hG,eF,-⟩,-⟩:=dg.o;have cf:=af (dn.o.UG bw.o eF);have b0:=af (Ov fo.o bw.o eF);have bl:Hid (wr.heap[tb]? =_):=bq bw.o fi.o (fun h=>aa);have b9:Hid (Below w.heap.size w wr):=d7.o.trans (bw.o.toBelow d7.o.size (fun k h=>aa));obtain⟨D,eu,fJ⟩:=df.o;have fe:=af eu;have gB:=af fJ;have a8:=b9.o.size;have he:U<wr.heap.size:=by
       obtain⟨em,ek,aM,-⟩:=eu;exact(aZ.1 aM).1
      obtain⟨_,_,bm,-,-,aT⟩:=bW.aD bg ai cf.o.row;injection bm with Z cl cm;subst Z;clear cl cm;have e0:=af (oQ T R j P wr cq aT aa);have c8:=(aZ.1 bl.o).1;have O:=bl.o;have ck:wr.cell? (ag tb 0)=some (.slice T j P):=aF O;clear O aT eF eu fJ df dn fo fi d7 dg bw
      go_wp2_with fail
      refine e0.o.mono ?_;rintro e ih ⟨dT,rfl,dF,fU⟩;have e3:=af (LY cq aa dF dl.o.2);have e9:=af dF;have d5:=af fU;obtain⟨I,g2,rfl⟩:=fH dF;clear dF fU e0
      go_wp2_with fail
      refine e3.o.mono ?_;rintro e H ⟨rfl,f4,f7⟩;have bK:Below wr.heap.size wr H:=d5.o.trans (f7.toBelow d5.o.size (fun k h=>(e9.o.lt k h).1));have gv:=af bK;have fa:=af f4;have eb:Hid (vJ H w.heap.size fb j (.slice T j P) N Q ab R):=cf.o.kept ((ay.refl (fun _=>False) wr).below bK) (fun k _ h=>h.elim);have fl:=af (ak b0.o bK);have ch:Hid (H.heap[tb]? =some (wW (.slice T j P) (.slice am j an) N fb Q (aL) (aL) j)):=(bK.block tb c8).trans bl.o;have ff:Hid (H.ownsMap prog 27 (plainElem prog 3) U j D):=wV fe.o (bK.block U he);have cG:Hid (Below w.heap.size w H):=b9.o.trans (bK.mono a8);have h9:=bK.size;obtain⟨aw,nc,rfl⟩:=fH eb.o.je;have fG:=dh j;have h4:=Ou (aW j).length aa;generalize gZ:(aW j).length=d at*;have gA:Hid (d=2*j-1):=fG;have hJ:d<=40000:=aa;clear fG;clear f7 bK f4 e3 cf b0 bl fe b9 e9 d5 gv ck;have O:=ch.o;have cA:tb<H.heap.size:=aa;have fu:H.cell? (ag tb 4)=some (.slice aw d nc):=aF O;have be:Below H.heap.size H (H.alloc (.cells (madeCells #[aL,aL] (d*2)) 150)):=(aJ _ _).alloc (aB _) _;have gN:(H.alloc (.cells (madeCells #[aL,aL] (d*2)) 150)).cell? (ag tb 5)=some (aL):=(be.cell (p:=(ag tb 5)) cA).trans (aF O);have hA:(H.alloc (.cells (madeCells #[aL,aL] (d*2)) 150)).frozen? (ag tb 5)=false:=(be.frozen (p:=(ag tb 5)) cA).trans (aF O);have gi:=(be.block tb cA).trans O;have gw:=af be;have gF:=af gi;clear be gi O
      go_upto_region 24 with fail
      obtain⟨gl,dE⟩:∃gl,gl=H.heap.size:=⟨_,rfl⟩;obtain⟨u,co⟩:∃u,u=(H.setCell (ag tb 5) (az H.heap.size d d)).alloc (.cells (madeCells #[aL,aL] (d*2)) 150):=⟨_,rfl⟩;have b2:ay (fun k=>k=tb) H u:=by rw[co];exact((ay.refl (fun k=>k=tb) H).set (a:=(ag tb 5)) _ (.inl rfl)).alloc _
      have fR:u.heap[tb]? =some (wW (.slice T j P) (.slice am j an) N fb (.slice aw d nc) (az gl d d) (aL) j):=by rw[co,dE];exact(bR _ _ _ (aQ cA)).trans (di H tb 5 _ _ _ ch.o)
      have fE:cK u w.heap.size gl d d (fun _=>aL) (fun _=>aL):=by
       have h:=L8 (H.setCell (ag tb 5) (az H.heap.size d d)) w.heap.size d (by simp;exact cG.o.size) aa;rw[co,dE];simpa using h
      have hM:gl<u.heap.size/\tb<gl/\w.heap.size<=gl:=by rw[co,dE];simp;exact⟨cA,cG.o.size⟩
      have fC:Else H (fun k=>k=tb):=fun k B h2=>by subst h2;exact⟨_,_,_,ch.o,ai,ai,ai,ai⟩
      have fN:vJ u w.heap.size fb j (.slice T j P) N (.slice aw d nc) ab R:=eb.o.kept b2 fC;have ex:u.ownsRow w.heap.size 2 1 (.slice am j an) j ((bT R).map (Value.int .i64)):=oZ fl.o b2 (fun k B h2=>by subst h2;exact⟨_,_,_,ch.o,ai⟩);have fD:u.ownsRow wr.heap.size 29 3 (.slice I j g2) j ((kz R).flatMap dw):=oZ fa.o b2 (fun k B h2=>by subst h2;exact⟨_,_,_,ch.o,ai⟩);have fF:u.ownsMap prog 27 (plainElem prog 3) U j D:=wV ff.o (b2.block U aa aa);have fx:Below w.heap.size w u:=cG.o.trans (b2.toBelow cG.o.size (fun k h=>aa));have bb:=af fR;have bZ:=af fE;have ec:=af fN;have cj:=af ex;have de:=af fD;have ea:=af fF;have d6:=af fx;have hc:=bb.o;have ia:=b2.size;have hf:U<u.heap.size:=aa;have gn:∀g,(Value.slice am j an).ownBlock=some g->g<u.heap.size:=fun g h=>(ex.lt g h).2;have gI:=af gn;clear hc gn;rw[<-co];clear co dE b2 fR fE fC fN ex fD fF fx ch eb fl fa ff cG gw gF fu gN hA cA;obtain⟨b1,c2⟩:∃b1,b1=decide (0<j):=⟨_,rfl⟩;have hr:decide ((j:Int)>0)=b1:=by rw[c2];simp
      have hs:decide ((0:Int)<(j:Int))=b1:=by rw[c2];simp
      have ht:decide (0<j)=b1:=c2.symm;have e6:=af c2;clear c2
      go_upto_if 102 with fail
      clear hr hs ht
      go_cut []from 12 (fun bu=>∃(yv:Value) (LN:Nat->Value),Hid (bu.heap[tb]? =some (wW (.slice T j P) (.slice am j an) N fb (.slice aw d nc) (az gl d d) yv j))/\Hid (bu.ownsRow u.heap.size 2 1 yv j ((jo R (dS R)).map (Value.int .i64)))/\Hid (cK bu w.heap.size gl d d LN (fun _=>aL))/\Hid (ay (fun k=>k=tb\/k=gl) u bu)/\
       Hid (∀k,k<d->k≠2*j-2->LN k=aL)/\Hid (0<j->bu.ownsRow u.heap.size 27 1 (LN (2*j-2)) j (((dS R).map (jJ R)).map (Value.int .u32))))
      case first=>
       by_cases f6:j=0
       .obtain rfl:b1=false:=by rw[e6.o];simp;omega
        have g0:R=[]:=gV aa;have hq:jo R (dS R)=[]:=by subst g0;simp[jo,dS,kz]
        have fc:=af f6;clear f6;go_wp2;go_meet;refine⟨aL,fun _=>aL,bb.o,?_,bZ.o,ay.refl _ _,fun _ _ _=>rfl,fun h=>absurd fc.o aa⟩;show World.ownsRow _ _ _ _ _ _ _;rw[hq,fc.o];exact dA _ _ _ _
       .obtain rfl:b1=true:=by rw[e6.o];simp;omega
        have cp:2*j-2<d:=by have:=gA.o;omega
        obtain⟨A,eM⟩:∃A,A=2*j-2:=⟨_,rfl⟩;have ed:=af eM;rw[<-eM]at cp;clear eM
        go_wp2_with fail
        go_loopg [105] j (fun b7 hv wr=>∃(i:Nat) (yv vr:Value),hv=.int .i64 i/\i<=j/\j-i<=b7/\Hid (wr.heap[tb]? =some (wW (.slice T j P) (.slice am j an) N fb (.slice aw d nc) (az gl d d) yv j))/\Hid (wr.ownsRow u.heap.size 2 1 yv i (((jo R (dS R)).take i).map (Value.int .i64)))/\
         Hid (cK wr w.heap.size gl d d (upd (fun _=>aL) A vr) (fun _=>aL))/\Hid (wr.ownsRow u.heap.size 27 1 vr i ((((dS R).take i).map (jJ R)).map (Value.int .u32)))/\Hid (ay (fun k=>k=tb\/k=gl) u wr))
        case atStart=>
         refine⟨0,aL,aL,rfl,aY _,aa,bb.o,dA _ _ _ _,?_,dA _ _ _ _,ay.refl _ _⟩;show cK _ _ _ _ _ _ _;rw[Jj _ A _ rfl];exact bZ.o
        case round=>
         obtain⟨i,yv,vr,rfl,hi,hX,ee,ds,d9,dq,cH⟩:=hrel;by_cases hQ:i<j
         .have bh:=aR de.o cH.o (fun g h h2=>by
           rcases h2 with h2|h2
           .exact bn de.o bb.o ai g h h2.symm
           .subst h2;exact bA bZ.o de.o ai g rfl h)
          obtain⟨_,_,bm,-,-,aT⟩:=bW.aD bg ai bh;injection bm with gP gQ gR;subst gP;clear gQ gR;have hK:(kz R).length=j:=by rw[(ja R).length_eq];exact cq
          obtain⟨b,off,cW,fV,aE⟩:=aT.get aa;have bj:=aE i aa 0 aa;have x1:=aE i aa 1 aa;have x2:=aE i aa 2 aa;simp only[dw,fI,dz,dI]at bj x1 x2;have eH:i<(dS R).length:=by rw[jW];omega
          have eK:=QR eH;have go:(jo R (dS R)).take (i+1)=(jo R (dS R)).take i++[((kz R)[i]'aa).2.1]:=by
           have h:i<(jo R (dS R)).length:=by unfold jo;simp;exact eH
           rw[ik h];simp only[jo,fO,lG,eK]
          have gd:((dS R).take (i+1)).map (jJ R)=((dS R).take i).map (jJ R)++[((kz R)[i]'aa).2.2]:=by
           rw[ik eH,bL];simp only[l6,pX,jJ,eK]
          have fp:=af go;have dj:=af gd;subst cW;clear aE aT go gd bh eK;generalize(kz R)[i]'aa=p at*;obtain⟨a9,ba,aC⟩:=p;simp only at fp dj bj x1 x2;have O:=ee.o;have c8:=(aZ.1 O).1;obtain⟨cC,cD,rfl⟩:=fH ds.o;obtain⟨C,E,rfl⟩:=fH dq.o
          go_upto_region 28 with fail
          obtain⟨bv,eT⟩:∃bv,bv=wr.heap.size:=⟨_,rfl⟩;obtain⟨w6,bp⟩:∃w6,w6=wr.alloc (.cells #[ae a9,ae ba,au aC] 29):=⟨_,rfl⟩;have ap:Below wr.heap.size wr w6:=by rw[bp];exact(aJ _ _).alloc (aB _) _
          have cB:w6.heap[bv]? =some (.cells #[ae a9,ae ba,au aC] 29 (0,0)):=by rw[bp,eT];exact bV wr _
          have b6:=(ap.block tb c8).trans O;have hh:=cH.o.size;have hj:=ap.size;have ie:u.heap.size<=bv:=aa;have eo:=ah (w:=w6) (ad:=(ag tb 6)) (v:=.slice cC i cD) (aF b6);have ep:=ah (w:=w6) (ad:=(ag bv 1)) (v:=.int .i64 ba) (aF cB);have cS:=af (ak ds.o ap);have dr:=af (ak dq.o ap);have fd:Hid (cK w6 w.heap.size gl d d (upd (fun _=>aL) A (.slice C i E)) (fun _=>aL)):=ak d9.o ap;have cI:Hid (ay (fun k=>k=tb\/k=gl) u w6):=cH.o.below ap;have cP:=af b6;have eh:=af cB;rw[<-bp,<-eT];clear bp ap cB b6 O bj x1 x2 eT ds dq d9 cH ee;refine ax (fun W=>∃p:aS w6,W=p.W) [8,9,10,11] [(0,false),(1,false),(2,false),(3,false),(4,true),(5,false),(6,true)] ⟨⟨_,(aJ _ _).drew⟩,rfl⟩ 5 ?_;refine aH 7 rfl fun K f=>?_;go_simp;refine f _ _ (fun _ _=>⟨⟨_,(aJ _ w6).alloc (aB _) _|>.drew⟩,rfl⟩) ?_;clear f K;refine aH 8 rfl fun K f=>?_;refine bD zV u.heap.size (w:=(w6.alloc (.cells #[ae ba] 2)).drew) (ak cS.o ((aJ _ w6).alloc (aB _) _|>.drew)) [.int .i64 ba] rfl (by simp[Value.oneCell']) rfl (.tmp 113) (.tmp 116) rfl rfl w6.heap.size rfl (kY _ _) dJ aa aG ?_;intro ar aq bX eJ f1 g1 g8;refine f _ _ (fun _ h=>absurd aA h) ?_;clear f K;refine aI [9,10,11] ?_;have c5:w6.grownBy bX (Value.slice cC i cD).ownBlock:=dR (bM ((aJ _ w6).alloc (aB _) _|>.drew)) f1;have bc:ay (fun k=>(Value.slice cC i cD).ownBlock=some k) w6 bX:=(ay.refl _ w6).grown c5 (fun k al=>.inl al);have dV:∀g,(Value.slice cC i cD).ownBlock=some g->u.heap.size<=g:=fun g h=>(cS.o.lt g h).1;have dN:=bq bc cP.o (fun h=>by have:=dV tb h;omega);have gp:bX.cell? (ag tb 6)=some (.slice cC i cD):=aF dN;have f8:bX.frozen? (ag tb 6)=false:=aF dN;obtain⟨y,dx⟩:∃y,y=bX.setCell (ag tb 6) (az ar (i+1) aq):=⟨_,rfl⟩;have cx:ay (fun k=>k=tb) bX y:=by rw[dx];exact(ay.refl (fun k=>k=tb) bX).set (a:=(ag tb 6)) _ (.inl rfl)
          have eN:y.heap[tb]? =some (wW (.slice T j P) (.slice am j an) N fb (.slice aw d nc) (az gl d d) (az ar (i+1) aq) j):=by rw[dx];exact di bX tb 6 _ _ _ dN
          have aX:Hid (y.ownsRow u.heap.size 2 1 (az ar (i+1) aq) (i+1) (((jo R (dS R)).take (i+1)).map (Value.int .i64))):=by
           have Y:=aR (S:=fun k=>k=tb) eJ cx (fun g h h2=>by have:=(eJ.lt g h).1;omega);show World.ownsRow _ _ _ _ _ _ _;rw[fp.o,bL];exact Y
          have fS:y.ownsRow u.heap.size 27 1 (.slice C i E) i ((((dS R).take i).map (jJ R)).map (Value.int .u32)):=aR (S:=fun k=>k=tb) (aR (S:=fun k=>(Value.slice cC i cD).ownBlock=some k) dr.o bc (fun g h h2=>bA dr.o cS.o ai g h h2)) cx (fun g h h2=>by have:=(dr.o.lt g h).1;omega);have c0:cK y w.heap.size gl d d (upd (fun _=>aL) A (.slice C i E)) (fun _=>aL):=(cK.kept fd.o bc (fun h=>by have:=dV gl h;omega)).kept cx aa;have bx:Hid (ay (fun k=>k=tb\/k=gl) u y):=(((cI.o.mono (S':=fun k=>(k=tb\/k=gl)\/u.heap.size<=k) (fun k h=>.inl h)).trans (bc.mono (fun k h=>.inr (dV k h)))).strip).trans (cx.mono (fun k h=>.inl h));have dU:y.heap[bv]? =some (.cells #[ae a9,ae ba,au aC] 29 (0,0)):=bq cx (bq bc eh.o (fun h=>bn cS.o eh.o ai bv h rfl)) aa;have a4:=af fS;have cc:=af c0;have ci:=af eN;have ib:=bx.o.size;clear bc c5 f1 eJ dN eo ep cS cP cI dV dr fd eh cx fS g1 g8
          go_upto_region 29 with fail
          rw[<-dx];clear dx gp f8;have av:∀g,(Value.slice C i E).ownBlock=some g->u.heap.size<=g:=fun g h=>(a4.o.lt g h).1;have dW:∀{bk o:Nat} {v:Value},bk<y.heap.size->¬(Value.slice C i E).ownBlock=some bk->y.cell? (ag bk o)=some v->∀p:wH (fun k=>(Value.slice C i E).ownBlock=some k) y,p.W.cell? (ag bk o)=some v:=fun c1 hd dT p=>((cz p.h c1 hd).1 _).trans dT;have eU:=dW (bk:=tb) (o:=5) (v:=az gl d d) aa (fun h=>by have:=av tb h;omega) (aF eN);have eV:=dW (bk:=bv) (o:=2) (v:=.int .u32 aC) (aZ.1 dU).1 (fun h=>bn a4.o dU ai bv h rfl) (aF dU);have eW:=dW (bk:=gl) (o:=A*2) (v:=.slice C i E) aa (fun h=>by have:=av gl h;omega) ((c0.get cp).1.trans (by rw[upd_same]));have b8:=(c0.get cp).1;rw[upd_same]at b8;have f9:=c0.frozenAt (A*2);have eD:gl<y.heap.size:=aa;have cE:Hid (∀W,ay (fun k=>(Value.slice C i E).ownBlock=some k) y W->aK 95 #[aj fb] W fun e w'=>e=.returned (ae (A:Nat))/\w'=W):=fun W c1=>by
           have dD:=ec.o.iH.blk;have fY:=(aZ.1 dD).1;have g4:=bq bx.o dD (fun h=>by
            rcases h with h|h
            .subst h;have Y:=dD.symm.trans bb.o;injection Y with Y;injection Y with _ Y _;exact absurd Y ai
            .subst h;exact bn bZ.o dD ai fb rfl rfl)
           have fW:=bq c1 g4 (fun h=>by have:=av fb h;omega);have h:=jA fb j aa aa W (aF fW) (aF fW);rw[<-ed.o]at h;exact h
          clear eN dU c0 dW;refine ax (fun W=>∃p:wH (fun k=>(Value.slice C i E).ownBlock=some k) y,W=p.W) [19,20,21] [(0,false),(1,false),(2,false),(3,true),(4,false),(6,false),(7,false),(8,false),(9,true),(10,false),(15,false),(16,true)] ⟨⟨_,(ay.refl _ _).drew⟩,rfl⟩ 10 ?_;refine iU 5 17 rfl rfl (fun K f=>?_) (fun K f=>?_)
          .
           refine bf mD rfl _ _ rfl (vals:=#[aj fb]) rfl (cE.o _ ((ay.refl (fun k=>(Value.slice C i E).ownBlock=some k) y).drew)) ?_;rintro e w' ⟨rfl,bo⟩;subst bo;refine⟨_,rfl,f _ _ (fun h _=>h) ?_⟩;clear f K;refine iU 11 17 rfl rfl (fun K f=>?_) (fun K f=>?_)
           .refine bf mD rfl _ _ rfl (vals:=#[aj fb]) rfl (cE.o _ ((ay.refl (fun k=>(Value.slice C i E).ownBlock=some k) y).drew)) ?_;rintro e w' ⟨rfl,bo⟩;subst bo;refine⟨_,rfl,f _ _ (fun h _=>h) ?_⟩;clear f K;refine bz [(12,false),(13,false),(14,true)] ⟨⟨_,((ay.refl (fun k=>(Value.slice C i E).ownBlock=some k) y).drew)⟩,rfl⟩ rfl ?_;refine aH 17 rfl fun K f=>?_;go_simp;refine f _ _ (fun _ _=>⟨⟨_,(((ay.refl (fun k=>(Value.slice C i E).ownBlock=some k) y).alloc _).drew)⟩,rfl⟩) ?_;clear f K;refine aH 18 rfl fun K f=>?_;refine bD um u.heap.size (w:=(y.alloc (.cells #[au aC] 27)).drew) (ak a4.o ((aJ _ y).alloc (aB _) _|>.drew)) [.int .u32 aC] rfl (by simp[Value.oneCell']) rfl (.tmp 134) (.tmp 137) rfl rfl y.heap.size rfl (kY _ _) dJ aa aG ?_;intro M L G a7 bO c3 c7;have bN:y.grownBy G (Value.slice C i E).ownBlock:=dR (bM ((aJ _ y).alloc (aB _) _|>.drew)) bO;have X:ay (fun k=>(Value.slice C i E).ownBlock=some k) y G:=(ay.refl _ y).grown bN (fun k al=>.inl al);refine f _ _ (fun _ _=>⟨⟨_,X⟩,rfl⟩) ?_;clear f K;refine aI [19,20,21] ?_;have bP:¬(Value.slice C i E).ownBlock=some gl:=fun h=>by have:=av gl h;omega
            obtain⟨bB,bC⟩:=cz X eD bP;have gq:=(bB (A*2)).trans b8;have fv:=(bC (A*2)).trans f9;have ao:ay (fun k=>k=gl) G (G.setCell (ag gl (A*2)) (az M (i+1) L)):=(ay.refl (fun k=>k=gl) G).set (a:=(ag gl (A*2))) _ (.inl rfl);have cQ:Hid ((G.setCell (ag gl (A*2)) (az M (i+1) L)).heap[tb]? =some (wW (.slice T j P) (.slice am j an) N fb (.slice aw d nc) (az gl d d) (az ar (i+1) aq) j)):=bq ao (bq X ci.o (fun h=>by have:=av tb h;omega)) aa;have cT:Hid ((G.setCell (ag gl (A*2)) (az M (i+1) L)).ownsRow u.heap.size 2 1 (az ar (i+1) aq) (i+1) (((jo R (dS R)).take (i+1)).map (Value.int .i64))):=aR (S:=fun k=>k=gl) (aR (S:=fun k=>(Value.slice C i E).ownBlock=some k) aX.o X (fun g h h2=>bA a4.o aX.o ai g h2 h)) ao (fun g h h2=>by have:=(aX.o.lt g h).1;omega);have cN:Hid (cK (G.setCell (ag gl (A*2)) (az M (i+1) L)) w.heap.size gl d d (upd (fun _=>aL) A (az M (i+1) L)) (fun _=>aL)):=by
             have h:=(cK.kept cc.o X bP).Br cp (az M (i+1) L);rwa [tL]at h
            have cR:Hid ((G.setCell (ag gl (A*2)) (az M (i+1) L)).ownsRow u.heap.size 27 1 (az M (i+1) L) (i+1) ((((dS R).take (i+1)).map (jJ R)).map (Value.int .u32))):=by
             have h:=aR (S:=fun k=>k=gl) a7 ao (fun g h h2=>by have:=(a7.lt g h).1;omega);show World.ownsRow _ _ _ _ _ _ _;rw[dj.o,bL];exact h
            have cJ:Hid (ay (fun k=>k=tb\/k=gl) u (G.setCell (ag gl (A*2)) (az M (i+1) L))):=(((bx.o.mono (S':=fun k=>(k=tb\/k=gl)\/u.heap.size<=k) (fun k h=>.inl h)).trans (X.mono (fun k h=>.inr (av k h)))).strip).trans (ao.mono (fun k h=>.inr h));clear bB bC X ao bN bO a7 eU eV eW b8 f9 a4 cc ci aX bx av c3 c7;go_wp2
            go_roundg (j-(i+1))
            case measure=>omega
            case rel=>exact⟨i+1,_,_,by go_num,aa,aB _,cQ,cT,cN,cR,cJ⟩
           .go_simp;refine f _ _ (fun _ _=>⟨⟨_,(((ay.refl (fun k=>(Value.slice C i E).ownBlock=some k) y).alloc _).drew)⟩,rfl⟩) ?_;clear f K;refine aH 11 rfl fun K f=>?_;refine bf mD rfl _ _ rfl (vals:=#[aj fb]) rfl (cE.o _ (((ay.refl (fun k=>(Value.slice C i E).ownBlock=some k) y).alloc _).drew)) ?_;rintro e w' ⟨rfl,bo⟩;subst bo;refine⟨_,rfl,f _ _ (fun h _=>h) ?_⟩;clear f K;refine bz [(12,false),(13,false),(14,true)] ⟨⟨_,(((ay.refl (fun k=>(Value.slice C i E).ownBlock=some k) y).alloc _).drew)⟩,rfl⟩ rfl ?_;refine aH 18 rfl fun K f=>?_;refine bD um u.heap.size (w:=(y.alloc (.cells #[au aC] 27)).drew) (ak a4.o ((aJ _ y).alloc (aB _) _|>.drew)) [.int .u32 aC] rfl (by simp[Value.oneCell']) rfl (.tmp 134) (.tmp 137) rfl rfl y.heap.size rfl (kY _ _) dJ aa aG ?_;intro M L G a7 bO c3 c7;have bN:y.grownBy G (Value.slice C i E).ownBlock:=dR (bM ((aJ _ y).alloc (aB _) _|>.drew)) bO;have X:ay (fun k=>(Value.slice C i E).ownBlock=some k) y G:=(ay.refl _ y).grown bN (fun k al=>.inl al);refine f _ _ (fun _ _=>⟨⟨_,X⟩,rfl⟩) ?_;clear f K;refine aI [19,20,21] ?_;have bP:¬(Value.slice C i E).ownBlock=some gl:=fun h=>by have:=av gl h;omega
            obtain⟨bB,bC⟩:=cz X eD bP;have gq:=(bB (A*2)).trans b8;have fv:=(bC (A*2)).trans f9;have ao:ay (fun k=>k=gl) G (G.setCell (ag gl (A*2)) (az M (i+1) L)):=(ay.refl (fun k=>k=gl) G).set (a:=(ag gl (A*2))) _ (.inl rfl);have cQ:Hid ((G.setCell (ag gl (A*2)) (az M (i+1) L)).heap[tb]? =some (wW (.slice T j P) (.slice am j an) N fb (.slice aw d nc) (az gl d d) (az ar (i+1) aq) j)):=bq ao (bq X ci.o (fun h=>by have:=av tb h;omega)) aa;have cT:Hid ((G.setCell (ag gl (A*2)) (az M (i+1) L)).ownsRow u.heap.size 2 1 (az ar (i+1) aq) (i+1) (((jo R (dS R)).take (i+1)).map (Value.int .i64))):=aR (S:=fun k=>k=gl) (aR (S:=fun k=>(Value.slice C i E).ownBlock=some k) aX.o X (fun g h h2=>bA a4.o aX.o ai g h2 h)) ao (fun g h h2=>by have:=(aX.o.lt g h).1;omega);have cN:Hid (cK (G.setCell (ag gl (A*2)) (az M (i+1) L)) w.heap.size gl d d (upd (fun _=>aL) A (az M (i+1) L)) (fun _=>aL)):=by
             have h:=(cK.kept cc.o X bP).Br cp (az M (i+1) L);rwa [tL]at h
            have cR:Hid ((G.setCell (ag gl (A*2)) (az M (i+1) L)).ownsRow u.heap.size 27 1 (az M (i+1) L) (i+1) ((((dS R).take (i+1)).map (jJ R)).map (Value.int .u32))):=by
             have h:=aR (S:=fun k=>k=gl) a7 ao (fun g h h2=>by have:=(a7.lt g h).1;omega);show World.ownsRow _ _ _ _ _ _ _;rw[dj.o,bL];exact h
            have cJ:Hid (ay (fun k=>k=tb\/k=gl) u (G.setCell (ag gl (A*2)) (az M (i+1) L))):=(((bx.o.mono (S':=fun k=>(k=tb\/k=gl)\/u.heap.size<=k) (fun k h=>.inl h)).trans (X.mono (fun k h=>.inr (av k h)))).strip).trans (ao.mono (fun k h=>.inr h));clear bB bC X ao bN bO a7 eU eV eW b8 f9 a4 cc ci aX bx av c3 c7;go_wp2
            go_roundg (j-(i+1))
            case measure=>omega
            case rel=>exact⟨i+1,_,_,by go_num,aa,aB _,cQ,cT,cN,cR,cJ⟩
          .go_simp;refine f _ _ (fun _ _=>⟨⟨_,(((ay.refl (fun k=>(Value.slice C i E).ownBlock=some k) y).alloc _).drew)⟩,rfl⟩) ?_;clear f K;refine aH 5 rfl fun K f=>?_;refine bf mD rfl _ _ rfl (vals:=#[aj fb]) rfl (cE.o _ (((ay.refl (fun k=>(Value.slice C i E).ownBlock=some k) y).alloc _).drew)) ?_;rintro e w' ⟨rfl,bo⟩;subst bo;refine⟨_,rfl,f _ _ (fun h _=>h) ?_⟩;clear f K;refine aH 11 rfl fun K f=>?_;refine bf mD rfl _ _ rfl (vals:=#[aj fb]) rfl (cE.o _ (((ay.refl (fun k=>(Value.slice C i E).ownBlock=some k) y).alloc _).drew)) ?_;rintro e w' ⟨rfl,bo⟩;subst bo;refine⟨_,rfl,f _ _ (fun h _=>h) ?_⟩;clear f K;refine bz [(12,false),(13,false),(14,true)] ⟨⟨_,(((ay.refl (fun k=>(Value.slice C i E).ownBlock=some k) y).alloc _).drew)⟩,rfl⟩ rfl ?_;refine aH 18 rfl fun K f=>?_;refine bD um u.heap.size (w:=(y.alloc (.cells #[au aC] 27)).drew) (ak a4.o ((aJ _ y).alloc (aB _) _|>.drew)) [.int .u32 aC] rfl (by simp[Value.oneCell']) rfl (.tmp 134) (.tmp 137) rfl rfl y.heap.size rfl (kY _ _) dJ aa aG ?_;intro M L G a7 bO c3 c7;have bN:y.grownBy G (Value.slice C i E).ownBlock:=dR (bM ((aJ _ y).alloc (aB _) _|>.drew)) bO;have X:ay (fun k=>(Value.slice C i E).ownBlock=some k) y G:=(ay.refl _ y).grown bN (fun k al=>.inl al);refine f _ _ (fun _ _=>⟨⟨_,X⟩,rfl⟩) ?_;clear f K;refine aI [19,20,21] ?_;have bP:¬(Value.slice C i E).ownBlock=some gl:=fun h=>by have:=av gl h;omega
           obtain⟨bB,bC⟩:=cz X eD bP;have gq:=(bB (A*2)).trans b8;have fv:=(bC (A*2)).trans f9;have ao:ay (fun k=>k=gl) G (G.setCell (ag gl (A*2)) (az M (i+1) L)):=(ay.refl (fun k=>k=gl) G).set (a:=(ag gl (A*2))) _ (.inl rfl);have cQ:Hid ((G.setCell (ag gl (A*2)) (az M (i+1) L)).heap[tb]? =some (wW (.slice T j P) (.slice am j an) N fb (.slice aw d nc) (az gl d d) (az ar (i+1) aq) j)):=bq ao (bq X ci.o (fun h=>by have:=av tb h;omega)) aa;have cT:Hid ((G.setCell (ag gl (A*2)) (az M (i+1) L)).ownsRow u.heap.size 2 1 (az ar (i+1) aq) (i+1) (((jo R (dS R)).take (i+1)).map (Value.int .i64))):=aR (S:=fun k=>k=gl) (aR (S:=fun k=>(Value.slice C i E).ownBlock=some k) aX.o X (fun g h h2=>bA a4.o aX.o ai g h2 h)) ao (fun g h h2=>by have:=(aX.o.lt g h).1;omega);have cN:Hid (cK (G.setCell (ag gl (A*2)) (az M (i+1) L)) w.heap.size gl d d (upd (fun _=>aL) A (az M (i+1) L)) (fun _=>aL)):=by
            have h:=(cK.kept cc.o X bP).Br cp (az M (i+1) L);rwa [tL]at h
           have cR:Hid ((G.setCell (ag gl (A*2)) (az M (i+1) L)).ownsRow u.heap.size 27 1 (az M (i+1) L) (i+1) ((((dS R).take (i+1)).map (jJ R)).map (Value.int .u32))):=by
            have h:=aR (S:=fun k=>k=gl) a7 ao (fun g h h2=>by have:=(a7.lt g h).1;omega);show World.ownsRow _ _ _ _ _ _ _;rw[dj.o,bL];exact h
           have cJ:Hid (ay (fun k=>k=tb\/k=gl) u (G.setCell (ag gl (A*2)) (az M (i+1) L))):=(((bx.o.mono (S':=fun k=>(k=tb\/k=gl)\/u.heap.size<=k) (fun k h=>.inl h)).trans (X.mono (fun k h=>.inr (av k h)))).strip).trans (ao.mono (fun k h=>.inr h));clear bB bC X ao bN bO a7 eU eV eW b8 f9 a4 cc ci aX bx av c3 c7;go_wp2
           go_roundg (j-(i+1))
           case measure=>omega
           case rel=>exact⟨i+1,_,_,by go_num,aa,aB _,cQ,cT,cN,cR,cJ⟩
         .obtain rfl:i=j:=aa;have cv:=jW R;have ho:(jo R (dS R)).length=i:=by simp[jo,cv];omega
          have gJ:Hid (wr.ownsRow u.heap.size 2 1 yv i ((jo R (dS R)).map (Value.int .i64))):=by
           have h:=ds.o;rw[jK aa]at h;exact h
          have gG:Hid (wr.ownsRow u.heap.size 27 1 vr i (((dS R).map (jJ R)).map (Value.int .u32))):=by
           have h:=dq.o;rw[jK aa]at h;exact h
          clear cv ho;go_wp2;go_meet;refine⟨yv,upd (fun _=>aL) A vr,ee.o,gJ.o,d9.o,cH.o,?_,?_⟩
          .intro k al h5;exact upd_ne (by have:=ed.o;omega)
          .intro _;show World.ownsRow _ _ _ _ _ _ _;rw[<-ed.o,upd_same];exact gG.o
      case rest=>
       obtain⟨yv,fs,dp,fq,cd,cL,ca,ef⟩:=hcut;have eQ:=qD dl.o.1 dl.o.2;have gH:=af eQ;have ic:=cL.o.size;have fB:Else u (fun k=>k=tb\/k=gl):=fun k B h2=>by
        rcases h2 with h2|h2
        .subst h2;exact⟨_,_,_,bb.o,ai,ai,ai,ai⟩
        .subst h2;rcases bZ.o.2 with⟨x,-⟩|⟨g,cU,cV,x,-,aM,-⟩
         .cases x
         .injection x with x;injection x with x;injection x with x;subst x;exact⟨_,_,_,aM,ai,ai,ai,ai⟩
       have dm:=af (ec.o.kept cL.o fB);have fn:Hid (wc.ownsRow w.heap.size 2 1 (.slice am j an) j ((bT R).map (Value.int .i64))):=aR cj.o cL.o (fun g h h2=>by
        rcases h2 with h2|h2
        .exact bn cj.o bb.o ai g h h2.symm
        .subst h2;exact bA bZ.o cj.o ai g rfl h)
       have fg:Hid (wc.ownsMap prog 27 (plainElem prog 3) U j D):=wV ea.o (cL.o.block U hf (fun h=>by
        obtain⟨em,ek,aM,-⟩:=ea.o;rcases h with h|h
        .subst h;have Y:=aM.symm.trans bb.o;cases Y
        .subst h;rcases bZ.o.2 with⟨x,-⟩|⟨g,cU,cV,x,-,c6,-⟩
         .cases x
         .injection x with x;injection x with x;injection x with x;subst x;rw[aM]at c6;cases c6))
       have e7:Hid (Below w.heap.size w wc):=d6.o.trans (cL.o.toBelow d6.o.size (fun k h=>by rcases h with h|h<;>omega));have gE:Hid (yM wc u.heap.size j R (dS R) d fs (fun _=>aL)):=by
        have hg:∀t s,FT.At (aW j) t s->t.root s=2*j-2->nl (dS R) t=dS R:=fun t s I b5=>by
         have aN:=kU I;obtain⟨rfl,rfl⟩:=FT.At.unique I (jU j aN) (by rw[lu aN,b5]);have h:=eQ.top aa;rwa [cq]at h
        refine⟨fun t s I h2=>?_,fun l r q I h2=>?_,fun l r q I h2=>?_,fun k B h2=>?_,fun k B=>rfl,fun k B g h2=>?_,fun i k B h2 ac g bd bE=>?_,fun i k B h2 ac g bd bE=>by cases bd⟩
        .rcases h2 with h2|⟨l,r,q,ac,bd,bE⟩
         .rw[h2,hg t s I h2];have:=ef.o (kU I);rw[jW,cq];exact this
         .have:=ac.lt;omega
        .have aN:=kU I;have B:=FT.zx (fK aN▸I);rw[lu aN]at B;have ac:=I.left.lt;have bd:=I.right.lt;exact⟨ca.o _ aa B.1,ca.o _ aa B.2⟩
        .have:=I.lt;omega
        .omega
        .by_cases e:k=2*j-2
         .have aN:0<j:=by rw[dh]at B;omega
          subst e;exact(ef.o aN).lt g h2
         .rw[ca.o k aa e]at h2;cases h2
        .by_cases e:i=2*j-2
         .rw[ca.o k aa aa]at bE;cases bE
         .rw[ca.o i aa e]at bd;cases bd
       have O:=dp.o;have fu:wc.cell? (ag tb 4)=some (.slice aw d nc):=aF O;clear O eQ fB ec cj ea d6 de ca ef
       go_wp2_with fail
       go_loopg [15] d (fun b7 hw wr=>∃(m:Nat) (z:Int) (LN LL:Nat->Value),hw=.int .i64 z/\z+1=(m:Int)/\m<=d/\m<=b7/\Hid (cK wr w.heap.size gl d d LN LL)/\Hid (ay (fun k=>k=gl) wc wr)/\Hid (yM wr u.heap.size j R (dS R) m LN LL))
       case atStart=>exact⟨d,_,fs,_,rfl,aa,aB _,aB _,cd,ay.refl _ _,gE⟩
       case round=>
        obtain⟨m,z,LN,LL,rfl,ig,gb,hY,cM,a2,a3⟩:=hrel;have bQ:(aW j).length=d:=gZ;by_cases h1:0<m
        .obtain⟨k,rfl⟩:∃k,m=k+1:=⟨m-1,aa⟩;obtain rfl:z=(k:Int):=aa;obtain⟨t,s,I,c9⟩:=tO (j:=j) (k:=k) aa;have aN:=kU I;obtain⟨cY,cn,x,-,hN,-⟩:=aU dm.o.je aa;injection x with gS gT gU;subst gS;have O:=dp.o;have dO:tb≠gl:=aa;have ev:=bq a2.o dp.o (fun h=>dO h);have ei:wr.cell? (ag tb 4)=some (az cY (aW j).length nc):=by rw[bQ];simp[World.cell?,ev]
         have ej:wr.cell? (ag tb 5)=some (az gl (aW j).length d):=by rw[bQ];simp[World.cell?,ev]
         have f2:cY≠gl:=fun h=>bA cd.o dm.o.je ai gl rfl (by rw[<-h];rfl);have eG:bW oN 7 wr (some (ag cY 0)) (aW j):=by
          have bh:=aR dm.o.je a2.o (fun g h h2=>by have Y:=NZ h;omega);obtain⟨_,_,bm,-,-,Y⟩:=bW.aD jr ai bh;injection bm with Z cl cm;rw[<-Z]at Y;exact Y
         have fy:u.heap.size<=wr.heap.size:=by have:=a2.o.size;omega
         have es:cK wr w.heap.size gl (aW j).length d LN LL:=by rw[bQ];exact cM.o
         have e4:aK 96 #[aj tb,ae k,.map (some U)] wr fun e w'=>e=.returned (.tuple #[])/\∃du dt,cK w' w.heap.size gl d d du dt/\ay (fun k=>k=gl) wr w'/\yM w' u.heap.size j R (dS R) k du dt:=by
          cases t with
          |leaf a=>
           refine(yJ a s tb cY 0 nc gl d w.heap.size k U (aW j) LN LL wr I c9 aa ei eG ej es).mono ?_;rintro e w' ⟨rfl,vf,hm,B,h2,ac⟩;rw[bQ]at B;exact⟨rfl,LN,_,B,ac,a3.o.leaf cM.o I c9 ac fy hm h2⟩
          |node l r=>
           have ez:=a3.o.cur I aa;rw[c9]at ez;obtain⟨gM,gO,el,-,-,aT⟩:=Rd.aD ez;rw[bU]at el;have hU:=FT.wN l r s;obtain⟨gW,gX⟩:=a3.o.emp l r s I aa;have hn:∀p,p∈(dP 0 j).subs 0->p.1.wf:=fun p hp=>FT.qz _ _ (bJ 0 j aN).1 p hp;have eR:=hn _ (FT.at_mem (fK aN▸I));have eE:∀i,i∈nl (dS R) (.node l r)->i<j:=fun i hi=>by
            have:=gH.o.lt (bG.1 hi).1;omega
           have g5:=FT.Ad _ 0 (bJ 0 j aN).1 _ (FT.at_mem (fK aN▸I));have hP:(FT.node l r).hi<=(dP 0 j).hi:=g5;have hO:=(bJ 0 j aN).2.2;have hZ:l.hi<=(FT.node l r).hi:=by have:=FT.eZ r eR.2.1;have:=eR.2.2;show l.hi<=r.hi;omega
           have g7:(nl (dS R) (.node l r)).length<=(dS R).length:=gD _ _;rw[jW]at g7;have g9:wr.ownsMap prog 27 (plainElem prog 3) U j D:=wV fg.o (a2.o.block U aa (fun h=>by
            obtain⟨em,ek,aM,-⟩:=fg.o;subst h;rcases cd.o.2 with⟨x,-⟩|⟨g,cU,cV,x,-,c6,-⟩
            .cases x
            .injection x with x;injection x with x;injection x with x;subst x;rw[aM]at c6;cases c6))
           refine(yI l r s tb cY 0 nc gl d w.heap.size k (l.root s) (r.root (s+l.size)) l.hi U j (aW j) LN LL (nl (dS R) (.node l r)) (jJ R) gM gO D wr I c9 rfl rfl rfl aa aa ei eG ej es ⟨f2,dO,fun b o e=>?_⟩ el aT aa gW gX g9 (fun i hi=>?_) (fun i hi=>?_) (fun i hi=>by have:=eE i hi;omega)).mono ?_
           .intro h;subst h;exact bA cM.o ez ai b rfl (by rw[el,e];rfl)
           .obtain⟨sm,gb⟩:=gB.o;have Y:=(gb.2.2.2.2 (jJ R i)).2 (.lit (.int .i64 0));rw[Y];have eq:=BH dl.o.2 j aa i (eE i hi);have gY:placeF R j (jJ R i)=some (i:Int):=eq;rw[gY]
           .have f5:i<R.length:=by have:=eE i hi;omega
            have eq:bS R i=R[i]:=by simp[bS,f5]
            unfold jJ;rw[eq];exact fj.o _ (bF f5)
           .rintro e w' ⟨rfl,vl,vr,vf,B,h2,ac,bd,bE,cZ⟩;rw[bQ]at B;exact⟨rfl,_,_,B,cZ,a3.o.node cM.o I eR c9 cZ fy h2 ac bd bE⟩
         have e8:=af e4;clear e4 es eG ev ei ej O f2 gT gU
         go_wp2_with fail
         refine e8.o.mono ?_;rintro e w' ⟨rfl,du,dt,B,h2,ac⟩;have gs:=af B;have gt:Hid (ay (fun k=>k=gl) wc w'):=a2.o.trans h2;have gu:=af ac;clear B h2 ac e8;go_wp2
         go_roundg k
         case measure=>omega
         case rel=>exact⟨k,(k:Int)-1,du,dt,by go_num,aa,aa,aB _,gs,gt,gu⟩
        .obtain rfl:m=0:=aa;obtain rfl:z=-1:=aa;have id:=a2.o.size;have a5:vJ wr w.heap.size fb j (.slice T j P) N (.slice aw d nc) ab R:=dm.o.kept a2.o (fun k B h2=>by
          subst h2;rcases cd.o.2 with⟨x,-⟩|⟨g,cU,cV,x,-,aM,-⟩
          .cases x
          .injection x with x;injection x with x;injection x with x;subst x;exact⟨_,_,_,aM,ai,ai,ai,ai⟩)
         have ey:=aR fn.o a2.o (fun g h h2=>by subst h2;exact bA cd.o fn.o ai g rfl h);have dB:=aR fq.o a2.o (fun g h h2=>by subst h2;exact bA cd.o fq.o ai g rfl h);have dO:tb≠gl:=aa;have ew:=bq a2.o dp.o (fun h=>dO h);have fz:Below w.heap.size w wr:=e7.o.trans (a2.o.toBelow e7.o.size (fun k h=>aa));have et:=cM.o;have cv:=jW R;have e5:Hid (jE wr w.heap.size wr.heap.size tb fb R (List.replicate R.length false) (dS R) ⟨.slice T j P,.slice am j an,N,.slice aw d nc,az gl d d,yv,ab,LN,LL⟩/\Below w.heap.size w wr):=by
          have Z:R.length=j:=cq;have fY:=(aZ.1 a5.iH.blk).1;have hl:=(aZ.1 ew).1;refine⟨⟨?_,⟨hk,hl,a5.Qp,fY,aB _⟩,?_,?_,?_,?_,?_,?_,?_,?_,?_,?_,?_,?_,?_,?_,?_⟩,fz⟩
          .rw[cv,Z];exact ew
          .rw[Z];exact a5.row
          .rw[Z];exact ey
          .rw[Z];exact a5.DK
          .rw[Z];exact a5.iH
          .rw[Z,bQ];have h:=a5.je;rw[bQ]at h;exact h
          .rw[Z,bQ];exact et
          .rw[cv,Z];exact bI dB aa
          .intro t s I;rw[Z]at I;exact bI (a3.o.all I) aa
          .intro l r s I;rw[Z]at I;exact bI (a3.o.Bp l r s I (aY _)) aa
          .intro k al;rw[Z]at al;exact(a3.o.DD k al (aY _)).1
          .intro v dT g aP;rcases dT with rfl|rfl|rfl|rfl|rfl|rfl|rfl
           .exact(a5.row.lt g aP).2
           .exact(ey.lt g aP).2
           .exact(a5.DK.lt g aP).2
           .exact(a5.je.lt g aP).2
           .exact(et.lt g aP).2
           .exact(dB.lt g aP).2
           .exact(a5.iH.row.lt g aP).2
          .intro k al;rw[Z]at al;exact⟨fun g aP=>(a3.o.QS k al g aP).2,fun g aP=>((a3.o.DD k al (aY _)).2 g aP).2⟩
          .intro g aP h2;have hD:=gI.o g aP;have hE:=(dB.lt g h2).1;omega
          .intro i k B h2 ac;rw[Z]at B h2;exact a3.o.Ik i k B h2 ac
          .intro i k B h2 ac;rw[Z]at B h2;exact a3.o.Gu i k B h2 ac
         clear a5 ey dB ew fz et cv;go_wp2;go_ret2;rw[gC.o];exact⟨tb,fb,_,rfl,e5.o.1,e5.o.2⟩
end
section
open Go.RowKit Go.Sort Go.Shelf Go.Lib Go.Maps
def nC {α:Type} (f:Nat->α) (k:Nat) (v:α):Nat->α:=fun j=>if j=k then v else f j
theorem jF {α:Type} (f:Nat->α) (k:Nat) (v:α):nC f k v k=v:=by simp[nC]
theorem xh {α:Type} {f:Nat->α} {k j:Nat} {v:α} (h:j≠k):nC f k v j=f j:=by simp[nC,h]
structure gM (w:World) (lo hi tb fb:Nat) (R:List Pt) (gone:List Bool) (cnt:Nat) (yy:List Nat) (nc:Nat->List Nat) (lc:Nat->List Int) (V:yF):Prop where
 blk:w.heap[tb]? =some (wW V.rv V.xv V.gv fb V.nv V.lv V.yv cnt)
 fA:lo<=tb/\tb<hi/\lo<=fb/\fb<hi/\hi<=w.heap.size
 row:w.ownsRow lo 29 3 V.rv R.length (R.flatMap dw)
 xs:w.ownsRow lo 2 1 V.xv R.length ((bT R).map (Value.int .i64))
 DK:w.ownsRow lo 4 1 V.gv R.length (gone.map Value.bool)
 iH:nN w lo fb R.length V.fv
 je:w.ownsRow lo 163 7 V.nv (aW R.length).length ((aW R.length).flatMap oN)
 EO:w.ownsRow lo 150 2 V.lv (aW R.length).length (Oj V.LN V.LL (aW R.length).length)
 ys:w.ownsRow lo 2 1 V.yv yy.length ((jo R yy).map (Value.int .i64))
 Gd:∀k,k<(aW R.length).length->w.ownsRow lo 27 1 (V.LN k) (nc k).length (((nc k).map (jJ R)).map (Value.int .u32))
 Bp:∀l r s,FT.At (aW R.length) (.node l r) s->w.ownsRow lo 3 1 (V.LL ((FT.node l r).root s)) (lc ((FT.node l r).root s)).length ((lc ((FT.node l r).root s)).map (Value.int .i64))
 DD:∀k,k<(aW R.length).length->∃a m c,V.LL k=.slice a m c
 top:∀v,v=V.rv\/v=V.xv\/v=V.gv\/v=V.nv\/v=V.lv\/v=V.yv\/v=V.fv->∀g,v.ownBlock=some g->g<hi
 oU:∀k,k<(aW R.length).length->(∀g,(V.LN k).ownBlock=some g->g<hi)/\∀g,(V.LL k).ownBlock=some g->g<hi
 Ny:∀g,V.xv.ownBlock=some g->V.yv.ownBlock≠some g
 Ik:∀i k,i<(aW R.length).length->k<(aW R.length).length->i≠k->∀g,(V.LN i).ownBlock=some g->(V.LN k).ownBlock≠some g
 Gu:∀i k,i<(aW R.length).length->k<(aW R.length).length->i≠k->∀g,(V.LL i).ownBlock=some g->(V.LL k).ownBlock≠some g
theorem fo {w w':World} {g base:Nat} {cs:Array Value} {t:TypeId} {fr:Nat×Nat} {e:TypeId} {sz:Nat} {v:Value} {n:Nat} {xs:List Value} (h:w.ownsRow base e sz v n xs) (K:ay (fun k=>k=g) w w') (b:w.heap[g]? =some (.cells cs t fr)) (ht:t≠e):w'.ownsRow base e sz v n xs:=
 oZ h K fun k c a=>by subst a;exact⟨_,_,_,b,ht⟩
theorem Q3 {w w':World} {g base:Nat} {e:TypeId} {sz:Nat} {v:Value} {n:Nat} {xs:List Value} (h:w.ownsRow base e sz v n xs) (K:ay (fun k=>k=g) w w') (c:v.ownBlock≠some g):w'.ownsRow base e sz v n xs:=
 aR h K fun k a b=>by subst b;exact c a
theorem yQ {w w':World} {g base fb n:Nat} {b:Value} {cs:Array Value} {t:TypeId} {fr:Nat×Nat} (h:nN w base fb n b) (K:ay (fun k=>k=g) w w') (c:w.heap[g]? =some (.cells cs t fr)) (d:t≠236) (f:t≠163):nN w' base fb n b:=
 ⟨bq K h.blk fun e=>by subst e;have a:=c.symm.trans h.blk;injection a with a;injection a with _ a _;exact d a,fo h.row K c f⟩
theorem Fj {w w':World} {g b:Nat} {cs d:Array Value} {t c:TypeId} {fr f:Nat×Nat} (h:w.heap[b]? =some (.cells d c f)) (K:ay (fun k=>k=g) w w') (j:w.heap[g]? =some (.cells cs t fr)) (i:t≠c):w'.heap[b]? =some (.cells d c f):=
 bq K h fun e=>by subst e;have a:=j.symm.trans h;injection a with a;injection a with _ a _;exact i a
theorem qH {w:World} {base g n c:Nat} {e:TypeId} {sz m:Nat} {xs:List Value} (h:w.ownsRow base e sz (az g n c) m xs):∃cs fr,w.heap[g]? =some (.cells cs e fr):=by
 rcases h.2 with⟨a,-⟩|⟨i,d,f,a,-,b,-⟩
 .cases a
 .injection a with a;injection a with a;injection a with a;subst a;exact⟨_,_,b⟩
section
variable {w w':World} {lo hi tb fb:Nat} {R:List Pt} {gone:List Bool} {cnt:Nat} {yy:List Nat} {nc:Nat->List Nat} {lc:Nat->List Int} {V:yF}
theorem gM.kept {S:Nat->Prop} (h:gM w lo hi tb fb R gone cnt yy nc lc V) (K:ay S w w') (hS:∀k,lo<=k->k<hi->¬S k):gM w' lo hi tb fb R gone cnt yy nc lc V:=by
 have ht:=h.top;have a:∀{e:TypeId} {sz:Nat} {v:Value} {n:Nat} {xs:List Value},w.ownsRow lo e sz v n xs->(∀g,v.ownBlock=some g->g<hi)->w'.ownsRow lo e sz v n xs:=fun a d=>aR a K fun g e=>hS g (a.lt g e).1 (d g e);exact⟨bq K h.blk (hS tb h.fA.1 h.fA.2.1),⟨h.fA.1,h.fA.2.1,h.fA.2.2.1,h.fA.2.2.2.1,bB h.fA.2.2.2.2 K.size⟩,
  a h.row (ht _ aA),a h.xs (ht _ aA),a h.DK (ht _ aA),
  ⟨bq K h.iH.blk (hS fb h.fA.2.2.1 h.fA.2.2.2.1),a h.iH.row (ht _ aA)⟩,a h.je (ht _ aA),a h.EO (ht _ aA),a h.ys (ht _ aA),
  fun k c=>a (h.Gd k c) (h.oU k c).1,fun l r s b=>a (h.Bp l r s b) (h.oU _ b.lt).2,h.DD,h.top,h.oU,h.Ny,h.Ik,h.Gu⟩
theorem gM.below {B:Nat} (h:gM w lo hi tb fb R gone cnt yy nc lc V) (a:Below B w w') (e:hi<=B):gM w' lo hi tb fb R gone cnt yy nc lc V:=
 h.kept (S:=fun k=>hi<=k) ⟨a.os,a.tape,a.output,a.size,fun k f g=>a.block k aa⟩ fun k b c d=>aa
theorem gM.BR (h:gM w lo hi tb fb R gone cnt yy nc lc V) (m:Nat):gM (w.setCell (ag tb 7) (.int .i64 m)) lo hi tb fb R gone m yy nc lc V:=by
 have K:ay (fun k=>k=tb) w (w.setCell (ag tb 7) (.int .i64 m)):=(ay.refl (fun k=>k=tb) w).set (a:=(ag tb 7)) _ (.inl rfl);have b:=h.blk;exact⟨di w tb 7 _ _ _ h.blk,aQ h.fA,fo h.row K b ai,fo h.xs K b ai,fo h.DK K b ai,yQ h.iH K b ai ai,fo h.je K b ai,fo h.EO K b ai,fo h.ys K b ai,
  fun k d=>fo (h.Gd k d) K b ai,fun l r s c=>fo (h.Bp l r s c) K b ai,h.DD,h.top,h.oU,h.Ny,h.Ik,h.Gu⟩
theorem gM.Q4 (h:gM w lo hi tb fb R gone cnt yy nc lc V) {g n c:Nat} (f:V.gv=az g n c) (i:Nat):gM (w.setCell (ag g i) (.bool true)) lo hi tb fb R (gone.set i true) cnt yy nc lc V:=by
 have K:ay (fun k=>k=g) w (w.setCell (ag g i) (.bool true)):=(ay.refl (fun k=>k=g) w).set (a:=(ag g i)) _ (.inl rfl);have e:=h.DK;rw[f]at e;have⟨cs,fr,b⟩:=qH e;refine⟨Fj h.blk K b ai,aQ h.fA,fo h.row K b ai,fo h.xs K b ai,?_,yQ h.iH K b ai ai,fo h.je K b ai,fo h.EO K b ai,fo h.ys K b ai,
  fun k m=>fo (h.Gd k m) K b ai,fun l r s j=>fo (h.Bp l r s j) K b ai,h.DD,h.top,h.oU,h.Ny,h.Ik,h.Gu⟩
 rw[f,kL];have o:n=R.length:=by
  rcases e.2 with⟨d,-⟩|⟨t,p,q,d,-⟩
  .cases d
  .injection d with _ d _
 subst o;exact(e.stored i (.bool true)).1
theorem gM.UM (h:gM w lo hi tb fb R gone cnt yy nc lc V) {g n c n':Nat} (j:V.yv=az g n c) (K:ay (fun k=>k=g) w w') {yy':List Nat} (A:w'.ownsRow lo 2 1 (az g n' c) yy'.length ((jo R yy').map (Value.int .i64))):
  gM (w'.setCell (ag tb 6) (az g n' c)) lo hi tb fb R gone cnt yy' nc lc {V with yv:=az g n' c}:=by
 have t:=h.ys;rw[j]at t;have⟨cs,fr,q⟩:=qH t;have ht:=Fj h.blk K q ai;have i:ay (fun k=>k=tb) w' (w'.setCell (ag tb 6) (az g n' c)):=(ay.refl (fun k=>k=tb) w').set (a:=(ag tb 6)) _ (.inl rfl);have C:=h.xs;have y:V.xv.ownBlock≠some g:=fun e=>h.Ny g e (by rw[j];rfl);have f:∀{e:TypeId} {sz:Nat} {v:Value} {m:Nat} {xs:List Value},w.ownsRow lo e sz v m xs->2≠e->146≠e->(w'.setCell (ag tb 6) (az g n' c)).ownsRow lo e sz v m xs:=fun z o p=>fo (fo z K q o) i ht p;refine⟨di w' tb 6 _ _ _ ht,?_,f h.row ai ai,fo (Q3 C K y) i ht ai,f h.DK ai ai,yQ (yQ h.iH K q ai ai) i ht ai ai,f h.je ai ai,f h.EO ai ai,fo A i ht ai,
  fun k x=>f (h.Gd k x) ai ai,fun l r s u=>f (h.Bp l r s u) ai ai,h.DD,?_,h.oU,?_,h.Ik,h.Gu⟩
 .have:=h.fA;have:=K.size;simp;omega
 .intro v B b d;rcases B with e|e|e|e|e|e|e
  .exact h.top v (.inl e) b d
  .exact h.top v (.inr (.inl e)) b d
  .exact h.top v (.inr (.inr (.inl e))) b d
  .exact h.top v (.inr (.inr (.inr (.inl e)))) b d
  .exact h.top v (.inr (.inr (.inr (.inr (.inl e))))) b d
  .exact h.top V.yv aA b (by rw[j];rw[e]at d;exact d)
  .exact h.top v (.inr (.inr (.inr (.inr (.inr (.inr e)))))) b d
 .intro b o p;exact h.Ny b o (by rw[j];exact p)
theorem gM.Tt (h:gM w lo hi tb fb R gone cnt yy nc lc V) {k g n c n' gl nl cl:Nat} (B:k<(aW R.length).length) (y:V.LN k=az g n c) (D:V.lv=az gl nl cl) (K:ay (fun k=>k=g) w w') {L':List Nat} (N:w'.ownsRow lo 27 1 (az g n' c) L'.length ((L'.map (jJ R)).map (Value.int .u32))):
  gM (w'.setCell (ag gl (k*2)) (az g n' c)) lo hi tb fb R gone cnt yy (nC nc k L') lc {V with LN:=upd V.LN k (az g n' c)}:=by
 have F:=h.Gd k B;rw[y]at F;have⟨cs,fr,x⟩:=qH F;have C:=h.EO;rw[D]at C;have L:nl=(aW R.length).length:=by
  rcases C.2 with⟨q,-⟩|⟨b,O,Q,q,-⟩
  .cases q
  .injection q with _ q _
 subst L;have E:=fo C K x ai;have⟨P,S,p⟩:=qH E;have o:ay (fun k=>k=gl) w' (w'.setCell (ag gl (k*2)) (az g n' c)):=(ay.refl (fun k=>k=gl) w').set (a:=(ag gl (k*2))) _ (.inl rfl);have j:∀{e:TypeId} {sz:Nat} {v:Value} {m:Nat} {xs:List Value},w.ownsRow lo e sz v m xs->27≠e->150≠e->(w'.setCell (ag gl (k*2)) (az g n' c)).ownsRow lo e sz v m xs:=fun M z A=>fo (fo M K x z) o p A;refine⟨Fj (Fj h.blk K x ai) o p ai,?_,j h.row ai ai,j h.xs ai ai,j h.DK ai ai,yQ (yQ h.iH K x ai ai) o p ai ai,j h.je ai ai,?_,j h.ys ai ai,
  fun k' f=>?_,fun l r s J=>j (h.Bp l r s J) ai ai,h.DD,h.top,fun k' f=>⟨fun b d=>?_,(h.oU k' f).2⟩,h.Ny,fun i G z A H b t u=>?_,h.Gu⟩
 .have:=h.fA;have:=K.size;simp;omega
 .show World.ownsRow _ _ _ _ V.lv _ _;rw[D];exact cK.Br E B _
 .by_cases e:k'=k
  .subst e;rw[jF];show World.ownsRow _ _ _ _ (upd V.LN k' _ k') _ _;rw[upd_same];exact fo N o p ai
  .rw[xh e];show World.ownsRow _ _ _ _ (upd V.LN k _ k') _ _;rw[upd_ne e];exact fo (Q3 (h.Gd k' f) K (fun I=>h.Ik k k' B f (iR e) g (by rw[y];rfl) I)) o p ai
 .by_cases e:k'=k
  .subst e;have d:(upd V.LN k' (az g n' c) k').ownBlock=some b:=d;rw[upd_same]at d;exact(h.oU k' f).1 b (by rw[y];exact d)
  .have d:(upd V.LN k (az g n' c) k').ownBlock=some b:=d;rw[upd_ne e]at d;exact(h.oU k' f).1 b d
 .have own:∀i,(upd V.LN k (az g n' c) i).ownBlock=(V.LN i).ownBlock:=fun i=>by
   by_cases e:i=k
   .subst e;rw[upd_same,y];rfl
   .rw[upd_ne e]
  have t:(upd V.LN k (az g n' c) i).ownBlock=some b:=t;have u:(upd V.LN k (az g n' c) G).ownBlock=some b:=u;rw[own]at t u;exact h.Ik i G z A H b t u
theorem gM.Tu (h:gM w lo hi tb fb R gone cnt yy nc lc V) {D E:FT} {F k g n c n' gl nl cl:Nat} (H:FT.At (aW R.length) (.node D E) F) (J:(FT.node D E).root F=k) (C:V.LL k=az g n c) (L:V.lv=az gl nl cl) (K:ay (fun k=>k=g) w w') {L':List Int} (W:w'.ownsRow lo 3 1 (az g n' c) L'.length (L'.map (Value.int .i64))):
  gM (w'.setCell (ag gl (k*2+1)) (az g n' c)) lo hi tb fb R gone cnt yy nc (nC lc k L') {V with LL:=upd V.LL k (az g n' c)}:=by
 have I:k<(aW R.length).length:=J▸H.lt;have N:=h.Bp D E F H;rw[J,C]at N;have⟨cs,fr,x⟩:=qH N;have B:=h.EO;rw[L]at B;have T:nl=(aW R.length).length:=by
  rcases B.2 with⟨p,-⟩|⟨b,Y,aa,p,-⟩
  .cases p
  .injection p with _ p _
 subst T;have M:=fo B K x ai;have⟨Z,ab,o⟩:=qH M;have j:ay (fun k=>k=gl) w' (w'.setCell (ag gl (k*2+1)) (az g n' c)):=(ay.refl (fun k=>k=gl) w').set (a:=(ag gl (k*2+1))) _ (.inl rfl);have f:∀{e:TypeId} {sz:Nat} {v:Value} {m:Nat} {xs:List Value},w.ownsRow lo e sz v m xs->3≠e->150≠e->(w'.setCell (ag gl (k*2+1)) (az g n' c)).ownsRow lo e sz v m xs:=fun U z A=>fo (fo U K x z) j o A;have own:∀i,(upd V.LL k (az g n' c) i).ownBlock=(V.LL i).ownBlock:=fun i=>by
  by_cases e:i=k
  .subst e;rw[upd_same,C];rfl
  .rw[upd_ne e]
 refine⟨Fj (Fj h.blk K x ai) j o ai,?_,f h.row ai ai,f h.xs ai ai,f h.DK ai ai,yQ (yQ h.iH K x ai ai) j o ai ai,f h.je ai ai,?_,f h.ys ai ai,
  fun k' d=>f (h.Gd k' d) ai ai,fun l r s G=>?_,fun k' d=>?_,h.top,fun k' d=>⟨(h.oU k' d).1,fun b y=>?_⟩,h.Ny,h.Ik,fun i O z A P b q t=>?_⟩
 .have:=h.fA;have:=K.size;simp;omega
 .show World.ownsRow _ _ _ _ V.lv _ _;rw[L];exact cK.QO M I _
 .have S:=G.lt;generalize Q:(FT.node l r).root s=k' at*;by_cases e:k'=k
  .subst e;rw[jF];show World.ownsRow _ _ _ _ (upd V.LL k' _ k') _ _;rw[upd_same];exact fo W j o ai
  .rw[xh e];show World.ownsRow _ _ _ _ (upd V.LL k _ k') _ _;rw[upd_ne e];have u:=h.Bp l r s G;rw[Q]at u;exact fo (Q3 u K (fun u=>h.Gu k k' I S (iR e) g (by rw[C];rfl) u)) j o ai
 .show∃a m X,upd V.LL k _ k'=_;by_cases e:k'=k
  .subst e;rw[upd_same];exact⟨_,_,_,rfl⟩
  .rw[upd_ne e];exact h.DD k' d
 .have y:(upd V.LL k (az g n' c) k').ownBlock=some b:=y;rw[own]at y;exact(h.oU k' d).2 b y
 .have q:(upd V.LL k (az g n' c) i).ownBlock=some b:=q;have t:(upd V.LL k (az g n' c) O).ownBlock=some b:=t;rw[own]at q t;exact h.Gu i O z A P b q t
theorem gM.Tv (h:gM w lo hi tb fb R gone cnt yy nc lc V) {m n:FT} {o k g c j:Nat} (q:FT.At (aW R.length) (.node m n) o) (t:(FT.node m n).root o=k) (i:V.LL k=az g (lc k).length c) (x:Int):
  gM (w.setCell (ag g j) (.int .i64 x)) lo hi tb fb R gone cnt yy nc (nC lc k ((lc k).set j x)) V:=by
 have u:k<(aW R.length).length:=t▸q.lt;have f:=h.Bp m n o q;rw[t,i]at f;have⟨cs,fr,b⟩:=qH f;have K:ay (fun k=>k=g) w (w.setCell (ag g j) (.int .i64 x)):=(ay.refl (fun k=>k=g) w).set (a:=(ag g j)) _ (.inl rfl);refine⟨Fj h.blk K b ai,aQ h.fA,fo h.row K b ai,fo h.xs K b ai,fo h.DK K b ai,yQ h.iH K b ai ai,fo h.je K b ai,fo h.EO K b ai,fo h.ys K b ai,
  fun k' v=>fo (h.Gd k' v) K b ai,fun l r s p=>?_,h.DD,h.top,h.oU,h.Ny,h.Ik,h.Gu⟩
 have y:=p.lt;have d:=h.Bp l r s p;generalize z:(FT.node l r).root s=k' at*;by_cases e:k'=k
 .subst e;rw[jF,i,kJ,kL];exact(f.stored j (.int .i64 x)).1
 .rw[xh e];exact Q3 d K (fun d=>h.Gu k k' u y (iR e) g (by rw[i];rfl) d)
end
end
end Go.Proofs.YtkjdbndekceffaaGreat
