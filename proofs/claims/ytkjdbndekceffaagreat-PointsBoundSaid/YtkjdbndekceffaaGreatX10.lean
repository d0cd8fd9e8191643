/- Made small by a program. -/
import Derived.Test.YtkjdbndekceffaaGreatX07
set_option linter.unusedSimpArgs false
set_option linter.unusedVariables false
set_option maxRecDepth 100000
set_option maxHeartbeats 16000000
namespace Go.Proofs.YtkjdbndekceffaaGreat
open Tryz
section
open Go.RowKit Go.Sort Go.Shelf Go.Lib Go.Maps
attribute [local irreducible] wpQuiet
attribute [local go_sem] Oper.fB
theorem JE (a:Option Addr) (c:Nat) (l:List Pt) (w:World) (dG:bY dw 3 w a l) (hb:l.length<=20000) (gm:IA l) (hu:lK l=true):
  aK 35 #[.slice a l.length c] w fun e w'=>∃tb fb V,e=.returned (.tuple #[aj tb,ae 0])/\jw w' w.heap.size w'.heap.size tb fb (eZ l) (List.replicate (eZ l).length false) (dS (eZ l)) V/\Below w.heap.size w w':=by
 have db:=GG a c l w dG aa gm;rw[hu]at db;have hC:=ag dG;obtain⟨n,dH⟩:∃n,n=l.length:=⟨_,rfl⟩;have dX:=ag (fun W (c1:Below w.heap.size w W)=>oP a l n c W dH.symm (dG.below c1) aa);have fh:=ag dH;rw[<-dH]at hb db |-;have e0:=ag (fun W=>yF n aa W);clear dH dG;have d1:decide ((n:Int)>2147483648)=false:=aH;have d2:decide ((2147483648:Int)<(n:Int))=false:=aH;have d3:decide (2147483648<n)=false:=aH;go_enter func35,ntmps35
 go_wp2_with (go_at_call 89;refine db.mono ?_;rintro e w1 ⟨rfl,dB⟩;clear db)
 go_wp2_with fail
 refine(e0.o w1).mono ?_;rintro e w2 ⟨rfl,dv⟩;have cF:Hid (Below w.heap.size w w2):=by rw[dv];exact dB.alloc dB.size _
 have dd:Hid (w2.heap[w1.heap.size]? =some (lG 0 0 (aL) n)):=by rw[dv];exact bW w1 _
 obtain⟨fb,eB⟩:∃fb,fb=w1.heap.size:=⟨_,rfl⟩;have fX:w.heap.size<=fb/\fb<w2.heap.size:=by rw[dv,eB];exact⟨dB.size,ay⟩
 rw[<-eB]at dd |-;clear dv dB eB e0
 go_upto_region 8 with fail
 go_cut [6]from 6 (fun hz bu=>∃tb aW N Q ab,hz=aj tb/\Hid (vJ bu w.heap.size fb n aW N Q ab l)/\Hid (bu.heap[tb]? =some (wY aW (aL) N fb Q (aL) (aL) n))/\Hid (Below w.heap.size w bu)/\w.heap.size<=tb)
 case first=>
  have h3:=OA n aa;have fw:∀(J:World) aW N Q ab,J.ownsRow w.heap.size 29 3 aW n (l.flatMap dw)->J.ownsRow w.heap.size 4 1 N n ((List.replicate n false).map Value.bool)->J.ownsRow w.heap.size 163 7 ab (aX n).length ((aX n).flatMap oM)->J.ownsRow w.heap.size 163 7 Q (aX n).length ((aX n).flatMap oM)->J.heap[fb]? =some (lG 1 0 ab n)->Below w.heap.size w J->
    vJ (J.alloc (.cells #[aW,aL,N,aj fb,Q,aL,aL,ae n] 146)) w.heap.size fb n aW N Q ab l/\(J.alloc (.cells #[aW,aL,N,aj fb,Q,aL,aL,ae n] 146)).heap[J.heap.size]? =some (wY aW (aL) N fb Q (aL) (aL) n)/\Below w.heap.size w (J.alloc (.cells #[aW,aL,N,aj fb,Q,aL,aL,ae n] 146)):=fun J aW N Q ab B h2 ac bd bE cZ=>
   ⟨(vJ.mk B h2 ⟨bE,ac⟩ fX.1 bd).kept ((ax.refl (fun _=>False) J).alloc _) (fun k _ h=>h.elim),bW J _,cZ.alloc cZ.size _⟩
  have d0:=ag fw;clear fw;refine au (fun W=>True) [1,4,7,10,11,12] [(0,false),(2,false),(3,false),(5,false),(6,false),(8,false),(9,false)] trivial 6 ?_;have cr:Below w.heap.size w w2.drew:=cF.o.drew;have eA:w2.drew.heap[fb]? =some (lG 0 0 (aL) n):=dd.o;have h8:w2.drew.heap.size=w2.heap.size:=rfl;refine ig 1 4 rfl rfl (fun K f=>?_) (fun K f=>?_)
  .
   refine aT wZ rfl _ _ rfl (vals:=#[.slice a n c]) rfl (dX.o w2.drew cr) ?_;rintro e w3 ⟨aW,rfl,b5,bs⟩;refine⟨_,rfl,f _ _ (fun _ _=>trivial) ?_⟩;clear f K;have cv:w3.heap[fb]? =some (lG 0 0 (aL) n):=(bs.block fb aa).trans eA;have br:Below w.heap.size w w3:=cr.trans (bs.mono cr.size);have eL:=bI b5 cr.size;have dL:=bs.size;have dY:=ag cv;have bX:=ag br;have ft:=ag eL;obtain⟨T,P,rfl⟩:=fI eL;clear b5 bs cr eA cv br eL;refine ig 4 7 rfl rfl (fun K f=>?_) (fun K f=>?_)
   .go_simp;refine f _ _ (fun _ _=>trivial) ?_;clear f K;refine aC 7 rfl fun K f=>?_;have b3:(w3.alloc (.cells (madeCells #[.bool false] n) 4)).heap[fb]? =some (lG 0 0 (aL) n):=(bL _ _ _ aa).trans dY.o;refine aT vK rfl _ _ rfl (vals:=#[aj fb]) rfl (gJ fb n aa _ b3) ?_;rintro e J ⟨ab,Q,rfl,jm,a6,bt,aO⟩;refine⟨_,rfl,f _ _ (fun _ _=>trivial) ?_⟩;clear f K;have bH:Below w.heap.size w (w3.alloc (.cells (madeCells #[.bool false] n) 4)):=bX.o.alloc bX.o.size _;have a0:Below w.heap.size w J:=bH.trans (aO.toBelow bH.size (fun k h=>aa));have F:=d0.o J _ (aA w3.heap.size n n) Q ab (Ju (az ft.o ((aI _ _).alloc (aB _) _)) ai b3 aO) (Ju (yL w3 w.heap.size n bX.o.size aa) ai b3 aO) (bI jm bH.size) (bI a6 bH.size) bt a0;have a1:=ag F;have a8:=a0.size;obtain⟨aw,nc,rfl⟩:=fI a6;clear F jm a6 bt aO bH a0 b3;refine aG [10,11,12] ?_;go_wp2;go_meet;exact⟨_,_,_,_,_,rfl,a1.o.1,a1.o.2.1,a1.o.2.2,a8⟩
   .refine aT vK rfl _ _ rfl (vals:=#[aj fb]) rfl (gJ fb n aa _ dY.o) ?_;rintro e J ⟨ab,Q,rfl,jm,a6,bt,aO⟩;refine⟨_,rfl,f _ _ (fun _ _=>trivial) ?_⟩;clear f K;have a0:Below w.heap.size w J:=bX.o.trans (aO.toBelow bX.o.size (fun k h=>aa));have ap:Below w.heap.size w (J.alloc (.cells (madeCells #[.bool false] n) 4)):=a0.alloc a0.size _;have be:Below J.heap.size J (J.alloc (.cells (madeCells #[.bool false] n) 4)):=(aI _ _).alloc (aB _) _;have g3:=(aY.1 bt).1;have F:=d0.o (J.alloc (.cells (madeCells #[.bool false] n) 4)) _ (aA J.heap.size n n) Q ab (az (Ju ft.o ai dY.o aO) be) (yL J w.heap.size n a0.size aa) (az (bI jm bX.o.size) be) (az (bI a6 bX.o.size) be) ((bL _ _ _ g3).trans bt) ap;have gi:(J.alloc (.cells (madeCells #[.bool false] n) 4)).heap.size=J.heap.size+1:=ay;rw[gi]at F;have a1:=ag F;have a8:=ap.size;rw[gi]at a8;obtain⟨aw,nc,rfl⟩:=fI a6;clear F jm a6 bt aO a0 ap be;refine aG [4,10,11,12] ?_;go_wp2;go_meet;exact⟨_,_,_,_,_,rfl,a1.o.1,a1.o.2.1,a1.o.2.2,a8⟩
  .
   go_simp;refine f _ _ (fun _ _=>trivial) ?_;clear f K;refine aC 1 rfl fun K f=>?_;have br:Below w.heap.size w (w2.alloc (.cells (madeCells #[.bool false] n) 4)).drew:=(cF.o.alloc cF.o.size _).drew;have cv:(w2.alloc (.cells (madeCells #[.bool false] n) 4)).drew.heap[fb]? =some (lG 0 0 (aL) n):=(bL w2 _ _ fX.2).trans dd.o;have eC:(w2.alloc (.cells (madeCells #[.bool false] n) 4)).drew.ownsRow w.heap.size 4 1 (aA w2.heap.size n n) n ((List.replicate n false).map Value.bool):=yL w2 w.heap.size n cF.o.size aa;have dL:fb<(w2.alloc (.cells (madeCells #[.bool false] n) 4)).drew.heap.size:=by
    show fb<(w2.alloc (.cells (madeCells #[.bool false] n) 4)).heap.size;simp;omega
   obtain⟨w3,en⟩:∃w3,w3=(w2.alloc (.cells (madeCells #[.bool false] n) 4)).drew:=⟨_,rfl⟩;rw[<-en]at br cv eC dL;refine aT wZ rfl _ _ rfl (vals:=#[.slice a n c]) rfl (by rw[<-en];exact dX.o w3 br) ?_;rintro e w4 ⟨aW,rfl,b5,bs⟩;refine⟨_,rfl,f _ _ (fun _ _=>trivial) ?_⟩;clear f K;have b3:w4.heap[fb]? =some (lG 0 0 (aL) n):=(bs.block fb dL).trans cv;have bH:Below w.heap.size w w4:=br.trans (bs.mono br.size);have cx:=bI b5 br.size;have f0:=az eC bs;have dZ:=ag b3;have da:=ag bH;have gL:=ag cx;have gs:=ag f0;obtain⟨T,P,rfl⟩:=fI cx;clear b5 bs cr eA b3 bH cx cv br eC f0 dL en;refine aC 7 rfl fun K f=>?_;refine aT vK rfl _ _ rfl (vals:=#[aj fb]) rfl (gJ fb n aa _ dZ.o) ?_;rintro e J ⟨ab,Q,rfl,jm,a6,bt,aO⟩;refine⟨_,rfl,f _ _ (fun _ _=>trivial) ?_⟩;clear f K;have a0:Below w.heap.size w J:=da.o.trans (aO.toBelow da.o.size (fun k h=>aa));have F:=d0.o J _ (aA w2.heap.size n n) Q ab (Ju gL.o ai dZ.o aO) (Ju gs.o ai dZ.o aO) (bI jm da.o.size) (bI a6 da.o.size) bt a0;have a1:=ag F;have a8:=a0.size;obtain⟨aw,nc,rfl⟩:=fI a6;clear F jm a6 bt aO a0;refine aG [10,11,12] ?_;go_wp2;go_meet;exact⟨_,_,_,_,_,rfl,a1.o.1,a1.o.2.1,a1.o.2.2,a8⟩
 case rest=>
  obtain⟨tb,aW,N,Q,ab,rfl,ce,cO,d4,hk⟩:=hcut;clear cF dd dX;obtain⟨T,P,rfl⟩:=fI ce.o.row;have cz:=(aY.1 cO.o).1;have eP:(ids l).Nodup:=by unfold lK at hu;simpa using hu
  have e1:=ag (yK fh.o.symm aa ce.o.row eP);have O:=cO.o;have ck:wc.cell? (af tb 0)=some (.slice T n P):=aD O;clear O
  go_wp2_with fail
  refine e1.o.mono ?_;rintro e w4 ⟨rfl,cx,b4⟩;have fJ:vJ w4 w.heap.size fb n (.slice T n P) N Q ab (eZ l):=by
   have h:=ce.o;have hp:∀k,k<wc.heap.size->(Value.slice T n P).ownBlock=some k->∃cs t fr,wc.heap[k]? =some (.cells cs t fr)/\t=29:=fun k al ct=>by
    rcases h.row.2 with⟨x,-⟩|⟨g,cU,cV,x,-,aM,-⟩
    .rw[x]at ct;cases ct
    .rw[x]at ct;injection ct with ct;subst ct;exact⟨_,_,_,aM,rfl⟩
   refine⟨cx,oW h.DR b4 fun k B h2=>?_,⟨bq b4 h.iH.blk fun h2=>?_,oW h.iH.row b4 fun k B h2=>?_⟩,h.Qu,oW h.jg b4 fun k B h2=>?_⟩
   .obtain⟨cs,t,fr,a,rfl⟩:=hp k B h2;exact⟨cs,_,fr,a,ai⟩
   .obtain⟨cs,t,fr,a,rfl⟩:=hp fb (aY.1 h.iH.blk).1 h2;have Y:=a.symm.trans h.iH.blk;injection Y with Y;injection Y with _ Y _;exact absurd Y ai
   .obtain⟨cs,t,fr,a,rfl⟩:=hp k B h2;exact⟨cs,_,fr,a,ai⟩
   .obtain⟨cs,t,fr,a,rfl⟩:=hp k B h2;exact⟨cs,_,fr,a,ai⟩
  have cg:Hid (w4.heap[tb]? =some (wY (.slice T n P) (aL) N fb Q (aL) (aL) n)):=bq b4 cO.o (fun h=>bn ce.o.row cO.o ai tb h rfl);have dc:Hid (Below w.heap.size w w4):=d4.o.trans (b4.toBelow d4.o.size (fun k h=>(ce.o.row.lt k h).1));have dk:=ag fJ;have cq:(eZ l).length=n:=by rw[(dQ l).length_eq];exact fh.o.symm
  have fQ:(ids (eZ l)).Nodup:=((dQ l).map _).nodup_iff.2 eP;have dl:Hid ((eZ l).Pairwise kI/\(ids (eZ l)).Nodup):=⟨fU eP,fQ⟩;have fj:Hid (IA (eZ l)):=fun p hp=>gm p ((wI l p).1 hp);clear cx b4 fJ ce cO d4 e1 fQ ck cz;generalize fN:eZ l=R at*;have gD:Hid (eZ l=R):=fN;clear fN;have cz:=(aY.1 cg.o).1;have O:=cg.o;have ck:w4.cell? (af tb 0)=some (.slice T n P):=aD O;clear O
  go_wp2_with fail
  go_loopg [52] n (fun b7 hx wr=>∃(i:Nat) (eX:Value),hx=.int .i64 i/\i<=n/\n-i<=b7/\Hid (wr.heap[tb]? =some (wY (.slice T n P) eX N fb Q (aL) (aL) n))/\Hid (wr.ownsRow w4.heap.size 2 1 eX i (((bV R).take i).map (Value.int .i64)))/\Hid (ax (fun k=>k=tb) w4 wr))
  case atStart=>exact⟨0,_,rfl,bD _,aa,cg,dx _ _ _ _,ax.refl _ _⟩
  case round=>
   obtain⟨i,eX,rfl,hi,hV,bl,b0,cb⟩:=hrel;by_cases hR:i<n
   .have bh:=aR dk.o.row cb.o (fun g h h2=>bn dk.o.row cg.o ai g h h2.symm);obtain⟨_,_,bm,-,-,aU⟩:=bY.aJ bg ai bh;injection bm with Z cl cm;subst Z;clear cl cm;obtain⟨b,off,cW,fV,aF⟩:=aU.get aa;have bj:=aF i aa 0 aa;have x1:=aF i aa 1 aa;have x2:=aF i aa 2 aa;simp only[dw,fZ,dC,dK]at bj x1 x2;have gn:(bV R).take (i+1)=(bV R).take i++[R[i].1]:=by
     have h:i<(bV R).length:=by unfold bV;simp;omega
     rw[ic h];simp[bV]
    have fm:=ag gn;subst cW;clear aF aU gn bh;generalize R[i]=p at*;obtain⟨a9,ba,aE⟩:=p;simp only at fm bj x1 x2;have O:=bl.o;have c8:=(aY.1 O).1;obtain⟨am,an,rfl⟩:=fI b0.o
    go_upto_region 13 with fail
    obtain⟨w6,bp⟩:∃w6,w6=wr.alloc (.cells #[ae a9,ae ba,ak aE] 29):=⟨_,rfl⟩;have ap:Below wr.heap.size wr w6:=by rw[bp];exact(aI _ _).alloc (aB _) _
    have cB:w6.heap[wr.heap.size]? =some (.cells #[ae a9,ae ba,ak aE] 29 (0,0)):=by rw[bp];exact bW wr _
    have b6:=(ap.block tb c8).trans O;have hh:=cb.o.size;have hj:=ap.size;have eo:=ah (w:=w6) (ad:=(af tb 1)) (v:=.slice am i an) (aD b6);have ep:=ah (w:=w6) (ad:=(af wr.heap.size 0)) (v:=.int .i64 a9) (aD cB);have eg:=ag (az b0.o ap);have cI:Hid (ax (fun k=>k=tb) w4 w6):=cb.o.below ap;have cP:=ag b6;rw[<-bp];clear bp ap cB b6 O bj x1 x2;refine au (fun W=>∃p:aS w6,W=p.W) [8,9,10,11] [(0,false),(1,false),(2,false),(3,false),(4,true),(5,false),(6,true)] ⟨⟨_,(aI _ _).drew⟩,rfl⟩ 5 ?_;refine aC 7 rfl fun K f=>?_;go_simp;refine f _ _ (fun _ _=>⟨⟨_,(aI _ w6).alloc (aB _) _|>.drew⟩,rfl⟩) ?_;clear f K;refine aC 8 rfl fun K f=>?_;refine bC zX w4.heap.size (w:=(w6.alloc (.cells #[ae a9] 2)).drew) (az eg.o ((aI _ w6).alloc (aB _) _|>.drew)) [.int .i64 a9] rfl (by simp[Value.oneCell']) rfl (.tmp 60) (.tmp 63) rfl rfl w6.heap.size rfl (jr _ _) dJ aa aH ?_;intro ar aq H eI f1 hL h0;refine f _ _ (fun _ h=>absurd ay h) ?_;clear f K;refine aG [9,10,11] ?_;have c5:w6.grownBy H (Value.slice am i an).ownBlock:=dR (bN ((aI _ w6).alloc (aB _) _|>.drew)) f1;have bc:ax (fun k=>(Value.slice am i an).ownBlock=some k) w6 H:=(ax.refl _ w6).grown c5 (fun k al=>.inl al);have eS:∀g,(Value.slice am i an).ownBlock=some g->w4.heap.size<=g:=fun g h=>(eg.o.lt g h).1;have dM:=bq bc cP.o (fun h=>by have:=eS tb h;omega);have gq:H.cell? (af tb 1)=some (.slice am i an):=aD dM;have f8:H.frozen? (af tb 1)=false:=aD dM;have bb:Hid ((H.setCell (af tb 1) (aA ar (i+1) aq)).heap[tb]? =some (wY (.slice (some (af b off)) n P) (aA ar (i+1) aq) N fb Q (aL) (aL) n)):=di H tb 1 _ _ _ dM;have cj:Hid ((H.setCell (af tb 1) (aA ar (i+1) aq)).ownsRow w4.heap.size 2 1 (aA ar (i+1) aq) (i+1) (((bV R).take (i+1)).map (Value.int .i64))):=by
     have Y:=aR (S:=fun k=>k=tb) eI ((ax.refl (fun k=>k=tb) H).set (a:=(af tb 1)) (aA ar (i+1) aq) (.inl rfl)) (fun g h h2=>by have:=(eI.lt g h).1;omega);show World.ownsRow _ _ _ _ _ _ _;rw[fm.o,bM];exact Y
    have gz:Hid (ax (fun k=>k=tb) w4 (H.setCell (af tb 1) (aA ar (i+1) aq))):=((cI.o.mono (S':=fun k=>k=tb\/w4.heap.size<=k) (fun k h=>.inl h)).trans (bc.mono (fun k h=>.inr (eS k h)))).strip.set (a:=(af tb 1)) _ (.inl rfl);clear bc c5 f1 eI dM eo ep eg cP cI eS;go_wp2
    go_roundg (n-(i+1))
    case measure=>omega
    case rel=>exact⟨i+1,_,by go_num,aa,aB _,bb,cj,gz⟩
   .obtain rfl:i=n:=aa;have fK:vJ wr w.heap.size fb i (.slice T i P) N Q ab R:=dk.o.kept cb.o (fun k B h2=>by subst h2;exact⟨_,_,_,cg.o,ai,ai,ai,ai⟩);have er:Below w.heap.size w wr:=dc.o.trans (cb.o.toBelow dc.o.size (fun k h=>aa));have dz:=b0.o;rw[kD (by unfold bV;simp;omega)]at dz;have b9:=ag er;have cf:=ag fK;have a8:=er.size;have fk:=ag (bI dz dc.o.size);obtain⟨am,an,rfl⟩:=fI dz;clear er fK dz cb b0 dc dk cg ck cz;have cz:=(aY.1 bl.o).1;have ha:=@run_makeMap prog
    go_upto_region 16 with fail
    obtain⟨U,dI⟩:∃U,U=wr.heap.size:=⟨_,rfl⟩;obtain⟨bi,cX⟩:∃bi,bi=wr.alloc (.map #[] 0):=⟨_,rfl⟩;have c4:Below wr.heap.size wr bi:=by rw[cX];exact(aI _ _).alloc (aB _) _
    have dg:Hid (∃D:DataW Unit,bi.ownsMap prog 27 (plainElem prog 3) U 0 D/\nN D R 0):=by rw[cX,dI];exact⟨.map [],xX _ _ _ _,[],IsM.empty _ _⟩
    have eO:=(c4.block tb cz).trans bl.o;have fi:=ag eO;have dn:Hid (vJ bi w.heap.size fb i (.slice T i P) N Q ab R):=cf.o.kept ((ax.refl (fun _=>False) wr).below c4) (fun k _ h=>h.elim);have fo:=ag (az fk.o c4);have d7:Hid (Below w.heap.size w bi):=b9.o.trans (c4.mono a8);have h6:w.heap.size<=U/\U<bi.heap.size/\tb<U:=by rw[cX,dI];simp;omega
    have ck:bi.cell? (af tb 0)=some (.slice T i P):=aD eO;rw[<-cX,<-dI];clear cX dI c4 eO bl cf fk b9 a8 cz ha
    go_wp2_with fail
    go_loopg [74] i (fun b7 hy wr=>∃(j:Nat),hy=.int .i64 j/\j<=i/\i-j<=b7/\Hid (ax (fun k=>k=U) bi wr)/\Hid (∃D:DataW Unit,wr.ownsMap prog 27 (plainElem prog 3) U j D/\nN D R j))
    case atStart=>exact⟨0,rfl,bD _,aa,ax.refl _ _,dg.o⟩
    case round=>
     obtain⟨j,rfl,aN,hW,bw,df⟩:=hrel;by_cases hT:j<i
     .have bh:=aR dn.o.row bw.o (fun g h h2=>by
       subst h2;obtain⟨em,ek,gd,-⟩:=dg.o.choose_spec.1;rcases dn.o.row.2 with⟨x,-⟩|⟨hI,cU,cV,x,-,aM,-⟩
       .rw[x]at h;cases h
       .rw[x]at h;injection h with h;subst h;rw[aM]at gd;cases gd)
      obtain⟨_,_,bm,-,-,aU⟩:=bY.aJ bg ai bh;injection bm with Z cl cm;subst Z;clear cl cm;obtain⟨b,off,cW,fV,aF⟩:=aU.get aa;have bj:=aF j aa 0 aa;have x1:=aF j aa 1 aa;have x2:=aF j aa 2 aa;simp only[dw,fZ,dC,dK]at bj x1 x2;have g6:j<R.length:=aa;have gb:Hid (keyOf prog 27 (.int .u32 R[j].2.2)=some (.int .u32 R[j].2.2)):=yt underlying27 (fj.o _ (bF _));obtain⟨D,gg,fA⟩:=df.o;have d8:=ag (fA.put g6);have h7:=bw.o.size;subst cW;clear aF aU bh fA df;generalize R[j]=p at*;obtain⟨a9,ba,aE⟩:=p;simp only at d8 gb bj x1 x2;have gf:=gg.kept (qM wr (.cells #[ae a9,ae ba,ak aE] 29) none) ay
      go_wp2_with (at_mapUpdate;refine xR _ rfl _ _ _ 26 rfl 27 3 (int_keyed underlying27) underlying26 _ U j _ rfl gf dJ _ _ _ rfl rfl gb.o _ [] (uZ underlying3 (by simp[Lit.wf,IntKind.min,IntKind.max,IntKind.bits,IntKind.signed];omega)) ?_;intro w3 gh f4)
      have gy:Hid (ax (fun k=>k=U) bi w3):=((bw.o.alloc _).grown f4 (fun k h=>.inl (by injection h with h;exact h.symm)));have gA:Hid (∃D:DataW Unit,w3.ownsMap prog 27 (plainElem prog 3) U (j+1) D/\nN D R (j+1)):=⟨_,gh,d8.o⟩;clear gh f4 gf gg d8;go_wp2
      go_roundg (i-(j+1))
      case measure=>omega
      case rel=>exact⟨j+1,by go_num,aa,aB _,gy,gA⟩
     .obtain rfl:j=i:=aa;obtain⟨hB,⟨hH,hG,eF,-⟩,-⟩:=dg.o;have cf:=ag (dn.o.UU bw.o eF);have b0:=ag (OC fo.o bw.o eF);have bl:Hid (wr.heap[tb]? =_):=bq bw.o fi.o (fun h=>aa);have b9:Hid (Below w.heap.size w wr):=d7.o.trans (bw.o.toBelow d7.o.size (fun k h=>aa));obtain⟨D,eu,fH⟩:=df.o;have fd:=ag eu;have gC:=ag fH;have a8:=b9.o.size;have he:U<wr.heap.size:=by
       obtain⟨em,ek,aM,-⟩:=eu;exact(aY.1 aM).1
      obtain⟨_,_,bm,-,-,aU⟩:=bY.aJ bg ai cf.o.row;injection bm with Z cl cm;subst Z;clear cl cm;have eY:=ag (oP T R j P wr cq aU aa);have c8:=(aY.1 bl.o).1;have O:=bl.o;have ck:wr.cell? (af tb 0)=some (.slice T j P):=aD O;clear O aU eF eu fH df dn fo fi d7 dg bw
      go_wp2_with fail
      refine eY.o.mono ?_;rintro e ij ⟨dT,rfl,dF,fT⟩;have e2:=ag (Mh cq aa dF dl.o.2);have e8:=ag dF;have d5:=ag fT;obtain⟨I,g2,rfl⟩:=fI dF;clear dF fT eY
      go_wp2_with fail
      refine e2.o.mono ?_;rintro e H ⟨rfl,f5,ga⟩;have bK:Below wr.heap.size wr H:=d5.o.trans (ga.toBelow d5.o.size (fun k h=>(e8.o.lt k h).1));have gw:=ag bK;have e9:=ag f5;have eb:Hid (vJ H w.heap.size fb j (.slice T j P) N Q ab R):=cf.o.kept ((ax.refl (fun _=>False) wr).below bK) (fun k _ h=>h.elim);have fl:=ag (az b0.o bK);have ch:Hid (H.heap[tb]? =some (wY (.slice T j P) (.slice am j an) N fb Q (aL) (aL) j)):=(bK.block tb c8).trans bl.o;have ff:Hid (H.ownsMap prog 27 (plainElem prog 3) U j D):=wX fd.o (bK.block U he);have cG:Hid (Below w.heap.size w H):=b9.o.trans (bK.mono a8);have h9:=bK.size;obtain⟨aw,nc,rfl⟩:=fI eb.o.jg;have fG:=dh j;have h4:=OB (aX j).length aa;generalize gZ:(aX j).length=d at*;have gB:Hid (d=2*j-1):=fG;have hJ:d<=40000:=aa;clear fG;clear ga bK f5 e2 cf b0 bl fd b9 e8 d5 gw ck;have O:=ch.o;have cA:tb<H.heap.size:=aa;have fu:H.cell? (af tb 4)=some (.slice aw d nc):=aD O;have be:Below H.heap.size H (H.alloc (.cells (madeCells #[aL,aL] (d*2)) 150)):=(aI _ _).alloc (aB _) _;have gN:(H.alloc (.cells (madeCells #[aL,aL] (d*2)) 150)).cell? (af tb 5)=some (aL):=(be.cell (p:=(af tb 5)) cA).trans (aD O);have hA:(H.alloc (.cells (madeCells #[aL,aL] (d*2)) 150)).frozen? (af tb 5)=false:=(be.frozen (p:=(af tb 5)) cA).trans (aD O);have gj:=(be.block tb cA).trans O;have gx:=ag be;have gF:=ag gj;clear be gj O
      go_upto_region 24 with fail
      obtain⟨gl,dE⟩:∃gl,gl=H.heap.size:=⟨_,rfl⟩;obtain⟨u,co⟩:∃u,u=(H.setCell (af tb 5) (aA H.heap.size d d)).alloc (.cells (madeCells #[aL,aL] (d*2)) 150):=⟨_,rfl⟩;have b2:ax (fun k=>k=tb) H u:=by rw[co];exact((ax.refl (fun k=>k=tb) H).set (a:=(af tb 5)) _ (.inl rfl)).alloc _
      have fR:u.heap[tb]? =some (wY (.slice T j P) (.slice am j an) N fb (.slice aw d nc) (aA gl d d) (aL) j):=by rw[co,dE];exact(bL _ _ _ (aQ cA)).trans (di H tb 5 _ _ _ ch.o)
      have fE:cK u w.heap.size gl d d (fun _=>aL) (fun _=>aL):=by
       have h:=Mk (H.setCell (af tb 5) (aA H.heap.size d d)) w.heap.size d (by simp;exact cG.o.size) aa;rw[co,dE];simpa using h
      have hM:gl<u.heap.size/\tb<gl/\w.heap.size<=gl:=by rw[co,dE];simp;exact⟨cA,cG.o.size⟩
      have fC:Else H (fun k=>k=tb):=fun k B h2=>by subst h2;exact⟨_,_,_,ch.o,ai,ai,ai,ai⟩
      have fL:vJ u w.heap.size fb j (.slice T j P) N (.slice aw d nc) ab R:=eb.o.kept b2 fC;have ex:u.ownsRow w.heap.size 2 1 (.slice am j an) j ((bV R).map (Value.int .i64)):=oW fl.o b2 (fun k B h2=>by subst h2;exact⟨_,_,_,ch.o,ai⟩);have fD:u.ownsRow wr.heap.size 29 3 (.slice I j g2) j ((kC R).flatMap dw):=oW e9.o b2 (fun k B h2=>by subst h2;exact⟨_,_,_,ch.o,ai⟩);have fF:u.ownsMap prog 27 (plainElem prog 3) U j D:=wX ff.o (b2.block U aa aa);have fx:Below w.heap.size w u:=cG.o.trans (b2.toBelow cG.o.size (fun k h=>aa));have bb:=ag fR;have bZ:=ag fE;have ec:=ag fL;have cj:=ag ex;have de:=ag fD;have ea:=ag fF;have d6:=ag fx;have hc:=bb.o;have ia:=b2.size;have hf:U<u.heap.size:=aa;have go:∀g,(Value.slice am j an).ownBlock=some g->g<u.heap.size:=fun g h=>(ex.lt g h).2;have gI:=ag go;clear hc go;rw[<-co];clear co dE b2 fR fE fC fL ex fD fF fx ch eb fl e9 ff cG gx gF fu gN hA cA;obtain⟨b1,c2⟩:∃b1,b1=decide (0<j):=⟨_,rfl⟩;have hr:decide ((j:Int)>0)=b1:=by rw[c2];simp
      have hs:decide ((0:Int)<(j:Int))=b1:=by rw[c2];simp
      have ht:decide (0<j)=b1:=c2.symm;have e5:=ag c2;clear c2
      go_upto_if 102 with fail
      clear hr hs ht
      go_cut []from 12 (fun bu=>∃(yv:Value) (LN:Nat->Value),Hid (bu.heap[tb]? =some (wY (.slice T j P) (.slice am j an) N fb (.slice aw d nc) (aA gl d d) yv j))/\Hid (bu.ownsRow u.heap.size 2 1 yv j ((jv R (dS R)).map (Value.int .i64)))/\Hid (cK bu w.heap.size gl d d LN (fun _=>aL))/\Hid (ax (fun k=>k=tb\/k=gl) u bu)/\
       Hid (∀k,k<d->k≠2*j-2->LN k=aL)/\Hid (0<j->bu.ownsRow u.heap.size 27 1 (LN (2*j-2)) j (((dS R).map (jN R)).map (Value.int .u32))))
      case first=>
       by_cases f7:j=0
       .obtain rfl:b1=false:=by rw[e5.o];simp;omega
        have g0:R=[]:=gU aa;have hq:jv R (dS R)=[]:=by subst g0;simp[jv,dS,kC]
        have fa:=ag f7;clear f7;go_wp2;go_meet;refine⟨aL,fun _=>aL,bb.o,?_,bZ.o,ax.refl _ _,fun _ _ _=>rfl,fun h=>absurd fa.o aa⟩;show World.ownsRow _ _ _ _ _ _ _;rw[hq,fa.o];exact dx _ _ _ _
       .obtain rfl:b1=true:=by rw[e5.o];simp;omega
        have cp:2*j-2<d:=by have:=gB.o;omega
        obtain⟨A,eM⟩:∃A,A=2*j-2:=⟨_,rfl⟩;have ed:=ag eM;rw[<-eM]at cp;clear eM
        go_wp2_with fail
        go_loopg [105] j (fun b7 hv wr=>∃(i:Nat) (yv vr:Value),hv=.int .i64 i/\i<=j/\j-i<=b7/\Hid (wr.heap[tb]? =some (wY (.slice T j P) (.slice am j an) N fb (.slice aw d nc) (aA gl d d) yv j))/\Hid (wr.ownsRow u.heap.size 2 1 yv i (((jv R (dS R)).take i).map (Value.int .i64)))/\
         Hid (cK wr w.heap.size gl d d (upd (fun _=>aL) A vr) (fun _=>aL))/\Hid (wr.ownsRow u.heap.size 27 1 vr i ((((dS R).take i).map (jN R)).map (Value.int .u32)))/\Hid (ax (fun k=>k=tb\/k=gl) u wr))
        case atStart=>
         refine⟨0,aL,aL,rfl,bD _,aa,bb.o,dx _ _ _ _,?_,dx _ _ _ _,ax.refl _ _⟩;show cK _ _ _ _ _ _ _;rw[Jt _ A _ rfl];exact bZ.o
        case round=>
         obtain⟨i,yv,vr,rfl,hi,hX,ee,ds,d9,dq,cH⟩:=hrel;by_cases hQ:i<j
         .have bh:=aR de.o cH.o (fun g h h2=>by
           rcases h2 with h2|h2
           .exact bn de.o bb.o ai g h h2.symm
           .subst h2;exact bB bZ.o de.o ai g rfl h)
          obtain⟨_,_,bm,-,-,aU⟩:=bY.aJ bg ai bh;injection bm with gP gQ gR;subst gP;clear gQ gR;have hK:(kC R).length=j:=by rw[(ja R).length_eq];exact cq
          obtain⟨b,off,cW,fV,aF⟩:=aU.get aa;have bj:=aF i aa 0 aa;have x1:=aF i aa 1 aa;have x2:=aF i aa 2 aa;simp only[dw,fZ,dC,dK]at bj x1 x2;have eH:i<(dS R).length:=by rw[jW];omega
          have eK:=QY eH;have gp:(jv R (dS R)).take (i+1)=(jv R (dS R)).take i++[((kC R)[i]'aa).2.1]:=by
           have h:i<(jv R (dS R)).length:=by unfold jv;simp;exact eH
           rw[ic h];simp only[jv,fP,lL,eK]
          have ge:((dS R).take (i+1)).map (jN R)=((dS R).take i).map (jN R)++[((kC R)[i]'aa).2.2]:=by
           rw[ic eH,bM];simp only[l8,pV,jN,eK]
          have fp:=ag gp;have dj:=ag ge;subst cW;clear aF aU gp ge bh eK;generalize(kC R)[i]'aa=p at*;obtain⟨a9,ba,aE⟩:=p;simp only at fp dj bj x1 x2;have O:=ee.o;have c8:=(aY.1 O).1;obtain⟨cC,cD,rfl⟩:=fI ds.o;obtain⟨C,E,rfl⟩:=fI dq.o
          go_upto_region 28 with fail
          obtain⟨bv,eT⟩:∃bv,bv=wr.heap.size:=⟨_,rfl⟩;obtain⟨w6,bp⟩:∃w6,w6=wr.alloc (.cells #[ae a9,ae ba,ak aE] 29):=⟨_,rfl⟩;have ap:Below wr.heap.size wr w6:=by rw[bp];exact(aI _ _).alloc (aB _) _
          have cB:w6.heap[bv]? =some (.cells #[ae a9,ae ba,ak aE] 29 (0,0)):=by rw[bp,eT];exact bW wr _
          have b6:=(ap.block tb c8).trans O;have hh:=cH.o.size;have hj:=ap.size;have ih:u.heap.size<=bv:=aa;have eo:=ah (w:=w6) (ad:=(af tb 6)) (v:=.slice cC i cD) (aD b6);have ep:=ah (w:=w6) (ad:=(af bv 1)) (v:=.int .i64 ba) (aD cB);have cS:=ag (az ds.o ap);have dr:=ag (az dq.o ap);have fc:Hid (cK w6 w.heap.size gl d d (upd (fun _=>aL) A (.slice C i E)) (fun _=>aL)):=az d9.o ap;have cI:Hid (ax (fun k=>k=tb\/k=gl) u w6):=cH.o.below ap;have cP:=ag b6;have eh:=ag cB;rw[<-bp,<-eT];clear bp ap cB b6 O bj x1 x2 eT ds dq d9 cH ee;refine au (fun W=>∃p:aS w6,W=p.W) [8,9,10,11] [(0,false),(1,false),(2,false),(3,false),(4,true),(5,false),(6,true)] ⟨⟨_,(aI _ _).drew⟩,rfl⟩ 5 ?_;refine aC 7 rfl fun K f=>?_;go_simp;refine f _ _ (fun _ _=>⟨⟨_,(aI _ w6).alloc (aB _) _|>.drew⟩,rfl⟩) ?_;clear f K;refine aC 8 rfl fun K f=>?_;refine bC zX u.heap.size (w:=(w6.alloc (.cells #[ae ba] 2)).drew) (az cS.o ((aI _ w6).alloc (aB _) _|>.drew)) [.int .i64 ba] rfl (by simp[Value.oneCell']) rfl (.tmp 113) (.tmp 116) rfl rfl w6.heap.size rfl (jr _ _) dJ aa aH ?_;intro ar aq bT eJ f2 g1 g8;refine f _ _ (fun _ h=>absurd ay h) ?_;clear f K;refine aG [9,10,11] ?_;have c5:w6.grownBy bT (Value.slice cC i cD).ownBlock:=dR (bN ((aI _ w6).alloc (aB _) _|>.drew)) f2;have bc:ax (fun k=>(Value.slice cC i cD).ownBlock=some k) w6 bT:=(ax.refl _ w6).grown c5 (fun k al=>.inl al);have dV:∀g,(Value.slice cC i cD).ownBlock=some g->u.heap.size<=g:=fun g h=>(cS.o.lt g h).1;have dN:=bq bc cP.o (fun h=>by have:=dV tb h;omega);have gq:bT.cell? (af tb 6)=some (.slice cC i cD):=aD dN;have f8:bT.frozen? (af tb 6)=false:=aD dN;obtain⟨y,dy⟩:∃y,y=bT.setCell (af tb 6) (aA ar (i+1) aq):=⟨_,rfl⟩;have cy:ax (fun k=>k=tb) bT y:=by rw[dy];exact(ax.refl (fun k=>k=tb) bT).set (a:=(af tb 6)) _ (.inl rfl)
          have eN:y.heap[tb]? =some (wY (.slice T j P) (.slice am j an) N fb (.slice aw d nc) (aA gl d d) (aA ar (i+1) aq) j):=by rw[dy];exact di bT tb 6 _ _ _ dN
          have aZ:Hid (y.ownsRow u.heap.size 2 1 (aA ar (i+1) aq) (i+1) (((jv R (dS R)).take (i+1)).map (Value.int .i64))):=by
           have Y:=aR (S:=fun k=>k=tb) eJ cy (fun g h h2=>by have:=(eJ.lt g h).1;omega);show World.ownsRow _ _ _ _ _ _ _;rw[fp.o,bM];exact Y
          have fS:y.ownsRow u.heap.size 27 1 (.slice C i E) i ((((dS R).take i).map (jN R)).map (Value.int .u32)):=aR (S:=fun k=>k=tb) (aR (S:=fun k=>(Value.slice cC i cD).ownBlock=some k) dr.o bc (fun g h h2=>bB dr.o cS.o ai g h h2)) cy (fun g h h2=>by have:=(dr.o.lt g h).1;omega);have c0:cK y w.heap.size gl d d (upd (fun _=>aL) A (.slice C i E)) (fun _=>aL):=(cK.kept fc.o bc (fun h=>by have:=dV gl h;omega)).kept cy aa;have bx:Hid (ax (fun k=>k=tb\/k=gl) u y):=(((cI.o.mono (S':=fun k=>(k=tb\/k=gl)\/u.heap.size<=k) (fun k h=>.inl h)).trans (bc.mono (fun k h=>.inr (dV k h)))).strip).trans (cy.mono (fun k h=>.inl h));have dU:y.heap[bv]? =some (.cells #[ae a9,ae ba,ak aE] 29 (0,0)):=bq cy (bq bc eh.o (fun h=>bn cS.o eh.o ai bv h rfl)) aa;have a4:=ag fS;have cc:=ag c0;have ci:=ag eN;have ib:=bx.o.size;clear bc c5 f2 eJ dN eo ep cS cP cI dV dr fc eh cy fS g1 g8
          go_upto_region 29 with fail
          rw[<-dy];clear dy gq f8;have av:∀g,(Value.slice C i E).ownBlock=some g->u.heap.size<=g:=fun g h=>(a4.o.lt g h).1;have dW:∀{bk o:Nat} {v:Value},bk<y.heap.size->¬(Value.slice C i E).ownBlock=some bk->y.cell? (af bk o)=some v->∀p:wJ (fun k=>(Value.slice C i E).ownBlock=some k) y,p.W.cell? (af bk o)=some v:=fun c1 hd dT p=>((cu p.h c1 hd).1 _).trans dT;have eU:=dW (bk:=tb) (o:=5) (v:=aA gl d d) aa (fun h=>by have:=av tb h;omega) (aD eN);have eV:=dW (bk:=bv) (o:=2) (v:=.int .u32 aE) (aY.1 dU).1 (fun h=>bn a4.o dU ai bv h rfl) (aD dU);have eW:=dW (bk:=gl) (o:=A*2) (v:=.slice C i E) aa (fun h=>by have:=av gl h;omega) ((c0.get cp).1.trans (by rw[upd_same]));have b8:=(c0.get cp).1;rw[upd_same]at b8;have f9:=c0.frozenAt (A*2);have eD:gl<y.heap.size:=aa;have cE:Hid (∀W,ax (fun k=>(Value.slice C i E).ownBlock=some k) y W->aK 95 #[aj fb] W fun e w'=>e=.returned (ae (A:Nat))/\w'=W):=fun W c1=>by
           have dD:=ec.o.iH.blk;have fY:=(aY.1 dD).1;have g4:=bq bx.o dD (fun h=>by
            rcases h with h|h
            .subst h;have Y:=dD.symm.trans bb.o;injection Y with Y;injection Y with _ Y _;exact absurd Y ai
            .subst h;exact bn bZ.o dD ai fb rfl rfl)
           have fW:=bq c1 g4 (fun h=>by have:=av fb h;omega);have h:=jF fb j aa aa W (aD fW) (aD fW);rw[<-ed.o]at h;exact h
          clear eN dU c0 dW;refine au (fun W=>∃p:wJ (fun k=>(Value.slice C i E).ownBlock=some k) y,W=p.W) [19,20,21] [(0,false),(1,false),(2,false),(3,true),(4,false),(6,false),(7,false),(8,false),(9,true),(10,false),(15,false),(16,true)] ⟨⟨_,(ax.refl _ _).drew⟩,rfl⟩ 10 ?_;refine ig 5 17 rfl rfl (fun K f=>?_) (fun K f=>?_)
          .
           refine aT mF rfl _ _ rfl (vals:=#[aj fb]) rfl (cE.o _ ((ax.refl (fun k=>(Value.slice C i E).ownBlock=some k) y).drew)) ?_;rintro e w' ⟨rfl,bo⟩;subst bo;refine⟨_,rfl,f _ _ (fun h _=>h) ?_⟩;clear f K;refine ig 11 17 rfl rfl (fun K f=>?_) (fun K f=>?_)
           .refine aT mF rfl _ _ rfl (vals:=#[aj fb]) rfl (cE.o _ ((ax.refl (fun k=>(Value.slice C i E).ownBlock=some k) y).drew)) ?_;rintro e w' ⟨rfl,bo⟩;subst bo;refine⟨_,rfl,f _ _ (fun h _=>h) ?_⟩;clear f K;refine bf [(12,false),(13,false),(14,true)] ⟨⟨_,((ax.refl (fun k=>(Value.slice C i E).ownBlock=some k) y).drew)⟩,rfl⟩ rfl ?_;refine aC 17 rfl fun K f=>?_;go_simp;refine f _ _ (fun _ _=>⟨⟨_,(((ax.refl (fun k=>(Value.slice C i E).ownBlock=some k) y).alloc _).drew)⟩,rfl⟩) ?_;clear f K;refine aC 18 rfl fun K f=>?_;refine bC uw u.heap.size (w:=(y.alloc (.cells #[ak aE] 27)).drew) (az a4.o ((aI _ y).alloc (aB _) _|>.drew)) [.int .u32 aE] rfl (by simp[Value.oneCell']) rfl (.tmp 134) (.tmp 137) rfl rfl y.heap.size rfl (jr _ _) dJ aa aH ?_;intro M L G a7 bP c3 c7;have bO:y.grownBy G (Value.slice C i E).ownBlock:=dR (bN ((aI _ y).alloc (aB _) _|>.drew)) bP;have X:ax (fun k=>(Value.slice C i E).ownBlock=some k) y G:=(ax.refl _ y).grown bO (fun k al=>.inl al);refine f _ _ (fun _ _=>⟨⟨_,X⟩,rfl⟩) ?_;clear f K;refine aG [19,20,21] ?_;have bQ:¬(Value.slice C i E).ownBlock=some gl:=fun h=>by have:=av gl h;omega
            obtain⟨bz,bA⟩:=cu X eD bQ;have gr:=(bz (A*2)).trans b8;have fv:=(bA (A*2)).trans f9;have ao:ax (fun k=>k=gl) G (G.setCell (af gl (A*2)) (aA M (i+1) L)):=(ax.refl (fun k=>k=gl) G).set (a:=(af gl (A*2))) _ (.inl rfl);have cQ:Hid ((G.setCell (af gl (A*2)) (aA M (i+1) L)).heap[tb]? =some (wY (.slice T j P) (.slice am j an) N fb (.slice aw d nc) (aA gl d d) (aA ar (i+1) aq) j)):=bq ao (bq X ci.o (fun h=>by have:=av tb h;omega)) aa;have cT:Hid ((G.setCell (af gl (A*2)) (aA M (i+1) L)).ownsRow u.heap.size 2 1 (aA ar (i+1) aq) (i+1) (((jv R (dS R)).take (i+1)).map (Value.int .i64))):=aR (S:=fun k=>k=gl) (aR (S:=fun k=>(Value.slice C i E).ownBlock=some k) aZ.o X (fun g h h2=>bB a4.o aZ.o ai g h2 h)) ao (fun g h h2=>by have:=(aZ.o.lt g h).1;omega);have cN:Hid (cK (G.setCell (af gl (A*2)) (aA M (i+1) L)) w.heap.size gl d d (upd (fun _=>aL) A (aA M (i+1) L)) (fun _=>aL)):=by
             have h:=(cK.kept cc.o X bQ).Bu cp (aA M (i+1) L);rwa [tQ]at h
            have cR:Hid ((G.setCell (af gl (A*2)) (aA M (i+1) L)).ownsRow u.heap.size 27 1 (aA M (i+1) L) (i+1) ((((dS R).take (i+1)).map (jN R)).map (Value.int .u32))):=by
             have h:=aR (S:=fun k=>k=gl) a7 ao (fun g h h2=>by have:=(a7.lt g h).1;omega);show World.ownsRow _ _ _ _ _ _ _;rw[dj.o,bM];exact h
            have cJ:Hid (ax (fun k=>k=tb\/k=gl) u (G.setCell (af gl (A*2)) (aA M (i+1) L))):=(((bx.o.mono (S':=fun k=>(k=tb\/k=gl)\/u.heap.size<=k) (fun k h=>.inl h)).trans (X.mono (fun k h=>.inr (av k h)))).strip).trans (ao.mono (fun k h=>.inr h));clear bz bA X ao bO bP a7 eU eV eW b8 f9 a4 cc ci aZ bx av c3 c7;go_wp2
            go_roundg (j-(i+1))
            case measure=>omega
            case rel=>exact⟨i+1,_,_,by go_num,aa,aB _,cQ,cT,cN,cR,cJ⟩
           .go_simp;refine f _ _ (fun _ _=>⟨⟨_,(((ax.refl (fun k=>(Value.slice C i E).ownBlock=some k) y).alloc _).drew)⟩,rfl⟩) ?_;clear f K;refine aC 11 rfl fun K f=>?_;refine aT mF rfl _ _ rfl (vals:=#[aj fb]) rfl (cE.o _ (((ax.refl (fun k=>(Value.slice C i E).ownBlock=some k) y).alloc _).drew)) ?_;rintro e w' ⟨rfl,bo⟩;subst bo;refine⟨_,rfl,f _ _ (fun h _=>h) ?_⟩;clear f K;refine bf [(12,false),(13,false),(14,true)] ⟨⟨_,(((ax.refl (fun k=>(Value.slice C i E).ownBlock=some k) y).alloc _).drew)⟩,rfl⟩ rfl ?_;refine aC 18 rfl fun K f=>?_;refine bC uw u.heap.size (w:=(y.alloc (.cells #[ak aE] 27)).drew) (az a4.o ((aI _ y).alloc (aB _) _|>.drew)) [.int .u32 aE] rfl (by simp[Value.oneCell']) rfl (.tmp 134) (.tmp 137) rfl rfl y.heap.size rfl (jr _ _) dJ aa aH ?_;intro M L G a7 bP c3 c7;have bO:y.grownBy G (Value.slice C i E).ownBlock:=dR (bN ((aI _ y).alloc (aB _) _|>.drew)) bP;have X:ax (fun k=>(Value.slice C i E).ownBlock=some k) y G:=(ax.refl _ y).grown bO (fun k al=>.inl al);refine f _ _ (fun _ _=>⟨⟨_,X⟩,rfl⟩) ?_;clear f K;refine aG [19,20,21] ?_;have bQ:¬(Value.slice C i E).ownBlock=some gl:=fun h=>by have:=av gl h;omega
            obtain⟨bz,bA⟩:=cu X eD bQ;have gr:=(bz (A*2)).trans b8;have fv:=(bA (A*2)).trans f9;have ao:ax (fun k=>k=gl) G (G.setCell (af gl (A*2)) (aA M (i+1) L)):=(ax.refl (fun k=>k=gl) G).set (a:=(af gl (A*2))) _ (.inl rfl);have cQ:Hid ((G.setCell (af gl (A*2)) (aA M (i+1) L)).heap[tb]? =some (wY (.slice T j P) (.slice am j an) N fb (.slice aw d nc) (aA gl d d) (aA ar (i+1) aq) j)):=bq ao (bq X ci.o (fun h=>by have:=av tb h;omega)) aa;have cT:Hid ((G.setCell (af gl (A*2)) (aA M (i+1) L)).ownsRow u.heap.size 2 1 (aA ar (i+1) aq) (i+1) (((jv R (dS R)).take (i+1)).map (Value.int .i64))):=aR (S:=fun k=>k=gl) (aR (S:=fun k=>(Value.slice C i E).ownBlock=some k) aZ.o X (fun g h h2=>bB a4.o aZ.o ai g h2 h)) ao (fun g h h2=>by have:=(aZ.o.lt g h).1;omega);have cN:Hid (cK (G.setCell (af gl (A*2)) (aA M (i+1) L)) w.heap.size gl d d (upd (fun _=>aL) A (aA M (i+1) L)) (fun _=>aL)):=by
             have h:=(cK.kept cc.o X bQ).Bu cp (aA M (i+1) L);rwa [tQ]at h
            have cR:Hid ((G.setCell (af gl (A*2)) (aA M (i+1) L)).ownsRow u.heap.size 27 1 (aA M (i+1) L) (i+1) ((((dS R).take (i+1)).map (jN R)).map (Value.int .u32))):=by
             have h:=aR (S:=fun k=>k=gl) a7 ao (fun g h h2=>by have:=(a7.lt g h).1;omega);show World.ownsRow _ _ _ _ _ _ _;rw[dj.o,bM];exact h
            have cJ:Hid (ax (fun k=>k=tb\/k=gl) u (G.setCell (af gl (A*2)) (aA M (i+1) L))):=(((bx.o.mono (S':=fun k=>(k=tb\/k=gl)\/u.heap.size<=k) (fun k h=>.inl h)).trans (X.mono (fun k h=>.inr (av k h)))).strip).trans (ao.mono (fun k h=>.inr h));clear bz bA X ao bO bP a7 eU eV eW b8 f9 a4 cc ci aZ bx av c3 c7;go_wp2
            go_roundg (j-(i+1))
            case measure=>omega
            case rel=>exact⟨i+1,_,_,by go_num,aa,aB _,cQ,cT,cN,cR,cJ⟩
          .go_simp;refine f _ _ (fun _ _=>⟨⟨_,(((ax.refl (fun k=>(Value.slice C i E).ownBlock=some k) y).alloc _).drew)⟩,rfl⟩) ?_;clear f K;refine aC 5 rfl fun K f=>?_;refine aT mF rfl _ _ rfl (vals:=#[aj fb]) rfl (cE.o _ (((ax.refl (fun k=>(Value.slice C i E).ownBlock=some k) y).alloc _).drew)) ?_;rintro e w' ⟨rfl,bo⟩;subst bo;refine⟨_,rfl,f _ _ (fun h _=>h) ?_⟩;clear f K;refine aC 11 rfl fun K f=>?_;refine aT mF rfl _ _ rfl (vals:=#[aj fb]) rfl (cE.o _ (((ax.refl (fun k=>(Value.slice C i E).ownBlock=some k) y).alloc _).drew)) ?_;rintro e w' ⟨rfl,bo⟩;subst bo;refine⟨_,rfl,f _ _ (fun h _=>h) ?_⟩;clear f K;refine bf [(12,false),(13,false),(14,true)] ⟨⟨_,(((ax.refl (fun k=>(Value.slice C i E).ownBlock=some k) y).alloc _).drew)⟩,rfl⟩ rfl ?_;refine aC 18 rfl fun K f=>?_;refine bC uw u.heap.size (w:=(y.alloc (.cells #[ak aE] 27)).drew) (az a4.o ((aI _ y).alloc (aB _) _|>.drew)) [.int .u32 aE] rfl (by simp[Value.oneCell']) rfl (.tmp 134) (.tmp 137) rfl rfl y.heap.size rfl (jr _ _) dJ aa aH ?_;intro M L G a7 bP c3 c7;have bO:y.grownBy G (Value.slice C i E).ownBlock:=dR (bN ((aI _ y).alloc (aB _) _|>.drew)) bP;have X:ax (fun k=>(Value.slice C i E).ownBlock=some k) y G:=(ax.refl _ y).grown bO (fun k al=>.inl al);refine f _ _ (fun _ _=>⟨⟨_,X⟩,rfl⟩) ?_;clear f K;refine aG [19,20,21] ?_;have bQ:¬(Value.slice C i E).ownBlock=some gl:=fun h=>by have:=av gl h;omega
           obtain⟨bz,bA⟩:=cu X eD bQ;have gr:=(bz (A*2)).trans b8;have fv:=(bA (A*2)).trans f9;have ao:ax (fun k=>k=gl) G (G.setCell (af gl (A*2)) (aA M (i+1) L)):=(ax.refl (fun k=>k=gl) G).set (a:=(af gl (A*2))) _ (.inl rfl);have cQ:Hid ((G.setCell (af gl (A*2)) (aA M (i+1) L)).heap[tb]? =some (wY (.slice T j P) (.slice am j an) N fb (.slice aw d nc) (aA gl d d) (aA ar (i+1) aq) j)):=bq ao (bq X ci.o (fun h=>by have:=av tb h;omega)) aa;have cT:Hid ((G.setCell (af gl (A*2)) (aA M (i+1) L)).ownsRow u.heap.size 2 1 (aA ar (i+1) aq) (i+1) (((jv R (dS R)).take (i+1)).map (Value.int .i64))):=aR (S:=fun k=>k=gl) (aR (S:=fun k=>(Value.slice C i E).ownBlock=some k) aZ.o X (fun g h h2=>bB a4.o aZ.o ai g h2 h)) ao (fun g h h2=>by have:=(aZ.o.lt g h).1;omega);have cN:Hid (cK (G.setCell (af gl (A*2)) (aA M (i+1) L)) w.heap.size gl d d (upd (fun _=>aL) A (aA M (i+1) L)) (fun _=>aL)):=by
            have h:=(cK.kept cc.o X bQ).Bu cp (aA M (i+1) L);rwa [tQ]at h
           have cR:Hid ((G.setCell (af gl (A*2)) (aA M (i+1) L)).ownsRow u.heap.size 27 1 (aA M (i+1) L) (i+1) ((((dS R).take (i+1)).map (jN R)).map (Value.int .u32))):=by
            have h:=aR (S:=fun k=>k=gl) a7 ao (fun g h h2=>by have:=(a7.lt g h).1;omega);show World.ownsRow _ _ _ _ _ _ _;rw[dj.o,bM];exact h
           have cJ:Hid (ax (fun k=>k=tb\/k=gl) u (G.setCell (af gl (A*2)) (aA M (i+1) L))):=(((bx.o.mono (S':=fun k=>(k=tb\/k=gl)\/u.heap.size<=k) (fun k h=>.inl h)).trans (X.mono (fun k h=>.inr (av k h)))).strip).trans (ao.mono (fun k h=>.inr h));clear bz bA X ao bO bP a7 eU eV eW b8 f9 a4 cc ci aZ bx av c3 c7;go_wp2
           go_roundg (j-(i+1))
           case measure=>omega
           case rel=>exact⟨i+1,_,_,by go_num,aa,aB _,cQ,cT,cN,cR,cJ⟩
         .obtain rfl:i=j:=aa;have cw:=jW R;have ho:(jv R (dS R)).length=i:=by simp[jv,cw];omega
          have gK:Hid (wr.ownsRow u.heap.size 2 1 yv i ((jv R (dS R)).map (Value.int .i64))):=by
           have h:=ds.o;rw[kD aa]at h;exact h
          have gG:Hid (wr.ownsRow u.heap.size 27 1 vr i (((dS R).map (jN R)).map (Value.int .u32))):=by
           have h:=dq.o;rw[kD aa]at h;exact h
          clear cw ho;go_wp2;go_meet;refine⟨yv,upd (fun _=>aL) A vr,ee.o,gK.o,d9.o,cH.o,?_,?_⟩
          .intro k al h5;exact upd_ne (by have:=ed.o;omega)
          .intro _;show World.ownsRow _ _ _ _ _ _ _;rw[<-ed.o,upd_same];exact gG.o
      case rest=>
       obtain⟨yv,fs,dp,fq,cd,cL,ca,ef⟩:=hcut;have eQ:=qA dl.o.1 dl.o.2;have gH:=ag eQ;have id:=cL.o.size;have fB:Else u (fun k=>k=tb\/k=gl):=fun k B h2=>by
        rcases h2 with h2|h2
        .subst h2;exact⟨_,_,_,bb.o,ai,ai,ai,ai⟩
        .subst h2;rcases bZ.o.2 with⟨x,-⟩|⟨g,cU,cV,x,-,aM,-⟩
         .cases x
         .injection x with x;injection x with x;injection x with x;subst x;exact⟨_,_,_,aM,ai,ai,ai,ai⟩
       have dm:=ag (ec.o.kept cL.o fB);have fn:Hid (wc.ownsRow w.heap.size 2 1 (.slice am j an) j ((bV R).map (Value.int .i64))):=aR cj.o cL.o (fun g h h2=>by
        rcases h2 with h2|h2
        .exact bn cj.o bb.o ai g h h2.symm
        .subst h2;exact bB bZ.o cj.o ai g rfl h)
       have fg:Hid (wc.ownsMap prog 27 (plainElem prog 3) U j D):=wX ea.o (cL.o.block U hf (fun h=>by
        obtain⟨em,ek,aM,-⟩:=ea.o;rcases h with h|h
        .subst h;have Y:=aM.symm.trans bb.o;cases Y
        .subst h;rcases bZ.o.2 with⟨x,-⟩|⟨g,cU,cV,x,-,c6,-⟩
         .cases x
         .injection x with x;injection x with x;injection x with x;subst x;rw[aM]at c6;cases c6))
       have e6:Hid (Below w.heap.size w wc):=d6.o.trans (cL.o.toBelow d6.o.size (fun k h=>by rcases h with h|h<;>omega));have gE:Hid (yM wc u.heap.size j R (dS R) d fs (fun _=>aL)):=by
        have hg:∀t s,FT.At (aX j) t s->t.root s=2*j-2->nl (dS R) t=dS R:=fun t s I b5=>by
         have aN:=kZ I;obtain⟨rfl,rfl⟩:=FT.At.unique I (jU j aN) (by rw[lH aN,b5]);have h:=eQ.top aa;rwa [cq]at h
        refine⟨fun t s I h2=>?_,fun l r q I h2=>?_,fun l r q I h2=>?_,fun k B h2=>?_,fun k B=>rfl,fun k B g h2=>?_,fun i k B h2 ac g bd bE=>?_,fun i k B h2 ac g bd bE=>by cases bd⟩
        .rcases h2 with h2|⟨l,r,q,ac,bd,bE⟩
         .rw[h2,hg t s I h2];have:=ef.o (kZ I);rw[jW,cq];exact this
         .have:=ac.lt;omega
        .have aN:=kZ I;have B:=FT.zy (fM aN▸I);rw[lH aN]at B;have ac:=I.left.lt;have bd:=I.right.lt;exact⟨ca.o _ aa B.1,ca.o _ aa B.2⟩
        .have:=I.lt;omega
        .omega
        .by_cases e:k=2*j-2
         .have aN:0<j:=by rw[dh]at B;omega
          subst e;exact(ef.o aN).lt g h2
         .rw[ca.o k aa e]at h2;cases h2
        .by_cases e:i=2*j-2
         .rw[ca.o k aa aa]at bE;cases bE
         .rw[ca.o i aa e]at bd;cases bd
       have O:=dp.o;have fu:wc.cell? (af tb 4)=some (.slice aw d nc):=aD O;clear O eQ fB ec cj ea d6 de ca ef
       go_wp2_with fail
       go_loopg [15] d (fun b7 hw wr=>∃(m:Nat) (z:Int) (LN LL:Nat->Value),hw=.int .i64 z/\z+1=(m:Int)/\m<=d/\m<=b7/\Hid (cK wr w.heap.size gl d d LN LL)/\Hid (ax (fun k=>k=gl) wc wr)/\Hid (yM wr u.heap.size j R (dS R) m LN LL))
       case atStart=>exact⟨d,_,fs,_,rfl,aa,aB _,aB _,cd,ax.refl _ _,gE⟩
       case round=>
        obtain⟨m,z,LN,LL,rfl,ii,gc,hY,cM,a2,a3⟩:=hrel;have bS:(aX j).length=d:=gZ;by_cases h1:0<m
        .obtain⟨k,rfl⟩:∃k,m=k+1:=⟨m-1,aa⟩;obtain rfl:z=(k:Int):=aa;obtain⟨t,s,I,c9⟩:=tV (j:=j) (k:=k) aa;have aN:=kZ I;obtain⟨cY,cn,x,-,hN,-⟩:=aV dm.o.jg aa;injection x with gS gT gV;subst gS;have O:=dp.o;have dO:tb≠gl:=aa;have ev:=bq a2.o dp.o (fun h=>dO h);have ei:wr.cell? (af tb 4)=some (aA cY (aX j).length nc):=by rw[bS];simp[World.cell?,ev]
         have ej:wr.cell? (af tb 5)=some (aA gl (aX j).length d):=by rw[bS];simp[World.cell?,ev]
         have f3:cY≠gl:=fun h=>bB cd.o dm.o.jg ai gl rfl (by rw[<-h];rfl);have eG:bY oM 7 wr (some (af cY 0)) (aX j):=by
          have bh:=aR dm.o.jg a2.o (fun g h h2=>by have Y:=Oe h;omega);obtain⟨_,_,bm,-,-,Y⟩:=bY.aJ jA ai bh;injection bm with Z cl cm;rw[<-Z]at Y;exact Y
         have fy:u.heap.size<=wr.heap.size:=by have:=a2.o.size;omega
         have es:cK wr w.heap.size gl (aX j).length d LN LL:=by rw[bS];exact cM.o
         have e3:aK 96 #[aj tb,ae k,.map (some U)] wr fun e w'=>e=.returned (.tuple #[])/\∃du dt,cK w' w.heap.size gl d d du dt/\ax (fun k=>k=gl) wr w'/\yM w' u.heap.size j R (dS R) k du dt:=by
          cases t with
          |leaf a=>
           refine(yJ a s tb cY 0 nc gl d w.heap.size k U (aX j) LN LL wr I c9 aa ei eG ej es).mono ?_;rintro e w' ⟨rfl,vf,hm,B,h2,ac⟩;rw[bS]at B;exact⟨rfl,LN,_,B,ac,a3.o.leaf cM.o I c9 ac fy hm h2⟩
          |node l r=>
           have ez:=a3.o.cur I aa;rw[c9]at ez;obtain⟨gM,gO,el,-,-,aU⟩:=Rd.aJ ez;rw[bR]at el;have hU:=FT.wP l r s;obtain⟨gW,gX⟩:=a3.o.emp l r s I aa;have hn:∀p,p∈(dP 0 j).subs 0->p.1.wf:=fun p hp=>FT.qw _ _ (bJ 0 j aN).1 p hp;have eR:=hn _ (FT.at_mem (fM aN▸I));have eE:∀i,i∈nl (dS R) (.node l r)->i<j:=fun i hi=>by
            have:=gH.o.lt (bG.1 hi).1;omega
           have g5:=FT.Af _ 0 (bJ 0 j aN).1 _ (FT.at_mem (fM aN▸I));have hP:(FT.node l r).hi<=(dP 0 j).hi:=g5;have hO:=(bJ 0 j aN).2.2;have hZ:l.hi<=(FT.node l r).hi:=by have:=FT.fe r eR.2.1;have:=eR.2.2;show l.hi<=r.hi;omega
           have g7:(nl (dS R) (.node l r)).length<=(dS R).length:=fO _ _;rw[jW]at g7;have g9:wr.ownsMap prog 27 (plainElem prog 3) U j D:=wX fg.o (a2.o.block U aa (fun h=>by
            obtain⟨em,ek,aM,-⟩:=fg.o;subst h;rcases cd.o.2 with⟨x,-⟩|⟨g,cU,cV,x,-,c6,-⟩
            .cases x
            .injection x with x;injection x with x;injection x with x;subst x;rw[aM]at c6;cases c6))
           refine(yI l r s tb cY 0 nc gl d w.heap.size k (l.root s) (r.root (s+l.size)) l.hi U j (aX j) LN LL (nl (dS R) (.node l r)) (jN R) gM gO D wr I c9 rfl rfl rfl aa aa ei eG ej es ⟨f3,dO,fun b o e=>?_⟩ el aU aa gW gX g9 (fun i hi=>?_) (fun i hi=>?_) (fun i hi=>by have:=eE i hi;omega)).mono ?_
           .intro h;subst h;exact bB cM.o ez ai b rfl (by rw[el,e];rfl)
           .obtain⟨sm,gc⟩:=gC.o;have Y:=(gc.2.2.2.2 (jN R i)).2 (.lit (.int .i64 0));rw[Y];have eq:=BK dl.o.2 j aa i (eE i hi);have gY:placeF R j (jN R i)=some (i:Int):=eq;rw[gY]
           .have f6:i<R.length:=by have:=eE i hi;omega
            have eq:bU R i=R[i]:=by simp[bU,f6]
            unfold jN;rw[eq];exact fj.o _ (bF f6)
           .rintro e w' ⟨rfl,vl,vr,vf,B,h2,ac,bd,bE,cZ⟩;rw[bS]at B;exact⟨rfl,_,_,B,cZ,a3.o.node cM.o I eR c9 cZ fy h2 ac bd bE⟩
         have e7:=ag e3;clear e3 es eG ev ei ej O f3 gT gV
         go_wp2_with fail
         refine e7.o.mono ?_;rintro e w' ⟨rfl,du,dt,B,h2,ac⟩;have gt:=ag B;have gu:Hid (ax (fun k=>k=gl) wc w'):=a2.o.trans h2;have gv:=ag ac;clear B h2 ac e7;go_wp2
         go_roundg k
         case measure=>omega
         case rel=>exact⟨k,(k:Int)-1,du,dt,by go_num,aa,aa,aB _,gt,gu,gv⟩
        .obtain rfl:m=0:=aa;obtain rfl:z=-1:=aa;have ie:=a2.o.size;have a5:vJ wr w.heap.size fb j (.slice T j P) N (.slice aw d nc) ab R:=dm.o.kept a2.o (fun k B h2=>by
          subst h2;rcases cd.o.2 with⟨x,-⟩|⟨g,cU,cV,x,-,aM,-⟩
          .cases x
          .injection x with x;injection x with x;injection x with x;subst x;exact⟨_,_,_,aM,ai,ai,ai,ai⟩)
         have ey:=aR fn.o a2.o (fun g h h2=>by subst h2;exact bB cd.o fn.o ai g rfl h);have dA:=aR fq.o a2.o (fun g h h2=>by subst h2;exact bB cd.o fq.o ai g rfl h);have dO:tb≠gl:=aa;have ew:=bq a2.o dp.o (fun h=>dO h);have fz:Below w.heap.size w wr:=e6.o.trans (a2.o.toBelow e6.o.size (fun k h=>aa));have et:=cM.o;have cw:=jW R;have e4:Hid (jw wr w.heap.size wr.heap.size tb fb R (List.replicate R.length false) (dS R) ⟨.slice T j P,.slice am j an,N,.slice aw d nc,aA gl d d,yv,ab,LN,LL⟩/\Below w.heap.size w wr):=by
          have Z:R.length=j:=cq;have fY:=(aY.1 a5.iH.blk).1;have hl:=(aY.1 ew).1;refine⟨⟨?_,⟨hk,hl,a5.Qu,fY,aB _⟩,?_,?_,?_,?_,?_,?_,?_,?_,?_,?_,?_,?_,?_,?_,?_⟩,fz⟩
          .rw[cw,Z];exact ew
          .rw[Z];exact a5.row
          .rw[Z];exact ey
          .rw[Z];exact a5.DR
          .rw[Z];exact a5.iH
          .rw[Z,bS];have h:=a5.jg;rw[bS]at h;exact h
          .rw[Z,bS];exact et
          .rw[cw,Z];exact bI dA aa
          .intro t s I;rw[Z]at I;exact bI (a3.o.all I) aa
          .intro l r s I;rw[Z]at I;exact bI (a3.o.Br l r s I (bD _)) aa
          .intro k al;rw[Z]at al;exact(a3.o.DJ k al (bD _)).1
          .intro v dT g aP;rcases dT with rfl|rfl|rfl|rfl|rfl|rfl|rfl
           .exact(a5.row.lt g aP).2
           .exact(ey.lt g aP).2
           .exact(a5.DR.lt g aP).2
           .exact(a5.jg.lt g aP).2
           .exact(et.lt g aP).2
           .exact(dA.lt g aP).2
           .exact(a5.iH.row.lt g aP).2
          .intro k al;rw[Z]at al;exact⟨fun g aP=>(a3.o.QZ k al g aP).2,fun g aP=>((a3.o.DJ k al (bD _)).2 g aP).2⟩
          .intro g aP h2;have hD:=gI.o g aP;have hE:=(dA.lt g h2).1;omega
          .intro i k B h2 ac;rw[Z]at B h2;exact a3.o.Iz i k B h2 ac
          .intro i k B h2 ac;rw[Z]at B h2;exact a3.o.Gw i k B h2 ac
         clear a5 ey dA ew fz et cw;go_wp2;go_ret2;rw[gD.o];exact⟨tb,fb,_,rfl,e4.o.1,e4.o.2⟩
end
section
open Go.RowKit Go.Sort Go.Shelf Go.Lib Go.Maps
def nC {α:Type} (f:Nat->α) (k:Nat) (v:α):Nat->α:=fun j=>if j=k then v else f j
theorem jK {α:Type} (f:Nat->α) (k:Nat) (v:α):nC f k v k=v:=by simp[nC]
theorem xm {α:Type} {f:Nat->α} {k j:Nat} {v:α} (h:j≠k):nC f k v j=f j:=by simp[nC,h]
structure gK (w:World) (lo hi tb fb:Nat) (R:List Pt) (gone:List Bool) (cnt:Nat) (yy:List Nat) (nc:Nat->List Nat) (lc:Nat->List Int) (V:wN):Prop where
 blk:w.heap[tb]? =some (wY V.rv V.xv V.gv fb V.nv V.lv V.yv cnt)
 fC:lo<=tb/\tb<hi/\lo<=fb/\fb<hi/\hi<=w.heap.size
 row:w.ownsRow lo 29 3 V.rv R.length (R.flatMap dw)
 xs:w.ownsRow lo 2 1 V.xv R.length ((bV R).map (Value.int .i64))
 DR:w.ownsRow lo 4 1 V.gv R.length (gone.map Value.bool)
 iH:nL w lo fb R.length V.fv
 jg:w.ownsRow lo 163 7 V.nv (aX R.length).length ((aX R.length).flatMap oM)
 EO:w.ownsRow lo 150 2 V.lv (aX R.length).length (Ov V.LN V.LL (aX R.length).length)
 ys:w.ownsRow lo 2 1 V.yv yy.length ((jv R yy).map (Value.int .i64))
 Gg:∀k,k<(aX R.length).length->w.ownsRow lo 27 1 (V.LN k) (nc k).length (((nc k).map (jN R)).map (Value.int .u32))
 Br:∀l r s,FT.At (aX R.length) (.node l r) s->w.ownsRow lo 3 1 (V.LL ((FT.node l r).root s)) (lc ((FT.node l r).root s)).length ((lc ((FT.node l r).root s)).map (Value.int .i64))
 DJ:∀k,k<(aX R.length).length->∃a m c,V.LL k=.slice a m c
 top:∀v,v=V.rv\/v=V.xv\/v=V.gv\/v=V.nv\/v=V.lv\/v=V.yv\/v=V.fv->∀g,v.ownBlock=some g->g<hi
 oQ:∀k,k<(aX R.length).length->(∀g,(V.LN k).ownBlock=some g->g<hi)/\∀g,(V.LL k).ownBlock=some g->g<hi
 NI:∀g,V.xv.ownBlock=some g->V.yv.ownBlock≠some g
 Iz:∀i k,i<(aX R.length).length->k<(aX R.length).length->i≠k->∀g,(V.LN i).ownBlock=some g->(V.LN k).ownBlock≠some g
 Gw:∀i k,i<(aX R.length).length->k<(aX R.length).length->i≠k->∀g,(V.LL i).ownBlock=some g->(V.LL k).ownBlock≠some g
theorem fu {w w':World} {g base:Nat} {cs:Array Value} {t:TypeId} {fr:Nat×Nat} {e:TypeId} {sz:Nat} {v:Value} {n:Nat} {xs:List Value} (h:w.ownsRow base e sz v n xs) (K:ax (fun k=>k=g) w w') (b:w.heap[g]? =some (.cells cs t fr)) (ht:t≠e):w'.ownsRow base e sz v n xs:=
 oW h K fun k c a=>by subst a;exact⟨_,_,_,b,ht⟩
theorem Q9 {w w':World} {g base:Nat} {e:TypeId} {sz:Nat} {v:Value} {n:Nat} {xs:List Value} (h:w.ownsRow base e sz v n xs) (K:ax (fun k=>k=g) w w') (c:v.ownBlock≠some g):w'.ownsRow base e sz v n xs:=
 aR h K fun k a b=>by subst b;exact c a
theorem yQ {w w':World} {g base fb n:Nat} {b:Value} {cs:Array Value} {t:TypeId} {fr:Nat×Nat} (h:nL w base fb n b) (K:ax (fun k=>k=g) w w') (c:w.heap[g]? =some (.cells cs t fr)) (d:t≠236) (f:t≠163):nL w' base fb n b:=
 ⟨bq K h.blk fun e=>by subst e;have a:=c.symm.trans h.blk;injection a with a;injection a with _ a _;exact d a,fu h.row K c f⟩
theorem Fj {w w':World} {g b:Nat} {cs d:Array Value} {t c:TypeId} {fr f:Nat×Nat} (h:w.heap[b]? =some (.cells d c f)) (K:ax (fun k=>k=g) w w') (j:w.heap[g]? =some (.cells cs t fr)) (i:t≠c):w'.heap[b]? =some (.cells d c f):=
 bq K h fun e=>by subst e;have a:=j.symm.trans h;injection a with a;injection a with _ a _;exact i a
theorem qE {w:World} {base g n c:Nat} {e:TypeId} {sz m:Nat} {xs:List Value} (h:w.ownsRow base e sz (aA g n c) m xs):∃cs fr,w.heap[g]? =some (.cells cs e fr):=by
 rcases h.2 with⟨a,-⟩|⟨i,d,f,a,-,b,-⟩
 .cases a
 .injection a with a;injection a with a;injection a with a;subst a;exact⟨_,_,b⟩
section
variable {w w':World} {lo hi tb fb:Nat} {R:List Pt} {gone:List Bool} {cnt:Nat} {yy:List Nat} {nc:Nat->List Nat} {lc:Nat->List Int} {V:wN}
theorem gK.kept {S:Nat->Prop} (h:gK w lo hi tb fb R gone cnt yy nc lc V) (K:ax S w w') (hS:∀k,lo<=k->k<hi->¬S k):gK w' lo hi tb fb R gone cnt yy nc lc V:=by
 have ht:=h.top;have a:∀{e:TypeId} {sz:Nat} {v:Value} {n:Nat} {xs:List Value},w.ownsRow lo e sz v n xs->(∀g,v.ownBlock=some g->g<hi)->w'.ownsRow lo e sz v n xs:=fun a d=>aR a K fun g e=>hS g (a.lt g e).1 (d g e);exact⟨bq K h.blk (hS tb h.fC.1 h.fC.2.1),⟨h.fC.1,h.fC.2.1,h.fC.2.2.1,h.fC.2.2.2.1,bA h.fC.2.2.2.2 K.size⟩,
  a h.row (ht _ ay),a h.xs (ht _ ay),a h.DR (ht _ ay),
  ⟨bq K h.iH.blk (hS fb h.fC.2.2.1 h.fC.2.2.2.1),a h.iH.row (ht _ ay)⟩,a h.jg (ht _ ay),a h.EO (ht _ ay),a h.ys (ht _ ay),
  fun k c=>a (h.Gg k c) (h.oQ k c).1,fun l r s b=>a (h.Br l r s b) (h.oQ _ b.lt).2,h.DJ,h.top,h.oQ,h.NI,h.Iz,h.Gw⟩
theorem gK.below {B:Nat} (h:gK w lo hi tb fb R gone cnt yy nc lc V) (a:Below B w w') (e:hi<=B):gK w' lo hi tb fb R gone cnt yy nc lc V:=
 h.kept (S:=fun k=>hi<=k) ⟨a.os,a.tape,a.output,a.size,fun k f g=>a.block k aa⟩ fun k b c d=>aa
theorem gK.BV (h:gK w lo hi tb fb R gone cnt yy nc lc V) (m:Nat):gK (w.setCell (af tb 7) (.int .i64 m)) lo hi tb fb R gone m yy nc lc V:=by
 have K:ax (fun k=>k=tb) w (w.setCell (af tb 7) (.int .i64 m)):=(ax.refl (fun k=>k=tb) w).set (a:=(af tb 7)) _ (.inl rfl);have b:=h.blk;exact⟨di w tb 7 _ _ _ h.blk,aQ h.fC,fu h.row K b ai,fu h.xs K b ai,fu h.DR K b ai,yQ h.iH K b ai ai,fu h.jg K b ai,fu h.EO K b ai,fu h.ys K b ai,
  fun k d=>fu (h.Gg k d) K b ai,fun l r s c=>fu (h.Br l r s c) K b ai,h.DJ,h.top,h.oQ,h.NI,h.Iz,h.Gw⟩
theorem gK.Ra (h:gK w lo hi tb fb R gone cnt yy nc lc V) {g n c:Nat} (f:V.gv=aA g n c) (i:Nat):gK (w.setCell (af g i) (.bool true)) lo hi tb fb R (gone.set i true) cnt yy nc lc V:=by
 have K:ax (fun k=>k=g) w (w.setCell (af g i) (.bool true)):=(ax.refl (fun k=>k=g) w).set (a:=(af g i)) _ (.inl rfl);have e:=h.DR;rw[f]at e;have⟨cs,fr,b⟩:=qE e;refine⟨Fj h.blk K b ai,aQ h.fC,fu h.row K b ai,fu h.xs K b ai,?_,yQ h.iH K b ai ai,fu h.jg K b ai,fu h.EO K b ai,fu h.ys K b ai,
  fun k m=>fu (h.Gg k m) K b ai,fun l r s j=>fu (h.Br l r s j) K b ai,h.DJ,h.top,h.oQ,h.NI,h.Iz,h.Gw⟩
 rw[f,kP];have o:n=R.length:=by
  rcases e.2 with⟨d,-⟩|⟨t,p,q,d,-⟩
  .cases d
  .injection d with _ d _
 subst o;exact(e.stored i (.bool true)).1
theorem gK.U0 (h:gK w lo hi tb fb R gone cnt yy nc lc V) {g n c n':Nat} (j:V.yv=aA g n c) (K:ax (fun k=>k=g) w w') {yy':List Nat} (A:w'.ownsRow lo 2 1 (aA g n' c) yy'.length ((jv R yy').map (Value.int .i64))):
  gK (w'.setCell (af tb 6) (aA g n' c)) lo hi tb fb R gone cnt yy' nc lc {V with yv:=aA g n' c}:=by
 have t:=h.ys;rw[j]at t;have⟨cs,fr,q⟩:=qE t;have ht:=Fj h.blk K q ai;have i:ax (fun k=>k=tb) w' (w'.setCell (af tb 6) (aA g n' c)):=(ax.refl (fun k=>k=tb) w').set (a:=(af tb 6)) _ (.inl rfl);have C:=h.xs;have y:V.xv.ownBlock≠some g:=fun e=>h.NI g e (by rw[j];rfl);have f:∀{e:TypeId} {sz:Nat} {v:Value} {m:Nat} {xs:List Value},w.ownsRow lo e sz v m xs->2≠e->146≠e->(w'.setCell (af tb 6) (aA g n' c)).ownsRow lo e sz v m xs:=fun z o p=>fu (fu z K q o) i ht p;refine⟨di w' tb 6 _ _ _ ht,?_,f h.row ai ai,fu (Q9 C K y) i ht ai,f h.DR ai ai,yQ (yQ h.iH K q ai ai) i ht ai ai,f h.jg ai ai,f h.EO ai ai,fu A i ht ai,
  fun k x=>f (h.Gg k x) ai ai,fun l r s u=>f (h.Br l r s u) ai ai,h.DJ,?_,h.oQ,?_,h.Iz,h.Gw⟩
 .have:=h.fC;have:=K.size;simp;omega
 .intro v B b d;rcases B with e|e|e|e|e|e|e
  .exact h.top v (.inl e) b d
  .exact h.top v (.inr (.inl e)) b d
  .exact h.top v (.inr (.inr (.inl e))) b d
  .exact h.top v (.inr (.inr (.inr (.inl e)))) b d
  .exact h.top v (.inr (.inr (.inr (.inr (.inl e))))) b d
  .exact h.top V.yv ay b (by rw[j];rw[e]at d;exact d)
  .exact h.top v (.inr (.inr (.inr (.inr (.inr (.inr e)))))) b d
 .intro b o p;exact h.NI b o (by rw[j];exact p)
theorem gK.TD (h:gK w lo hi tb fb R gone cnt yy nc lc V) {k g n c n' gl nl cl:Nat} (B:k<(aX R.length).length) (y:V.LN k=aA g n c) (D:V.lv=aA gl nl cl) (K:ax (fun k=>k=g) w w') {L':List Nat} (N:w'.ownsRow lo 27 1 (aA g n' c) L'.length ((L'.map (jN R)).map (Value.int .u32))):
  gK (w'.setCell (af gl (k*2)) (aA g n' c)) lo hi tb fb R gone cnt yy (nC nc k L') lc {V with LN:=upd V.LN k (aA g n' c)}:=by
 have F:=h.Gg k B;rw[y]at F;have⟨cs,fr,x⟩:=qE F;have C:=h.EO;rw[D]at C;have L:nl=(aX R.length).length:=by
  rcases C.2 with⟨q,-⟩|⟨b,O,Q,q,-⟩
  .cases q
  .injection q with _ q _
 subst L;have E:=fu C K x ai;have⟨P,S,p⟩:=qE E;have o:ax (fun k=>k=gl) w' (w'.setCell (af gl (k*2)) (aA g n' c)):=(ax.refl (fun k=>k=gl) w').set (a:=(af gl (k*2))) _ (.inl rfl);have j:∀{e:TypeId} {sz:Nat} {v:Value} {m:Nat} {xs:List Value},w.ownsRow lo e sz v m xs->27≠e->150≠e->(w'.setCell (af gl (k*2)) (aA g n' c)).ownsRow lo e sz v m xs:=fun M z A=>fu (fu M K x z) o p A;refine⟨Fj (Fj h.blk K x ai) o p ai,?_,j h.row ai ai,j h.xs ai ai,j h.DR ai ai,yQ (yQ h.iH K x ai ai) o p ai ai,j h.jg ai ai,?_,j h.ys ai ai,
  fun k' f=>?_,fun l r s J=>j (h.Br l r s J) ai ai,h.DJ,h.top,fun k' f=>⟨fun b d=>?_,(h.oQ k' f).2⟩,h.NI,fun i G z A H b t u=>?_,h.Gw⟩
 .have:=h.fC;have:=K.size;simp;omega
 .show World.ownsRow _ _ _ _ V.lv _ _;rw[D];exact cK.Bu E B _
 .by_cases e:k'=k
  .subst e;rw[jK];show World.ownsRow _ _ _ _ (upd V.LN k' _ k') _ _;rw[upd_same];exact fu N o p ai
  .rw[xm e];show World.ownsRow _ _ _ _ (upd V.LN k _ k') _ _;rw[upd_ne e];exact fu (Q9 (h.Gg k' f) K (fun I=>h.Iz k k' B f (iT e) g (by rw[y];rfl) I)) o p ai
 .by_cases e:k'=k
  .subst e;have d:(upd V.LN k' (aA g n' c) k').ownBlock=some b:=d;rw[upd_same]at d;exact(h.oQ k' f).1 b (by rw[y];exact d)
  .have d:(upd V.LN k (aA g n' c) k').ownBlock=some b:=d;rw[upd_ne e]at d;exact(h.oQ k' f).1 b d
 .have own:∀i,(upd V.LN k (aA g n' c) i).ownBlock=(V.LN i).ownBlock:=fun i=>by
   by_cases e:i=k
   .subst e;rw[upd_same,y];rfl
   .rw[upd_ne e]
  have t:(upd V.LN k (aA g n' c) i).ownBlock=some b:=t;have u:(upd V.LN k (aA g n' c) G).ownBlock=some b:=u;rw[own]at t u;exact h.Iz i G z A H b t u
theorem gK.TE (h:gK w lo hi tb fb R gone cnt yy nc lc V) {D E:FT} {F k g n c n' gl nl cl:Nat} (H:FT.At (aX R.length) (.node D E) F) (J:(FT.node D E).root F=k) (C:V.LL k=aA g n c) (L:V.lv=aA gl nl cl) (K:ax (fun k=>k=g) w w') {L':List Int} (W:w'.ownsRow lo 3 1 (aA g n' c) L'.length (L'.map (Value.int .i64))):
  gK (w'.setCell (af gl (k*2+1)) (aA g n' c)) lo hi tb fb R gone cnt yy nc (nC lc k L') {V with LL:=upd V.LL k (aA g n' c)}:=by
 have I:k<(aX R.length).length:=J▸H.lt;have N:=h.Br D E F H;rw[J,C]at N;have⟨cs,fr,x⟩:=qE N;have B:=h.EO;rw[L]at B;have T:nl=(aX R.length).length:=by
  rcases B.2 with⟨p,-⟩|⟨b,Y,aa,p,-⟩
  .cases p
  .injection p with _ p _
 subst T;have M:=fu B K x ai;have⟨Z,ab,o⟩:=qE M;have j:ax (fun k=>k=gl) w' (w'.setCell (af gl (k*2+1)) (aA g n' c)):=(ax.refl (fun k=>k=gl) w').set (a:=(af gl (k*2+1))) _ (.inl rfl);have f:∀{e:TypeId} {sz:Nat} {v:Value} {m:Nat} {xs:List Value},w.ownsRow lo e sz v m xs->3≠e->150≠e->(w'.setCell (af gl (k*2+1)) (aA g n' c)).ownsRow lo e sz v m xs:=fun U z A=>fu (fu U K x z) j o A;have own:∀i,(upd V.LL k (aA g n' c) i).ownBlock=(V.LL i).ownBlock:=fun i=>by
  by_cases e:i=k
  .subst e;rw[upd_same,C];rfl
  .rw[upd_ne e]
 refine⟨Fj (Fj h.blk K x ai) j o ai,?_,f h.row ai ai,f h.xs ai ai,f h.DR ai ai,yQ (yQ h.iH K x ai ai) j o ai ai,f h.jg ai ai,?_,f h.ys ai ai,
  fun k' d=>f (h.Gg k' d) ai ai,fun l r s G=>?_,fun k' d=>?_,h.top,fun k' d=>⟨(h.oQ k' d).1,fun b y=>?_⟩,h.NI,h.Iz,fun i O z A P b q t=>?_⟩
 .have:=h.fC;have:=K.size;simp;omega
 .show World.ownsRow _ _ _ _ V.lv _ _;rw[L];exact cK.QV M I _
 .have S:=G.lt;generalize Q:(FT.node l r).root s=k' at*;by_cases e:k'=k
  .subst e;rw[jK];show World.ownsRow _ _ _ _ (upd V.LL k' _ k') _ _;rw[upd_same];exact fu W j o ai
  .rw[xm e];show World.ownsRow _ _ _ _ (upd V.LL k _ k') _ _;rw[upd_ne e];have u:=h.Br l r s G;rw[Q]at u;exact fu (Q9 u K (fun u=>h.Gw k k' I S (iT e) g (by rw[C];rfl) u)) j o ai
 .show∃a m X,upd V.LL k _ k'=_;by_cases e:k'=k
  .subst e;rw[upd_same];exact⟨_,_,_,rfl⟩
  .rw[upd_ne e];exact h.DJ k' d
 .have y:(upd V.LL k (aA g n' c) k').ownBlock=some b:=y;rw[own]at y;exact(h.oQ k' d).2 b y
 .have q:(upd V.LL k (aA g n' c) i).ownBlock=some b:=q;have t:(upd V.LL k (aA g n' c) O).ownBlock=some b:=t;rw[own]at q t;exact h.Gw i O z A P b q t
theorem gK.TF (h:gK w lo hi tb fb R gone cnt yy nc lc V) {m n:FT} {o k g c j:Nat} (q:FT.At (aX R.length) (.node m n) o) (t:(FT.node m n).root o=k) (i:V.LL k=aA g (lc k).length c) (x:Int):
  gK (w.setCell (af g j) (.int .i64 x)) lo hi tb fb R gone cnt yy nc (nC lc k ((lc k).set j x)) V:=by
 have u:k<(aX R.length).length:=t▸q.lt;have f:=h.Br m n o q;rw[t,i]at f;have⟨cs,fr,b⟩:=qE f;have K:ax (fun k=>k=g) w (w.setCell (af g j) (.int .i64 x)):=(ax.refl (fun k=>k=g) w).set (a:=(af g j)) _ (.inl rfl);refine⟨Fj h.blk K b ai,aQ h.fC,fu h.row K b ai,fu h.xs K b ai,fu h.DR K b ai,yQ h.iH K b ai ai,fu h.jg K b ai,fu h.EO K b ai,fu h.ys K b ai,
  fun k' v=>fu (h.Gg k' v) K b ai,fun l r s p=>?_,h.DJ,h.top,h.oQ,h.NI,h.Iz,h.Gw⟩
 have y:=p.lt;have d:=h.Br l r s p;generalize z:(FT.node l r).root s=k' at*;by_cases e:k'=k
 .subst e;rw[jK,i,kM,kP];exact(f.stored j (.int .i64 x)).1
 .rw[xm e];exact Q9 d K (fun d=>h.Gw k k' u y (iT e) g (by rw[i];rfl) d)
end
end
end Go.Proofs.YtkjdbndekceffaaGreat
