/- Made small by a program. -/
import Derived.Test.YtkjdbndekceffaaGreatV07
set_option linter.unusedSimpArgs false
set_option linter.unusedVariables false
set_option maxRecDepth 100000
set_option maxHeartbeats 16000000
namespace Go.Proofs.YtkjdbndekceffaaGreat
open Tryz
section
open Go.RowKit Go.Sort Go.Shelf Go.Lib Go.Maps
attribute [local irreducible] wpQuiet
attribute [local go_sem] Oper.dZ
theorem Kv (a:Option Addr) (c:Nat) (l:List Pt) (w:World) (dH:bV bX 3 w a l) (ha:l.length<=20000) (gh:Jw l) (hu:lF l=true):
  aK 35 #[.slice a l.length c] w fun e w'=>∃tb fb V,e=.returned (.tuple #[aj tb,ae 0])/\jK w' w.heap.size w'.heap.size tb fb (fC l) (List.replicate (fC l).length false) (ed (fC l)) V/\Below w.heap.size w w':=by
 have db:=Ie a c l w dH aa gh;rw[hu]at db;have hB:=af dH;obtain⟨n,dI⟩:∃n,n=l.length:=⟨_,rfl⟩;have dS:=af (fun W (c1:Below w.heap.size w W)=>pV a l n c W dI.symm (dH.below c1) aa);have fg:=af dI;rw[<-dI]at ha db |-;have e0:=af (fun W=>zy n aa W);clear dI dH;have d1:decide ((n:Int)>2147483648)=false:=aH;have d2:decide ((2147483648:Int)<(n:Int))=false:=aH;have d3:decide (2147483648<n)=false:=aH;go_enter func35,ntmps35
 go_wp2_with (go_at_call 89;refine db.mono ?_;rintro e w1 ⟨rfl,dA⟩;clear db)
 go_wp2_with fail
 refine(e0.o w1).mono ?_;rintro e w2 ⟨rfl,dv⟩;have cF:Hid (Below w.heap.size w w2):=by rw[dv];exact dA.alloc dA.size _
 have dd:Hid (w2.heap[w1.heap.size]? =some (lX 0 0 (aM) n)):=by rw[dv];exact bY w1 _
 obtain⟨fb,eA⟩:∃fb,fb=w1.heap.size:=⟨_,rfl⟩;have fV:w.heap.size<=fb/\fb<w2.heap.size:=by rw[dv,eA];exact⟨dA.size,ax⟩
 rw[<-eA]at dd |-;clear dv dA eA e0
 go_upto_region 8 with fail
 go_cut [6]from 6 (fun hy bt=>∃tb aX N Q ab,hy=aj tb/\Hid (wJ bt w.heap.size fb n aX N Q ab l)/\Hid (bt.heap[tb]? =some (xV aX (aM) N fb Q (aM) (aM) n))/\Hid (Below w.heap.size w bt)/\w.heap.size<=tb)
 case first=>
  have h1:=PI n aa;have fw:∀(J:World) aX N Q ab,J.ownsRow w.heap.size 29 3 aX n (l.flatMap bX)->J.ownsRow w.heap.size 4 1 N n ((List.replicate n false).map Value.bool)->J.ownsRow w.heap.size 163 7 ab (bf n).length ((bf n).flatMap pR)->J.ownsRow w.heap.size 163 7 Q (bf n).length ((bf n).flatMap pR)->J.heap[fb]? =some (lX 1 0 ab n)->Below w.heap.size w J->
    wJ (J.alloc (.cells #[aX,aM,N,aj fb,Q,aM,aM,ae n] 146)) w.heap.size fb n aX N Q ab l/\(J.alloc (.cells #[aX,aM,N,aj fb,Q,aM,aM,ae n] 146)).heap[J.heap.size]? =some (xV aX (aM) N fb Q (aM) (aM) n)/\Below w.heap.size w (J.alloc (.cells #[aX,aM,N,aj fb,Q,aM,aM,ae n] 146)):=fun J aX N Q ab B h2 ac bd bE cY=>
   ⟨(wJ.mk B h2 ⟨bE,ac⟩ fV.1 bd).kept ((aB.refl (fun _=>False) J).alloc _) (fun k _ h=>h.elim),bY J _,cY.alloc cY.size _⟩
  have dY:=af fw;clear fw;refine au (fun W=>True) [1,4,7,10,11,12] [(0,false),(2,false),(3,false),(5,false),(6,false),(8,false),(9,false)] trivial 6 ?_;have cq:Below w.heap.size w w2.drew:=cF.o.drew;have ez:w2.drew.heap[fb]? =some (lX 0 0 (aM) n):=dd.o;have h7:w2.drew.heap.size=w2.heap.size:=rfl;refine iH 1 4 rfl rfl (fun K f=>?_) (fun K f=>?_)
  .
   refine aY xW rfl _ _ rfl (vals:=#[.slice a n c]) rfl (dS.o w2.drew cq) ?_;rintro e w3 ⟨aX,rfl,b4,br⟩;refine⟨_,rfl,f _ _ (fun _ _=>trivial) ?_⟩;clear f K;have ct:w3.heap[fb]? =some (lX 0 0 (aM) n):=(br.block fb aa).trans ez;have bp:Below w.heap.size w w3:=cq.trans (br.mono cq.size);have eL:=bM b4 cq.size;have dK:=br.size;have dT:=af ct;have bS:=af bp;have ft:=af eL;obtain⟨T,P,rfl⟩:=fK eL;clear b4 br cq ez ct bp eL;refine iH 4 7 rfl rfl (fun K f=>?_) (fun K f=>?_)
   .go_simp;refine f _ _ (fun _ _=>trivial) ?_;clear f K;refine ay 7 rfl fun K f=>?_;have b2:(w3.alloc (.cells (madeCells #[.bool false] n) 4)).heap[fb]? =some (lX 0 0 (aM) n):=(bU _ _ _ aa).trans dT.o;refine aY wK rfl _ _ rfl (vals:=#[aj fb]) rfl (ig fb n aa _ b2) ?_;rintro e J ⟨ab,Q,rfl,jG,a6,bs,aO⟩;refine⟨_,rfl,f _ _ (fun _ _=>trivial) ?_⟩;clear f K;have bG:Below w.heap.size w (w3.alloc (.cells (madeCells #[.bool false] n) 4)):=bS.o.alloc bS.o.size _;have a0:Below w.heap.size w J:=bG.trans (aO.toBelow bG.size (fun k h=>aa));have F:=dY.o J _ (aC w3.heap.size n n) Q ab (Kk (az ft.o ((aJ _ _).alloc (aA _) _)) ai b2 aO) (Kk (zF w3 w.heap.size n bS.o.size aa) ai b2 aO) (bM jG bG.size) (bM a6 bG.size) bs a0;have a1:=af F;have a8:=a0.size;obtain⟨aw,nc,rfl⟩:=fK a6;clear F jG a6 bs aO bG a0 b2;refine aF [10,11,12] ?_;go_wp2;go_meet;exact⟨_,_,_,_,_,rfl,a1.o.1,a1.o.2.1,a1.o.2.2,a8⟩
   .refine aY wK rfl _ _ rfl (vals:=#[aj fb]) rfl (ig fb n aa _ dT.o) ?_;rintro e J ⟨ab,Q,rfl,jG,a6,bs,aO⟩;refine⟨_,rfl,f _ _ (fun _ _=>trivial) ?_⟩;clear f K;have a0:Below w.heap.size w J:=bS.o.trans (aO.toBelow bS.o.size (fun k h=>aa));have ap:Below w.heap.size w (J.alloc (.cells (madeCells #[.bool false] n) 4)):=a0.alloc a0.size _;have be:Below J.heap.size J (J.alloc (.cells (madeCells #[.bool false] n) 4)):=(aJ _ _).alloc (aA _) _;have g2:=(bg.1 bs).1;have F:=dY.o (J.alloc (.cells (madeCells #[.bool false] n) 4)) _ (aC J.heap.size n n) Q ab (az (Kk ft.o ai dT.o aO) be) (zF J w.heap.size n a0.size aa) (az (bM jG bS.o.size) be) (az (bM a6 bS.o.size) be) ((bU _ _ _ g2).trans bs) ap;have gf:(J.alloc (.cells (madeCells #[.bool false] n) 4)).heap.size=J.heap.size+1:=ax;rw[gf]at F;have a1:=af F;have a8:=ap.size;rw[gf]at a8;obtain⟨aw,nc,rfl⟩:=fK a6;clear F jG a6 bs aO a0 ap be;refine aF [4,10,11,12] ?_;go_wp2;go_meet;exact⟨_,_,_,_,_,rfl,a1.o.1,a1.o.2.1,a1.o.2.2,a8⟩
  .
   go_simp;refine f _ _ (fun _ _=>trivial) ?_;clear f K;refine ay 1 rfl fun K f=>?_;have bp:Below w.heap.size w (w2.alloc (.cells (madeCells #[.bool false] n) 4)).drew:=(cF.o.alloc cF.o.size _).drew;have ct:(w2.alloc (.cells (madeCells #[.bool false] n) 4)).drew.heap[fb]? =some (lX 0 0 (aM) n):=(bU w2 _ _ fV.2).trans dd.o;have eB:(w2.alloc (.cells (madeCells #[.bool false] n) 4)).drew.ownsRow w.heap.size 4 1 (aC w2.heap.size n n) n ((List.replicate n false).map Value.bool):=zF w2 w.heap.size n cF.o.size aa;have dK:fb<(w2.alloc (.cells (madeCells #[.bool false] n) 4)).drew.heap.size:=by
    show fb<(w2.alloc (.cells (madeCells #[.bool false] n) 4)).heap.size;simp;omega
   obtain⟨w3,em⟩:∃w3,w3=(w2.alloc (.cells (madeCells #[.bool false] n) 4)).drew:=⟨_,rfl⟩;rw[<-em]at bp ct eB dK;refine aY xW rfl _ _ rfl (vals:=#[.slice a n c]) rfl (by rw[<-em];exact dS.o w3 bp) ?_;rintro e w4 ⟨aX,rfl,b4,br⟩;refine⟨_,rfl,f _ _ (fun _ _=>trivial) ?_⟩;clear f K;have b2:w4.heap[fb]? =some (lX 0 0 (aM) n):=(br.block fb dK).trans ct;have bG:Below w.heap.size w w4:=bp.trans (br.mono bp.size);have cw:=bM b4 bp.size;have fX:=az eB br;have dW:=af b2;have da:=af bG;have gK:=af cw;have gr:=af fX;obtain⟨T,P,rfl⟩:=fK cw;clear b4 br cq ez b2 bG cw ct bp eB fX dK em;refine ay 7 rfl fun K f=>?_;refine aY wK rfl _ _ rfl (vals:=#[aj fb]) rfl (ig fb n aa _ dW.o) ?_;rintro e J ⟨ab,Q,rfl,jG,a6,bs,aO⟩;refine⟨_,rfl,f _ _ (fun _ _=>trivial) ?_⟩;clear f K;have a0:Below w.heap.size w J:=da.o.trans (aO.toBelow da.o.size (fun k h=>aa));have F:=dY.o J _ (aC w2.heap.size n n) Q ab (Kk gK.o ai dW.o aO) (Kk gr.o ai dW.o aO) (bM jG da.o.size) (bM a6 da.o.size) bs a0;have a1:=af F;have a8:=a0.size;obtain⟨aw,nc,rfl⟩:=fK a6;clear F jG a6 bs aO a0;refine aF [10,11,12] ?_;go_wp2;go_meet;exact⟨_,_,_,_,_,rfl,a1.o.1,a1.o.2.1,a1.o.2.2,a8⟩
 case rest=>
  obtain⟨tb,aX,N,Q,ab,rfl,cd,cN,dZ,hj⟩:=hcut;clear cF dd dS;obtain⟨T,P,rfl⟩:=fK cd.o.row;have cy:=(bg.1 cN.o).1;have eP:(ids l).Nodup:=by unfold lF at hu;simpa using hu
  have e1:=af (zD fg.o.symm aa cd.o.row eP);have O:=cN.o;have cj:wc.cell? (ag tb 0)=some (.slice T n P):=aI O;clear O
  go_wp2_with fail
  refine e1.o.mono ?_;rintro e w4 ⟨rfl,cw,b3⟩;have fL:wJ w4 w.heap.size fb n (.slice T n P) N Q ab (fC l):=by
   have h:=cd.o;have hp:∀k,k<wc.heap.size->(Value.slice T n P).ownBlock=some k->∃cs t fr,wc.heap[k]? =some (.cells cs t fr)/\t=29:=fun k al cr=>by
    rcases h.row.2 with⟨x,-⟩|⟨g,cT,cU,x,-,aL,-⟩
    .rw[x]at cr;cases cr
    .rw[x]at cr;injection cr with cr;subst cr;exact⟨_,_,_,aL,rfl⟩
   refine⟨cw,p8 h.ED b3 fun k B h2=>?_,⟨bu b3 h.iU.blk fun h2=>?_,p8 h.iU.row b3 fun k B h2=>?_⟩,h.Rv,p8 h.jD b3 fun k B h2=>?_⟩
   .obtain⟨cs,t,fr,a,rfl⟩:=hp k B h2;exact⟨cs,_,fr,a,ai⟩
   .obtain⟨cs,t,fr,a,rfl⟩:=hp fb (bg.1 h.iU.blk).1 h2;have Y:=a.symm.trans h.iU.blk;injection Y with Y;injection Y with _ Y _;exact absurd Y ai
   .obtain⟨cs,t,fr,a,rfl⟩:=hp k B h2;exact⟨cs,_,fr,a,ai⟩
   .obtain⟨cs,t,fr,a,rfl⟩:=hp k B h2;exact⟨cs,_,fr,a,ai⟩
  have cf:Hid (w4.heap[tb]? =some (xV (.slice T n P) (aM) N fb Q (aM) (aM) n)):=bu b3 cN.o (fun h=>bz cd.o.row cN.o ai tb h rfl);have dc:Hid (Below w.heap.size w w4):=dZ.o.trans (b3.toBelow dZ.o.size (fun k h=>(cd.o.row.lt k h).1));have dk:=af fL;have cp:(fC l).length=n:=by rw[(dV l).length_eq];exact fg.o.symm
  have fP:(ids (fC l)).Nodup:=((dV l).map _).nodup_iff.2 eP;have dl:Hid ((fC l).Pairwise kY/\(ids (fC l)).Nodup):=⟨gz eP,fP⟩;have fi:Hid (Jw (fC l)):=fun p hp=>gh p ((xB l p).1 hp);clear cw b3 fL cd cN dZ e1 fP cj cy;generalize fO:fC l=R at*;have gD:Hid (fC l=R):=fO;clear fO;have cy:=(bg.1 cf.o).1;have O:=cf.o;have cj:w4.cell? (ag tb 0)=some (.slice T n P):=aI O;clear O
  go_wp2_with fail
  go_loopg [52] n (fun b6 hw wr=>∃(i:Nat) (eY:Value),hw=.int .i64 i/\i<=n/\n-i<=b6/\Hid (wr.heap[tb]? =some (xV (.slice T n P) eY N fb Q (aM) (aM) n))/\Hid (wr.ownsRow w4.heap.size 2 1 eY i (((cz R).take i).map (Value.int .i64)))/\Hid (aB (fun k=>k=tb) w4 wr))
  case atStart=>exact⟨0,_,rfl,aT _,aa,cf,cZ _ _ _ _,aB.refl _ _⟩
  case round=>
   obtain⟨i,eY,rfl,hi,hU,bl,bZ,ca⟩:=hrel;by_cases hQ:i<n
   .have bh:=aU dk.o.row ca.o (fun g h h2=>bz dk.o.row cf.o ai g h h2.symm);obtain⟨_,_,bm,-,-,aV⟩:=bV.aD bq ai bh;injection bm with Z ck cl;subst Z;clear ck cl;obtain⟨b,off,cV,fT,aG⟩:=aV.get aa;have bj:=aG i aa 0 aa;have x1:=aG i aa 1 aa;have x2:=aG i aa 2 aa;simp only[bX,eG,eQ,df]at bj x1 x2;have gi:(cz R).take (i+1)=(cz R).take i++[R[i].1]:=by
     have h:i<(cz R).length:=by unfold cz;simp;omega
     rw[gT h];simp[cz]
    have fl:=af gi;subst cV;clear aG aV gi bh;generalize R[i]=p at*;obtain⟨a9,ba,aE⟩:=p;simp only at fl bj x1 x2;have O:=bl.o;have c8:=(bg.1 O).1;obtain⟨am,an,rfl⟩:=fK bZ.o
    go_upto_region 13 with fail
    obtain⟨w6,bo⟩:∃w6,w6=wr.alloc (.cells #[ae a9,ae ba,ak aE] 29):=⟨_,rfl⟩;have ap:Below wr.heap.size wr w6:=by rw[bo];exact(aJ _ _).alloc (aA _) _
    have cB:w6.heap[wr.heap.size]? =some (.cells #[ae a9,ae ba,ak aE] 29 (0,0)):=by rw[bo];exact bY wr _
    have b5:=(ap.block tb c8).trans O;have hg:=ca.o.size;have hh:=ap.size;have en:=ah (w:=w6) (ad:=(ag tb 1)) (v:=.slice am i an) (aI b5);have eo:=ah (w:=w6) (ad:=(ag wr.heap.size 0)) (v:=.int .i64 a9) (aI cB);have ef:=af (az bZ.o ap);have cI:Hid (aB (fun k=>k=tb) w4 w6):=ca.o.below ap;have cO:=af b5;rw[<-bo];clear bo ap cB b5 O bj x1 x2;refine au (fun W=>∃p:aR w6,W=p.W) [8,9,10,11] [(0,false),(1,false),(2,false),(3,false),(4,true),(5,false),(6,true)] ⟨⟨_,(aJ _ _).drew⟩,rfl⟩ 5 ?_;refine ay 7 rfl fun K f=>?_;go_simp;refine f _ _ (fun _ _=>⟨⟨_,(aJ _ w6).alloc (aA _) _|>.drew⟩,rfl⟩) ?_;clear f K;refine ay 8 rfl fun K f=>?_;refine bF AZ w4.heap.size (w:=(w6.alloc (.cells #[ae a9] 2)).drew) (az ef.o ((aJ _ w6).alloc (aA _) _|>.drew)) [.int .i64 a9] rfl (by simp[Value.oneCell']) rfl (.tmp 60) (.tmp 63) rfl rfl w6.heap.size rfl (lU _ _) dE aa aH ?_;intro ar aq H eI fY hK hZ;refine f _ _ (fun _ h=>absurd ax h) ?_;clear f K;refine aF [9,10,11] ?_;have c5:w6.grownBy H (Value.slice am i an).ownBlock:=dX (bT ((aJ _ w6).alloc (aA _) _|>.drew)) fY;have bc:aB (fun k=>(Value.slice am i an).ownBlock=some k) w6 H:=(aB.refl _ w6).grown c5 (fun k al=>.inl al);have eT:∀g,(Value.slice am i an).ownBlock=some g->w4.heap.size<=g:=fun g h=>(ef.o.lt g h).1;have dL:=bu bc cO.o (fun h=>by have:=eT tb h;omega);have go:H.cell? (ag tb 1)=some (.slice am i an):=aI dL;have f8:H.frozen? (ag tb 1)=false:=aI dL;have bb:Hid ((H.setCell (ag tb 1) (aC ar (i+1) aq)).heap[tb]? =some (xV (.slice (some (ag b off)) n P) (aC ar (i+1) aq) N fb Q (aM) (aM) n)):=dC H tb 1 _ _ _ dL;have ci:Hid ((H.setCell (ag tb 1) (aC ar (i+1) aq)).ownsRow w4.heap.size 2 1 (aC ar (i+1) aq) (i+1) (((cz R).take (i+1)).map (Value.int .i64))):=by
     have Y:=aU (S:=fun k=>k=tb) eI ((aB.refl (fun k=>k=tb) H).set (a:=(ag tb 1)) (aC ar (i+1) aq) (.inl rfl)) (fun g h h2=>by have:=(eI.lt g h).1;omega);show World.ownsRow _ _ _ _ _ _ _;rw[fl.o,bJ];exact Y
    have gy:Hid (aB (fun k=>k=tb) w4 (H.setCell (ag tb 1) (aC ar (i+1) aq))):=((cI.o.mono (S':=fun k=>k=tb\/w4.heap.size<=k) (fun k h=>.inl h)).trans (bc.mono (fun k h=>.inr (eT k h)))).strip.set (a:=(ag tb 1)) _ (.inl rfl);clear bc c5 fY eI dL en eo ef cO cI eT;go_wp2
    go_roundg (n-(i+1))
    case measure=>omega
    case rel=>exact⟨i+1,_,by go_num,aa,aA _,bb,ci,gy⟩
   .obtain rfl:i=n:=aa;have fM:wJ wr w.heap.size fb i (.slice T i P) N Q ab R:=dk.o.kept ca.o (fun k B h2=>by subst h2;exact⟨_,_,_,cf.o,ai,ai,ai,ai⟩);have eq:Below w.heap.size w wr:=dc.o.trans (ca.o.toBelow dc.o.size (fun k h=>aa));have dy:=bZ.o;rw[jc (by unfold cz;simp;omega)]at dy;have b8:=af eq;have ce:=af fM;have a8:=eq.size;have fj:=af (bM dy dc.o.size);obtain⟨am,an,rfl⟩:=fK dy;clear eq fM dy ca bZ dc dk cf cj cy;have cy:=(bg.1 bl.o).1;have g9:=@run_makeMap prog
    go_upto_region 16 with fail
    obtain⟨U,dJ⟩:∃U,U=wr.heap.size:=⟨_,rfl⟩;obtain⟨bi,cW⟩:∃bi,bi=wr.alloc (.map #[] 0):=⟨_,rfl⟩;have c4:Below wr.heap.size wr bi:=by rw[cW];exact(aJ _ _).alloc (aA _) _
    have dh:Hid (∃D:DataW Unit,bi.ownsMap prog 27 (plainElem prog 3) U 0 D/\oo D R 0):=by rw[cW,dJ];exact⟨.map [],yT _ _ _ _,[],IsM.empty _ _⟩
    have eO:=(c4.block tb cy).trans bl.o;have fh:=af eO;have dn:Hid (wJ bi w.heap.size fb i (.slice T i P) N Q ab R):=ce.o.kept ((aB.refl (fun _=>False) wr).below c4) (fun k _ h=>h.elim);have fn:=af (az fj.o c4);have d5:Hid (Below w.heap.size w bi):=b8.o.trans (c4.mono a8);have h5:w.heap.size<=U/\U<bi.heap.size/\tb<U:=by rw[cW,dJ];simp;omega
    have cj:bi.cell? (ag tb 0)=some (.slice T i P):=aI eO;rw[<-cW,<-dJ];clear cW dJ c4 eO bl ce fj b8 a8 cy g9
    go_wp2_with fail
    go_loopg [74] i (fun b6 hx wr=>∃(j:Nat),hx=.int .i64 j/\j<=i/\i-j<=b6/\Hid (aB (fun k=>k=U) bi wr)/\Hid (∃D:DataW Unit,wr.ownsMap prog 27 (plainElem prog 3) U j D/\oo D R j))
    case atStart=>exact⟨0,rfl,aT _,aa,aB.refl _ _,dh.o⟩
    case round=>
     obtain⟨j,rfl,aN,hV,bw,dg⟩:=hrel;by_cases hR:j<i
     .have bh:=aU dn.o.row bw.o (fun g h h2=>by
       subst h2;obtain⟨el,ej,ga,-⟩:=dh.o.choose_spec.1;rcases dn.o.row.2 with⟨x,-⟩|⟨hH,cT,cU,x,-,aL,-⟩
       .rw[x]at h;cases h
       .rw[x]at h;injection h with h;subst h;rw[aL]at ga;cases ga)
      obtain⟨_,_,bm,-,-,aV⟩:=bV.aD bq ai bh;injection bm with Z ck cl;subst Z;clear ck cl;obtain⟨b,off,cV,fT,aG⟩:=aV.get aa;have bj:=aG j aa 0 aa;have x1:=aG j aa 1 aa;have x2:=aG j aa 2 aa;simp only[bX,eG,eQ,df]at bj x1 x2;have g5:j<R.length:=aa;have f6:Hid (keyOf prog 27 (.int .u32 R[j].2.2)=some (.int .u32 R[j].2.2)):=zh underlying27 (fi.o _ (bC _));obtain⟨D,gd,fA⟩:=dg.o;have d6:=af (fA.put g5);have h6:=bw.o.size;subst cV;clear aG aV bh fA dg;generalize R[j]=p at*;obtain⟨a9,ba,aE⟩:=p;simp only at d6 f6 bj x1 x2;have gc:=gd.kept (rP wr (.cells #[ae a9,ae ba,ak aE] 29) none) ax
      go_wp2_with (at_mapUpdate;refine yO _ rfl _ _ _ 26 rfl 27 3 (int_keyed underlying27) underlying26 _ U j _ rfl gc dE _ _ _ rfl rfl f6.o _ [] (vY underlying3 (by simp[Lit.wf,IntKind.min,IntKind.max,IntKind.bits,IntKind.signed];omega)) ?_;intro w3 ge f1)
      have gx:Hid (aB (fun k=>k=U) bi w3):=((bw.o.alloc _).grown f1 (fun k h=>.inl (by injection h with h;exact h.symm)));have gA:Hid (∃D:DataW Unit,w3.ownsMap prog 27 (plainElem prog 3) U (j+1) D/\oo D R (j+1)):=⟨_,ge,d6.o⟩;clear ge f1 gc gd d6;go_wp2
      go_roundg (i-(j+1))
      case measure=>omega
      case rel=>exact⟨j+1,by go_num,aa,aA _,gx,gA⟩
     .obtain rfl:j=i:=aa;obtain⟨hA,⟨hG,hE,eE,-⟩,-⟩:=dh.o;have ce:=af (dn.o.VR bw.o eE);have bZ:=af (PL fn.o bw.o eE);have bl:Hid (wr.heap[tb]? =_):=bu bw.o fh.o (fun h=>aa);have b8:Hid (Below w.heap.size w wr):=d5.o.trans (bw.o.toBelow d5.o.size (fun k h=>aa));obtain⟨D,et,fJ⟩:=dg.o;have fd:=af et;have gC:=af fJ;have a8:=b8.o.size;have hc:U<wr.heap.size:=by
       obtain⟨el,ej,aL,-⟩:=et;exact(bg.1 aL).1
      obtain⟨_,_,bm,-,-,aV⟩:=bV.aD bq ai ce.o.row;injection bm with Z ck cl;subst Z;clear ck cl;have eZ:=af (pV T R j P wr cp aV aa);have c8:=(bg.1 bl.o).1;have O:=bl.o;have cj:wr.cell? (ag tb 0)=some (.slice T j P):=aI O;clear O aV eE et fJ dg dn fn fh d5 dh bw
      go_wp2_with fail
      refine eZ.o.mono ?_;rintro e ih ⟨dO,rfl,dG,fS⟩;have e2:=af (Nc cp aa dG dl.o.2);have e8:=af dG;have d0:=af fS;obtain⟨I,g1,rfl⟩:=fK dG;clear dG fS eZ
      go_wp2_with fail
      refine e2.o.mono ?_;rintro e H ⟨rfl,f2,f5⟩;have bH:Below wr.heap.size wr H:=d0.o.trans (f5.toBelow d0.o.size (fun k h=>(e8.o.lt k h).1));have gv:=af bH;have e9:=af f2;have d9:Hid (wJ H w.heap.size fb j (.slice T j P) N Q ab R):=ce.o.kept ((aB.refl (fun _=>False) wr).below bH) (fun k _ h=>h.elim);have fk:=af (az bZ.o bH);have cg:Hid (H.heap[tb]? =some (xV (.slice T j P) (.slice am j an) N fb Q (aM) (aM) j)):=(bH.block tb c8).trans bl.o;have fe:Hid (H.ownsMap prog 27 (plainElem prog 3) U j D):=xU fd.o (bH.block U hc);have cG:Hid (Below w.heap.size w H):=b8.o.trans (bH.mono a8);have h8:=bH.size;obtain⟨aw,nc,rfl⟩:=fK d9.o.jD;have fI:=dB j;have h3:=PK (bf j).length aa;generalize gY:(bf j).length=d at*;have gB:Hid (d=2*j-1):=fI;have hI:d<=40000:=aa;clear fI;clear f5 bH f2 e2 ce bZ bl fd b8 e8 d0 gv cj;have O:=cg.o;have cA:tb<H.heap.size:=aa;have fu:H.cell? (ag tb 4)=some (.slice aw d nc):=aI O;have be:Below H.heap.size H (H.alloc (.cells (madeCells #[aM,aM] (d*2)) 150)):=(aJ _ _).alloc (aA _) _;have gM:(H.alloc (.cells (madeCells #[aM,aM] (d*2)) 150)).cell? (ag tb 5)=some (aM):=(be.cell (p:=(ag tb 5)) cA).trans (aI O);have hz:(H.alloc (.cells (madeCells #[aM,aM] (d*2)) 150)).frozen? (ag tb 5)=false:=(be.frozen (p:=(ag tb 5)) cA).trans (aI O);have gg:=(be.block tb cA).trans O;have gw:=af be;have gF:=af gg;clear be gg O
      go_upto_region 24 with fail
      obtain⟨gl,dF⟩:∃gl,gl=H.heap.size:=⟨_,rfl⟩;obtain⟨u,cm⟩:∃u,u=(H.setCell (ag tb 5) (aC H.heap.size d d)).alloc (.cells (madeCells #[aM,aM] (d*2)) 150):=⟨_,rfl⟩;have b1:aB (fun k=>k=tb) H u:=by rw[cm];exact((aB.refl (fun k=>k=tb) H).set (a:=(ag tb 5)) _ (.inl rfl)).alloc _
      have fQ:u.heap[tb]? =some (xV (.slice T j P) (.slice am j an) N fb (.slice aw d nc) (aC gl d d) (aM) j):=by rw[cm,dF];exact(bU _ _ _ (aQ cA)).trans (dC H tb 5 _ _ _ cg.o)
      have fG:dw u w.heap.size gl d d (fun _=>aM) (fun _=>aM):=by
       have h:=Nh (H.setCell (ag tb 5) (aC H.heap.size d d)) w.heap.size d (by simp;exact cG.o.size) aa;rw[cm,dF];simpa using h
      have hL:gl<u.heap.size/\tb<gl/\w.heap.size<=gl:=by rw[cm,dF];simp;exact⟨cA,cG.o.size⟩
      have fD:Else H (fun k=>k=tb):=fun k B h2=>by subst h2;exact⟨_,_,_,cg.o,ai,ai,ai,ai⟩
      have fN:wJ u w.heap.size fb j (.slice T j P) N (.slice aw d nc) ab R:=d9.o.kept b1 fD;have ew:u.ownsRow w.heap.size 2 1 (.slice am j an) j ((cz R).map (Value.int .i64)):=p8 fk.o b1 (fun k B h2=>by subst h2;exact⟨_,_,_,cg.o,ai⟩);have fE:u.ownsRow wr.heap.size 29 3 (.slice I j g1) j ((kI R).flatMap bX):=p8 e9.o b1 (fun k B h2=>by subst h2;exact⟨_,_,_,cg.o,ai⟩);have fH:u.ownsMap prog 27 (plainElem prog 3) U j D:=xU fe.o (b1.block U aa aa);have fx:Below w.heap.size w u:=cG.o.trans (b1.toBelow cG.o.size (fun k h=>aa));have bb:=af fQ;have bW:=af fG;have ea:=af fN;have ci:=af ew;have de:=af fE;have d8:=af fH;have d4:=af fx;have hb:=bb.o;have h9:=b1.size;have he:U<u.heap.size:=aa;have gj:∀g,(Value.slice am j an).ownBlock=some g->g<u.heap.size:=fun g h=>(ew.lt g h).2;have gI:=af gj;clear hb gj;rw[<-cm];clear cm dF b1 fQ fG fD fN ew fE fH fx cg d9 fk e9 fe cG gw gF fu gM hz cA;obtain⟨b0,c2⟩:∃b0,b0=decide (0<j):=⟨_,rfl⟩;have hq:decide ((j:Int)>0)=b0:=by rw[c2];simp
      have hr:decide ((0:Int)<(j:Int))=b0:=by rw[c2];simp
      have hs:decide (0<j)=b0:=c2.symm;have e5:=af c2;clear c2
      go_upto_if 102 with fail
      clear hq hr hs
      go_cut []from 12 (fun bt=>∃(yv:Value) (LN:Nat->Value),Hid (bt.heap[tb]? =some (xV (.slice T j P) (.slice am j an) N fb (.slice aw d nc) (aC gl d d) yv j))/\Hid (bt.ownsRow u.heap.size 2 1 yv j ((jI R (ed R)).map (Value.int .i64)))/\Hid (dw bt w.heap.size gl d d LN (fun _=>aM))/\Hid (aB (fun k=>k=tb\/k=gl) u bt)/\
       Hid (∀k,k<d->k≠2*j-2->LN k=aM)/\Hid (0<j->bt.ownsRow u.heap.size 27 1 (LN (2*j-2)) j (((ed R).map (ku R)).map (Value.int .u32))))
      case first=>
       by_cases f4:j=0
       .obtain rfl:b0=false:=by rw[e5.o];simp;omega
        have gZ:R=[]:=iC aa;have ho:jI R (ed R)=[]:=by subst gZ;simp[jI,ed,kI]
        have fa:=af f4;clear f4;go_wp2;go_meet;refine⟨aM,fun _=>aM,bb.o,?_,bW.o,aB.refl _ _,fun _ _ _=>rfl,fun h=>absurd fa.o aa⟩;show World.ownsRow _ _ _ _ _ _ _;rw[ho,fa.o];exact cZ _ _ _ _
       .obtain rfl:b0=true:=by rw[e5.o];simp;omega
        have co:2*j-2<d:=by have:=gB.o;omega
        obtain⟨A,eM⟩:∃A,A=2*j-2:=⟨_,rfl⟩;have eb:=af eM;rw[<-eM]at co;clear eM
        go_wp2_with fail
        go_loopg [105] j (fun b6 ht wr=>∃(i:Nat) (yv vr:Value),ht=.int .i64 i/\i<=j/\j-i<=b6/\Hid (wr.heap[tb]? =some (xV (.slice T j P) (.slice am j an) N fb (.slice aw d nc) (aC gl d d) yv j))/\Hid (wr.ownsRow u.heap.size 2 1 yv i (((jI R (ed R)).take i).map (Value.int .i64)))/\
         Hid (dw wr w.heap.size gl d d (upd (fun _=>aM) A vr) (fun _=>aM))/\Hid (wr.ownsRow u.heap.size 27 1 vr i ((((ed R).take i).map (ku R)).map (Value.int .u32)))/\Hid (aB (fun k=>k=tb\/k=gl) u wr))
        case atStart=>
         refine⟨0,aM,aM,rfl,aT _,aa,bb.o,cZ _ _ _ _,?_,cZ _ _ _ _,aB.refl _ _⟩;show dw _ _ _ _ _ _ _;rw[Kj _ A _ rfl];exact bW.o
        case round=>
         obtain⟨i,yv,vr,rfl,hi,hW,ec,ds,d7,dq,cH⟩:=hrel;by_cases hP:i<j
         .have bh:=aU de.o cH.o (fun g h h2=>by
           rcases h2 with h2|h2
           .exact bz de.o bb.o ai g h h2.symm
           .subst h2;exact bB bW.o de.o ai g rfl h)
          obtain⟨_,_,bm,-,-,aV⟩:=bV.aD bq ai bh;injection bm with gO gP gQ;subst gO;clear gP gQ;have hJ:(kI R).length=j:=by rw[(jy R).length_eq];exact cp
          obtain⟨b,off,cV,fT,aG⟩:=aV.get aa;have bj:=aG i aa 0 aa;have x1:=aG i aa 1 aa;have x2:=aG i aa 2 aa;simp only[bX,eG,eQ,df]at bj x1 x2;have eH:i<(ed R).length:=by rw[kJ];omega
          have eK:=R8 eH;have gn:(jI R (ed R)).take (i+1)=(jI R (ed R)).take i++[((kI R)[i]'aa).2.1]:=by
           have h:i<(jI R (ed R)).length:=by unfold jI;simp;exact eH
           rw[gT h];simp only[jI,gq,l7,eK]
          have gb:((ed R).take (i+1)).map (ku R)=((ed R).take i).map (ku R)++[((kI R)[i]'aa).2.2]:=by
           rw[gT eH,bJ];simp only[mG,qG,ku,eK]
          have fo:=af gn;have dj:=af gb;subst cV;clear aG aV gn gb bh eK;generalize(kI R)[i]'aa=p at*;obtain⟨a9,ba,aE⟩:=p;simp only at fo dj bj x1 x2;have O:=ec.o;have c8:=(bg.1 O).1;obtain⟨cC,cD,rfl⟩:=fK ds.o;obtain⟨C,E,rfl⟩:=fK dq.o
          go_upto_region 28 with fail
          obtain⟨bv,eU⟩:∃bv,bv=wr.heap.size:=⟨_,rfl⟩;obtain⟨w6,bo⟩:∃w6,w6=wr.alloc (.cells #[ae a9,ae ba,ak aE] 29):=⟨_,rfl⟩;have ap:Below wr.heap.size wr w6:=by rw[bo];exact(aJ _ _).alloc (aA _) _
          have cB:w6.heap[bv]? =some (.cells #[ae a9,ae ba,ak aE] 29 (0,0)):=by rw[bo,eU];exact bY wr _
          have b5:=(ap.block tb c8).trans O;have hg:=cH.o.size;have hh:=ap.size;have id:u.heap.size<=bv:=aa;have en:=ah (w:=w6) (ad:=(ag tb 6)) (v:=.slice cC i cD) (aI b5);have eo:=ah (w:=w6) (ad:=(ag bv 1)) (v:=.int .i64 ba) (aI cB);have cR:=af (az ds.o ap);have dr:=af (az dq.o ap);have fc:Hid (dw w6 w.heap.size gl d d (upd (fun _=>aM) A (.slice C i E)) (fun _=>aM)):=az d7.o ap;have cI:Hid (aB (fun k=>k=tb\/k=gl) u w6):=cH.o.below ap;have cO:=af b5;have eg:=af cB;rw[<-bo,<-eU];clear bo ap cB b5 O bj x1 x2 eU ds dq d7 cH ec;refine au (fun W=>∃p:aR w6,W=p.W) [8,9,10,11] [(0,false),(1,false),(2,false),(3,false),(4,true),(5,false),(6,true)] ⟨⟨_,(aJ _ _).drew⟩,rfl⟩ 5 ?_;refine ay 7 rfl fun K f=>?_;go_simp;refine f _ _ (fun _ _=>⟨⟨_,(aJ _ w6).alloc (aA _) _|>.drew⟩,rfl⟩) ?_;clear f K;refine ay 8 rfl fun K f=>?_;refine bF AZ u.heap.size (w:=(w6.alloc (.cells #[ae ba] 2)).drew) (az cR.o ((aJ _ w6).alloc (aA _) _|>.drew)) [.int .i64 ba] rfl (by simp[Value.oneCell']) rfl (.tmp 113) (.tmp 116) rfl rfl w6.heap.size rfl (lU _ _) dE aa aH ?_;intro ar aq bQ eJ fZ g0 g7;refine f _ _ (fun _ h=>absurd ax h) ?_;clear f K;refine aF [9,10,11] ?_;have c5:w6.grownBy bQ (Value.slice cC i cD).ownBlock:=dX (bT ((aJ _ w6).alloc (aA _) _|>.drew)) fZ;have bc:aB (fun k=>(Value.slice cC i cD).ownBlock=some k) w6 bQ:=(aB.refl _ w6).grown c5 (fun k al=>.inl al);have dQ:∀g,(Value.slice cC i cD).ownBlock=some g->u.heap.size<=g:=fun g h=>(cR.o.lt g h).1;have dM:=bu bc cO.o (fun h=>by have:=dQ tb h;omega);have go:bQ.cell? (ag tb 6)=some (.slice cC i cD):=aI dM;have f8:bQ.frozen? (ag tb 6)=false:=aI dM;obtain⟨y,dx⟩:∃y,y=bQ.setCell (ag tb 6) (aC ar (i+1) aq):=⟨_,rfl⟩;have cx:aB (fun k=>k=tb) bQ y:=by rw[dx];exact(aB.refl (fun k=>k=tb) bQ).set (a:=(ag tb 6)) _ (.inl rfl)
          have eN:y.heap[tb]? =some (xV (.slice T j P) (.slice am j an) N fb (.slice aw d nc) (aC gl d d) (aC ar (i+1) aq) j):=by rw[dx];exact dC bQ tb 6 _ _ _ dM
          have aZ:Hid (y.ownsRow u.heap.size 2 1 (aC ar (i+1) aq) (i+1) (((jI R (ed R)).take (i+1)).map (Value.int .i64))):=by
           have Y:=aU (S:=fun k=>k=tb) eJ cx (fun g h h2=>by have:=(eJ.lt g h).1;omega);show World.ownsRow _ _ _ _ _ _ _;rw[fo.o,bJ];exact Y
          have fR:y.ownsRow u.heap.size 27 1 (.slice C i E) i ((((ed R).take i).map (ku R)).map (Value.int .u32)):=aU (S:=fun k=>k=tb) (aU (S:=fun k=>(Value.slice cC i cD).ownBlock=some k) dr.o bc (fun g h h2=>bB dr.o cR.o ai g h h2)) cx (fun g h h2=>by have:=(dr.o.lt g h).1;omega);have c0:dw y w.heap.size gl d d (upd (fun _=>aM) A (.slice C i E)) (fun _=>aM):=(dw.kept fc.o bc (fun h=>by have:=dQ gl h;omega)).kept cx aa;have bx:Hid (aB (fun k=>k=tb\/k=gl) u y):=(((cI.o.mono (S':=fun k=>(k=tb\/k=gl)\/u.heap.size<=k) (fun k h=>.inl h)).trans (bc.mono (fun k h=>.inr (dQ k h)))).strip).trans (cx.mono (fun k h=>.inl h));have dP:y.heap[bv]? =some (.cells #[ae a9,ae ba,ak aE] 29 (0,0)):=bu cx (bu bc eg.o (fun h=>bz cR.o eg.o ai bv h rfl)) aa;have a4:=af fR;have cb:=af c0;have ch:=af eN;have ia:=bx.o.size;clear bc c5 fZ eJ dM en eo cR cO cI dQ dr fc eg cx fR g0 g7
          go_upto_region 29 with fail
          rw[<-dx];clear dx go f8;have av:∀g,(Value.slice C i E).ownBlock=some g->u.heap.size<=g:=fun g h=>(a4.o.lt g h).1;have dR:∀{bk o:Nat} {v:Value},bk<y.heap.size->¬(Value.slice C i E).ownBlock=some bk->y.cell? (ag bk o)=some v->∀p:xC (fun k=>(Value.slice C i E).ownBlock=some k) y,p.W.cell? (ag bk o)=some v:=fun c1 hd dO p=>((di p.h c1 hd).1 _).trans dO;have eV:=dR (bk:=tb) (o:=5) (v:=aC gl d d) aa (fun h=>by have:=av tb h;omega) (aI eN);have eW:=dR (bk:=bv) (o:=2) (v:=.int .u32 aE) (bg.1 dP).1 (fun h=>bz a4.o dP ai bv h rfl) (aI dP);have eX:=dR (bk:=gl) (o:=A*2) (v:=.slice C i E) aa (fun h=>by have:=av gl h;omega) ((c0.get co).1.trans (by rw[upd_same]));have b7:=(c0.get co).1;rw[upd_same]at b7;have f9:=c0.frozenAt (A*2);have eC:gl<y.heap.size:=aa;have cE:Hid (∀W,aB (fun k=>(Value.slice C i E).ownBlock=some k) y W->aK 95 #[aj fb] W fun e w'=>e=.returned (ae (A:Nat))/\w'=W):=fun W c1=>by
           have dD:=ea.o.iU.blk;have fW:=(bg.1 dD).1;have g3:=bu bx.o dD (fun h=>by
            rcases h with h|h
            .subst h;have Y:=dD.symm.trans bb.o;injection Y with Y;injection Y with _ Y _;exact absurd Y ai
            .subst h;exact bz bW.o dD ai fb rfl rfl)
           have fU:=bu c1 g3 (fun h=>by have:=av fb h;omega);have h:=jV fb j aa aa W (aI fU) (aI fU);rw[<-eb.o]at h;exact h
          clear eN dP c0 dR;refine au (fun W=>∃p:xC (fun k=>(Value.slice C i E).ownBlock=some k) y,W=p.W) [19,20,21] [(0,false),(1,false),(2,false),(3,true),(4,false),(6,false),(7,false),(8,false),(9,true),(10,false),(15,false),(16,true)] ⟨⟨_,(aB.refl _ _).drew⟩,rfl⟩ 10 ?_;refine iH 5 17 rfl rfl (fun K f=>?_) (fun K f=>?_)
          .
           refine aY mW rfl _ _ rfl (vals:=#[aj fb]) rfl (cE.o _ ((aB.refl (fun k=>(Value.slice C i E).ownBlock=some k) y).drew)) ?_;rintro e w' ⟨rfl,bn⟩;subst bn;refine⟨_,rfl,f _ _ (fun h _=>h) ?_⟩;clear f K;refine iH 11 17 rfl rfl (fun K f=>?_) (fun K f=>?_)
           .refine aY mW rfl _ _ rfl (vals:=#[aj fb]) rfl (cE.o _ ((aB.refl (fun k=>(Value.slice C i E).ownBlock=some k) y).drew)) ?_;rintro e w' ⟨rfl,bn⟩;subst bn;refine⟨_,rfl,f _ _ (fun h _=>h) ?_⟩;clear f K;refine aW [(12,false),(13,false),(14,true)] ⟨⟨_,((aB.refl (fun k=>(Value.slice C i E).ownBlock=some k) y).drew)⟩,rfl⟩ rfl ?_;refine ay 17 rfl fun K f=>?_;go_simp;refine f _ _ (fun _ _=>⟨⟨_,(((aB.refl (fun k=>(Value.slice C i E).ownBlock=some k) y).alloc _).drew)⟩,rfl⟩) ?_;clear f K;refine ay 18 rfl fun K f=>?_;refine bF vg u.heap.size (w:=(y.alloc (.cells #[ak aE] 27)).drew) (az a4.o ((aJ _ y).alloc (aA _) _|>.drew)) [.int .u32 aE] rfl (by simp[Value.oneCell']) rfl (.tmp 134) (.tmp 137) rfl rfl y.heap.size rfl (lU _ _) dE aa aH ?_;intro M L G a7 bN c3 c7;have bL:y.grownBy G (Value.slice C i E).ownBlock:=dX (bT ((aJ _ y).alloc (aA _) _|>.drew)) bN;have X:aB (fun k=>(Value.slice C i E).ownBlock=some k) y G:=(aB.refl _ y).grown bL (fun k al=>.inl al);refine f _ _ (fun _ _=>⟨⟨_,X⟩,rfl⟩) ?_;clear f K;refine aF [19,20,21] ?_;have bO:¬(Value.slice C i E).ownBlock=some gl:=fun h=>by have:=av gl h;omega
            obtain⟨bA,bD⟩:=di X eC bO;have gp:=(bA (A*2)).trans b7;have fv:=(bD (A*2)).trans f9;have ao:aB (fun k=>k=gl) G (G.setCell (ag gl (A*2)) (aC M (i+1) L)):=(aB.refl (fun k=>k=gl) G).set (a:=(ag gl (A*2))) _ (.inl rfl);have cP:Hid ((G.setCell (ag gl (A*2)) (aC M (i+1) L)).heap[tb]? =some (xV (.slice T j P) (.slice am j an) N fb (.slice aw d nc) (aC gl d d) (aC ar (i+1) aq) j)):=bu ao (bu X ch.o (fun h=>by have:=av tb h;omega)) aa;have cS:Hid ((G.setCell (ag gl (A*2)) (aC M (i+1) L)).ownsRow u.heap.size 2 1 (aC ar (i+1) aq) (i+1) (((jI R (ed R)).take (i+1)).map (Value.int .i64))):=aU (S:=fun k=>k=gl) (aU (S:=fun k=>(Value.slice C i E).ownBlock=some k) aZ.o X (fun g h h2=>bB a4.o aZ.o ai g h2 h)) ao (fun g h h2=>by have:=(aZ.o.lt g h).1;omega);have cM:Hid (dw (G.setCell (ag gl (A*2)) (aC M (i+1) L)) w.heap.size gl d d (upd (fun _=>aM) A (aC M (i+1) L)) (fun _=>aM)):=by
             have h:=(dw.kept cb.o X bO).Cr co (aC M (i+1) L);rwa [uK]at h
            have cQ:Hid ((G.setCell (ag gl (A*2)) (aC M (i+1) L)).ownsRow u.heap.size 27 1 (aC M (i+1) L) (i+1) ((((ed R).take (i+1)).map (ku R)).map (Value.int .u32))):=by
             have h:=aU (S:=fun k=>k=gl) a7 ao (fun g h h2=>by have:=(a7.lt g h).1;omega);show World.ownsRow _ _ _ _ _ _ _;rw[dj.o,bJ];exact h
            have cJ:Hid (aB (fun k=>k=tb\/k=gl) u (G.setCell (ag gl (A*2)) (aC M (i+1) L))):=(((bx.o.mono (S':=fun k=>(k=tb\/k=gl)\/u.heap.size<=k) (fun k h=>.inl h)).trans (X.mono (fun k h=>.inr (av k h)))).strip).trans (ao.mono (fun k h=>.inr h));clear bA bD X ao bL bN a7 eV eW eX b7 f9 a4 cb ch aZ bx av c3 c7;go_wp2
            go_roundg (j-(i+1))
            case measure=>omega
            case rel=>exact⟨i+1,_,_,by go_num,aa,aA _,cP,cS,cM,cQ,cJ⟩
           .go_simp;refine f _ _ (fun _ _=>⟨⟨_,(((aB.refl (fun k=>(Value.slice C i E).ownBlock=some k) y).alloc _).drew)⟩,rfl⟩) ?_;clear f K;refine ay 11 rfl fun K f=>?_;refine aY mW rfl _ _ rfl (vals:=#[aj fb]) rfl (cE.o _ (((aB.refl (fun k=>(Value.slice C i E).ownBlock=some k) y).alloc _).drew)) ?_;rintro e w' ⟨rfl,bn⟩;subst bn;refine⟨_,rfl,f _ _ (fun h _=>h) ?_⟩;clear f K;refine aW [(12,false),(13,false),(14,true)] ⟨⟨_,(((aB.refl (fun k=>(Value.slice C i E).ownBlock=some k) y).alloc _).drew)⟩,rfl⟩ rfl ?_;refine ay 18 rfl fun K f=>?_;refine bF vg u.heap.size (w:=(y.alloc (.cells #[ak aE] 27)).drew) (az a4.o ((aJ _ y).alloc (aA _) _|>.drew)) [.int .u32 aE] rfl (by simp[Value.oneCell']) rfl (.tmp 134) (.tmp 137) rfl rfl y.heap.size rfl (lU _ _) dE aa aH ?_;intro M L G a7 bN c3 c7;have bL:y.grownBy G (Value.slice C i E).ownBlock:=dX (bT ((aJ _ y).alloc (aA _) _|>.drew)) bN;have X:aB (fun k=>(Value.slice C i E).ownBlock=some k) y G:=(aB.refl _ y).grown bL (fun k al=>.inl al);refine f _ _ (fun _ _=>⟨⟨_,X⟩,rfl⟩) ?_;clear f K;refine aF [19,20,21] ?_;have bO:¬(Value.slice C i E).ownBlock=some gl:=fun h=>by have:=av gl h;omega
            obtain⟨bA,bD⟩:=di X eC bO;have gp:=(bA (A*2)).trans b7;have fv:=(bD (A*2)).trans f9;have ao:aB (fun k=>k=gl) G (G.setCell (ag gl (A*2)) (aC M (i+1) L)):=(aB.refl (fun k=>k=gl) G).set (a:=(ag gl (A*2))) _ (.inl rfl);have cP:Hid ((G.setCell (ag gl (A*2)) (aC M (i+1) L)).heap[tb]? =some (xV (.slice T j P) (.slice am j an) N fb (.slice aw d nc) (aC gl d d) (aC ar (i+1) aq) j)):=bu ao (bu X ch.o (fun h=>by have:=av tb h;omega)) aa;have cS:Hid ((G.setCell (ag gl (A*2)) (aC M (i+1) L)).ownsRow u.heap.size 2 1 (aC ar (i+1) aq) (i+1) (((jI R (ed R)).take (i+1)).map (Value.int .i64))):=aU (S:=fun k=>k=gl) (aU (S:=fun k=>(Value.slice C i E).ownBlock=some k) aZ.o X (fun g h h2=>bB a4.o aZ.o ai g h2 h)) ao (fun g h h2=>by have:=(aZ.o.lt g h).1;omega);have cM:Hid (dw (G.setCell (ag gl (A*2)) (aC M (i+1) L)) w.heap.size gl d d (upd (fun _=>aM) A (aC M (i+1) L)) (fun _=>aM)):=by
             have h:=(dw.kept cb.o X bO).Cr co (aC M (i+1) L);rwa [uK]at h
            have cQ:Hid ((G.setCell (ag gl (A*2)) (aC M (i+1) L)).ownsRow u.heap.size 27 1 (aC M (i+1) L) (i+1) ((((ed R).take (i+1)).map (ku R)).map (Value.int .u32))):=by
             have h:=aU (S:=fun k=>k=gl) a7 ao (fun g h h2=>by have:=(a7.lt g h).1;omega);show World.ownsRow _ _ _ _ _ _ _;rw[dj.o,bJ];exact h
            have cJ:Hid (aB (fun k=>k=tb\/k=gl) u (G.setCell (ag gl (A*2)) (aC M (i+1) L))):=(((bx.o.mono (S':=fun k=>(k=tb\/k=gl)\/u.heap.size<=k) (fun k h=>.inl h)).trans (X.mono (fun k h=>.inr (av k h)))).strip).trans (ao.mono (fun k h=>.inr h));clear bA bD X ao bL bN a7 eV eW eX b7 f9 a4 cb ch aZ bx av c3 c7;go_wp2
            go_roundg (j-(i+1))
            case measure=>omega
            case rel=>exact⟨i+1,_,_,by go_num,aa,aA _,cP,cS,cM,cQ,cJ⟩
          .go_simp;refine f _ _ (fun _ _=>⟨⟨_,(((aB.refl (fun k=>(Value.slice C i E).ownBlock=some k) y).alloc _).drew)⟩,rfl⟩) ?_;clear f K;refine ay 5 rfl fun K f=>?_;refine aY mW rfl _ _ rfl (vals:=#[aj fb]) rfl (cE.o _ (((aB.refl (fun k=>(Value.slice C i E).ownBlock=some k) y).alloc _).drew)) ?_;rintro e w' ⟨rfl,bn⟩;subst bn;refine⟨_,rfl,f _ _ (fun h _=>h) ?_⟩;clear f K;refine ay 11 rfl fun K f=>?_;refine aY mW rfl _ _ rfl (vals:=#[aj fb]) rfl (cE.o _ (((aB.refl (fun k=>(Value.slice C i E).ownBlock=some k) y).alloc _).drew)) ?_;rintro e w' ⟨rfl,bn⟩;subst bn;refine⟨_,rfl,f _ _ (fun h _=>h) ?_⟩;clear f K;refine aW [(12,false),(13,false),(14,true)] ⟨⟨_,(((aB.refl (fun k=>(Value.slice C i E).ownBlock=some k) y).alloc _).drew)⟩,rfl⟩ rfl ?_;refine ay 18 rfl fun K f=>?_;refine bF vg u.heap.size (w:=(y.alloc (.cells #[ak aE] 27)).drew) (az a4.o ((aJ _ y).alloc (aA _) _|>.drew)) [.int .u32 aE] rfl (by simp[Value.oneCell']) rfl (.tmp 134) (.tmp 137) rfl rfl y.heap.size rfl (lU _ _) dE aa aH ?_;intro M L G a7 bN c3 c7;have bL:y.grownBy G (Value.slice C i E).ownBlock:=dX (bT ((aJ _ y).alloc (aA _) _|>.drew)) bN;have X:aB (fun k=>(Value.slice C i E).ownBlock=some k) y G:=(aB.refl _ y).grown bL (fun k al=>.inl al);refine f _ _ (fun _ _=>⟨⟨_,X⟩,rfl⟩) ?_;clear f K;refine aF [19,20,21] ?_;have bO:¬(Value.slice C i E).ownBlock=some gl:=fun h=>by have:=av gl h;omega
           obtain⟨bA,bD⟩:=di X eC bO;have gp:=(bA (A*2)).trans b7;have fv:=(bD (A*2)).trans f9;have ao:aB (fun k=>k=gl) G (G.setCell (ag gl (A*2)) (aC M (i+1) L)):=(aB.refl (fun k=>k=gl) G).set (a:=(ag gl (A*2))) _ (.inl rfl);have cP:Hid ((G.setCell (ag gl (A*2)) (aC M (i+1) L)).heap[tb]? =some (xV (.slice T j P) (.slice am j an) N fb (.slice aw d nc) (aC gl d d) (aC ar (i+1) aq) j)):=bu ao (bu X ch.o (fun h=>by have:=av tb h;omega)) aa;have cS:Hid ((G.setCell (ag gl (A*2)) (aC M (i+1) L)).ownsRow u.heap.size 2 1 (aC ar (i+1) aq) (i+1) (((jI R (ed R)).take (i+1)).map (Value.int .i64))):=aU (S:=fun k=>k=gl) (aU (S:=fun k=>(Value.slice C i E).ownBlock=some k) aZ.o X (fun g h h2=>bB a4.o aZ.o ai g h2 h)) ao (fun g h h2=>by have:=(aZ.o.lt g h).1;omega);have cM:Hid (dw (G.setCell (ag gl (A*2)) (aC M (i+1) L)) w.heap.size gl d d (upd (fun _=>aM) A (aC M (i+1) L)) (fun _=>aM)):=by
            have h:=(dw.kept cb.o X bO).Cr co (aC M (i+1) L);rwa [uK]at h
           have cQ:Hid ((G.setCell (ag gl (A*2)) (aC M (i+1) L)).ownsRow u.heap.size 27 1 (aC M (i+1) L) (i+1) ((((ed R).take (i+1)).map (ku R)).map (Value.int .u32))):=by
            have h:=aU (S:=fun k=>k=gl) a7 ao (fun g h h2=>by have:=(a7.lt g h).1;omega);show World.ownsRow _ _ _ _ _ _ _;rw[dj.o,bJ];exact h
           have cJ:Hid (aB (fun k=>k=tb\/k=gl) u (G.setCell (ag gl (A*2)) (aC M (i+1) L))):=(((bx.o.mono (S':=fun k=>(k=tb\/k=gl)\/u.heap.size<=k) (fun k h=>.inl h)).trans (X.mono (fun k h=>.inr (av k h)))).strip).trans (ao.mono (fun k h=>.inr h));clear bA bD X ao bL bN a7 eV eW eX b7 f9 a4 cb ch aZ bx av c3 c7;go_wp2
           go_roundg (j-(i+1))
           case measure=>omega
           case rel=>exact⟨i+1,_,_,by go_num,aa,aA _,cP,cS,cM,cQ,cJ⟩
         .obtain rfl:i=j:=aa;have cv:=kJ R;have hn:(jI R (ed R)).length=i:=by simp[jI,cv];omega
          have gJ:Hid (wr.ownsRow u.heap.size 2 1 yv i ((jI R (ed R)).map (Value.int .i64))):=by
           have h:=ds.o;rw[jc aa]at h;exact h
          have gG:Hid (wr.ownsRow u.heap.size 27 1 vr i (((ed R).map (ku R)).map (Value.int .u32))):=by
           have h:=dq.o;rw[jc aa]at h;exact h
          clear cv hn;go_wp2;go_meet;refine⟨yv,upd (fun _=>aM) A vr,ec.o,gJ.o,d7.o,cH.o,?_,?_⟩
          .intro k al h4;exact upd_ne (by have:=eb.o;omega)
          .intro _;show World.ownsRow _ _ _ _ _ _ _;rw[<-eb.o,upd_same];exact gG.o
      case rest=>
       obtain⟨yv,fs,dp,fp,cc,cK,b9,ee⟩:=hcut;have eR:=ru dl.o.1 dl.o.2;have gH:=af eR;have ib:=cK.o.size;have fB:Else u (fun k=>k=tb\/k=gl):=fun k B h2=>by
        rcases h2 with h2|h2
        .subst h2;exact⟨_,_,_,bb.o,ai,ai,ai,ai⟩
        .subst h2;rcases bW.o.2 with⟨x,-⟩|⟨g,cT,cU,x,-,aL,-⟩
         .cases x
         .injection x with x;injection x with x;injection x with x;subst x;exact⟨_,_,_,aL,ai,ai,ai,ai⟩
       have dm:=af (ea.o.kept cK.o fB);have fm:Hid (wc.ownsRow w.heap.size 2 1 (.slice am j an) j ((cz R).map (Value.int .i64))):=aU ci.o cK.o (fun g h h2=>by
        rcases h2 with h2|h2
        .exact bz ci.o bb.o ai g h h2.symm
        .subst h2;exact bB bW.o ci.o ai g rfl h)
       have ff:Hid (wc.ownsMap prog 27 (plainElem prog 3) U j D):=xU d8.o (cK.o.block U he (fun h=>by
        obtain⟨el,ej,aL,-⟩:=d8.o;rcases h with h|h
        .subst h;have Y:=aL.symm.trans bb.o;cases Y
        .subst h;rcases bW.o.2 with⟨x,-⟩|⟨g,cT,cU,x,-,c6,-⟩
         .cases x
         .injection x with x;injection x with x;injection x with x;subst x;rw[aL]at c6;cases c6))
       have e6:Hid (Below w.heap.size w wc):=d4.o.trans (cK.o.toBelow d4.o.size (fun k h=>by rcases h with h|h<;>omega));have gE:Hid (zG wc u.heap.size j R (ed R) d fs (fun _=>aM)):=by
        have hf:∀t s,FT.At (bf j) t s->t.root s=2*j-2->nl (ed R) t=ed R:=fun t s I b4=>by
         have aN:=lJ I;obtain⟨rfl,rfl⟩:=FT.At.unique I (kH j aN) (by rw[lZ aN,b4]);have h:=eR.top aa;rwa [cp]at h
        refine⟨fun t s I h2=>?_,fun l r q I h2=>?_,fun l r q I h2=>?_,fun k B h2=>?_,fun k B=>rfl,fun k B g h2=>?_,fun i k B h2 ac g bd bE=>?_,fun i k B h2 ac g bd bE=>by cases bd⟩
        .rcases h2 with h2|⟨l,r,q,ac,bd,bE⟩
         .rw[h2,hf t s I h2];have:=ee.o (lJ I);rw[kJ,cp];exact this
         .have:=ac.lt;omega
        .have aN:=lJ I;have B:=FT.Al (gm aN▸I);rw[lZ aN]at B;have ac:=I.left.lt;have bd:=I.right.lt;exact⟨b9.o _ aa B.1,b9.o _ aa B.2⟩
        .have:=I.lt;omega
        .omega
        .by_cases e:k=2*j-2
         .have aN:0<j:=by rw[dB]at B;omega
          subst e;exact(ee.o aN).lt g h2
         .rw[b9.o k aa e]at h2;cases h2
        .by_cases e:i=2*j-2
         .rw[b9.o k aa aa]at bE;cases bE
         .rw[b9.o i aa e]at bd;cases bd
       have O:=dp.o;have fu:wc.cell? (ag tb 4)=some (.slice aw d nc):=aI O;clear O eR fB ea ci d8 d4 de b9 ee
       go_wp2_with fail
       go_loopg [15] d (fun b6 hv wr=>∃(m:Nat) (z:Int) (LN LL:Nat->Value),hv=.int .i64 z/\z+1=(m:Int)/\m<=d/\m<=b6/\Hid (dw wr w.heap.size gl d d LN LL)/\Hid (aB (fun k=>k=gl) wc wr)/\Hid (zG wr u.heap.size j R (ed R) m LN LL))
       case atStart=>exact⟨d,_,fs,_,rfl,aa,aA _,aA _,cc,aB.refl _ _,gE⟩
       case round=>
        obtain⟨m,z,LN,LL,rfl,ie,f7,hX,cL,a2,a3⟩:=hrel;have bP:(bf j).length=d:=gY;by_cases h0:0<m
        .obtain⟨k,rfl⟩:∃k,m=k+1:=⟨m-1,aa⟩;obtain rfl:z=(k:Int):=aa;obtain⟨t,s,I,c9⟩:=uM (j:=j) (k:=k) aa;have aN:=lJ I;obtain⟨cX,cn,x,-,hM,-⟩:=aS dm.o.jD aa;injection x with gR gS gU;subst gR;have O:=dp.o;have dN:tb≠gl:=aa;have eu:=bu a2.o dp.o (fun h=>dN h);have eh:wr.cell? (ag tb 4)=some (aC cX (bf j).length nc):=by rw[bP];simp[World.cell?,eu]
         have ei:wr.cell? (ag tb 5)=some (aC gl (bf j).length d):=by rw[bP];simp[World.cell?,eu]
         have f0:cX≠gl:=fun h=>bB cc.o dm.o.jD ai gl rfl (by rw[<-h];rfl);have eF:bV pR 7 wr (some (ag cX 0)) (bf j):=by
          have bh:=aU dm.o.jD a2.o (fun g h h2=>by have Y:=Pk h;omega);obtain⟨_,_,bm,-,-,Y⟩:=bV.aD jO ai bh;injection bm with Z ck cl;rw[<-Z]at Y;exact Y
         have fy:u.heap.size<=wr.heap.size:=by have:=a2.o.size;omega
         have er:dw wr w.heap.size gl (bf j).length d LN LL:=by rw[bP];exact cL.o
         have e3:aK 96 #[aj tb,ae k,.map (some U)] wr fun e w'=>e=.returned (.tuple #[])/\∃du dt,dw w' w.heap.size gl d d du dt/\aB (fun k=>k=gl) wr w'/\zG w' u.heap.size j R (ed R) k du dt:=by
          cases t with
          |leaf a=>
           refine(zC a s tb cX 0 nc gl d w.heap.size k U (bf j) LN LL wr I c9 aa eh eF ei er).mono ?_;rintro e w' ⟨rfl,vf,hl,B,h2,ac⟩;rw[bP]at B;exact⟨rfl,LN,_,B,ac,a3.o.leaf cL.o I c9 ac fy hl h2⟩
          |node l r=>
           have ey:=a3.o.cur I aa;rw[c9]at ey;obtain⟨gL,gN,ek,-,-,aV⟩:=Rd.aD ey;rw[bK]at ek;have hT:=FT.xK l r s;obtain⟨gV,gW⟩:=a3.o.emp l r s I aa;have hm:∀p,p∈(dU 0 j).subs 0->p.1.wf:=fun p hp=>FT.q8 _ _ (bR 0 j aN).1 p hp;have eS:=hm _ (FT.at_mem (gm aN▸I));have eD:∀i,i∈nl (ed R) (.node l r)->i<j:=fun i hi=>by
            have:=gH.o.lt (bI.1 hi).1;omega
           have g4:=FT.Be _ 0 (bR 0 j aN).1 _ (FT.at_mem (gm aN▸I));have hO:(FT.node l r).hi<=(dU 0 j).hi:=g4;have hN:=(bR 0 j aN).2.2;have hY:l.hi<=(FT.node l r).hi:=by have:=FT.fF r eS.2.1;have:=eS.2.2;show l.hi<=r.hi;omega
           have g6:(nl (ed R) (.node l r)).length<=(ed R).length:=fq _ _;rw[kJ]at g6;have g8:wr.ownsMap prog 27 (plainElem prog 3) U j D:=xU ff.o (a2.o.block U aa (fun h=>by
            obtain⟨el,ej,aL,-⟩:=ff.o;subst h;rcases cc.o.2 with⟨x,-⟩|⟨g,cT,cU,x,-,c6,-⟩
            .cases x
            .injection x with x;injection x with x;injection x with x;subst x;rw[aL]at c6;cases c6))
           refine(zB l r s tb cX 0 nc gl d w.heap.size k (l.root s) (r.root (s+l.size)) l.hi U j (bf j) LN LL (nl (ed R) (.node l r)) (ku R) gL gN D wr I c9 rfl rfl rfl aa aa eh eF ei er ⟨f0,dN,fun b o e=>?_⟩ ek aV aa gV gW g8 (fun i hi=>?_) (fun i hi=>?_) (fun i hi=>by have:=eD i hi;omega)).mono ?_
           .intro h;subst h;exact bB cL.o ey ai b rfl (by rw[ek,e];rfl)
           .obtain⟨sm,f7⟩:=gC.o;have Y:=(f7.2.2.2.2 (ku R i)).2 (.lit (.int .i64 0));rw[Y];have ep:=CL dl.o.2 j aa i (eD i hi);have gX:placeF R j (ku R i)=some (i:Int):=ep;rw[gX]
           .have f3:i<R.length:=by have:=eD i hi;omega
            have ep:cu R i=R[i]:=by simp[cu,f3]
            unfold ku;rw[ep];exact fi.o _ (bC f3)
           .rintro e w' ⟨rfl,vl,vr,vf,B,h2,ac,bd,bE,cY⟩;rw[bP]at B;exact⟨rfl,_,_,B,cY,a3.o.node cL.o I eS c9 cY fy h2 ac bd bE⟩
         have e7:=af e3;clear e3 er eF eu eh ei O f0 gS gU
         go_wp2_with fail
         refine e7.o.mono ?_;rintro e w' ⟨rfl,du,dt,B,h2,ac⟩;have gs:=af B;have gt:Hid (aB (fun k=>k=gl) wc w'):=a2.o.trans h2;have gu:=af ac;clear B h2 ac e7;go_wp2
         go_roundg k
         case measure=>omega
         case rel=>exact⟨k,(k:Int)-1,du,dt,by go_num,aa,aa,aA _,gs,gt,gu⟩
        .obtain rfl:m=0:=aa;obtain rfl:z=-1:=aa;have ic:=a2.o.size;have a5:wJ wr w.heap.size fb j (.slice T j P) N (.slice aw d nc) ab R:=dm.o.kept a2.o (fun k B h2=>by
          subst h2;rcases cc.o.2 with⟨x,-⟩|⟨g,cT,cU,x,-,aL,-⟩
          .cases x
          .injection x with x;injection x with x;injection x with x;subst x;exact⟨_,_,_,aL,ai,ai,ai,ai⟩)
         have ex:=aU fm.o a2.o (fun g h h2=>by subst h2;exact bB cc.o fm.o ai g rfl h);have dz:=aU fp.o a2.o (fun g h h2=>by subst h2;exact bB cc.o fp.o ai g rfl h);have dN:tb≠gl:=aa;have ev:=bu a2.o dp.o (fun h=>dN h);have fz:Below w.heap.size w wr:=e6.o.trans (a2.o.toBelow e6.o.size (fun k h=>aa));have es:=cL.o;have cv:=kJ R;have e4:Hid (jK wr w.heap.size wr.heap.size tb fb R (List.replicate R.length false) (ed R) ⟨.slice T j P,.slice am j an,N,.slice aw d nc,aC gl d d,yv,ab,LN,LL⟩/\Below w.heap.size w wr):=by
          have Z:R.length=j:=cp;have fW:=(bg.1 a5.iU.blk).1;have hk:=(bg.1 ev).1;refine⟨⟨?_,⟨hj,hk,a5.Rv,fW,aA _⟩,?_,?_,?_,?_,?_,?_,?_,?_,?_,?_,?_,?_,?_,?_,?_⟩,fz⟩
          .rw[cv,Z];exact ev
          .rw[Z];exact a5.row
          .rw[Z];exact ex
          .rw[Z];exact a5.ED
          .rw[Z];exact a5.iU
          .rw[Z,bP];have h:=a5.jD;rw[bP]at h;exact h
          .rw[Z,bP];exact es
          .rw[cv,Z];exact bM dz aa
          .intro t s I;rw[Z]at I;exact bM (a3.o.all I) aa
          .intro l r s I;rw[Z]at I;exact bM (a3.o.Co l r s I (aT _)) aa
          .intro k al;rw[Z]at al;exact(a3.o.Ez k al (aT _)).1
          .intro v dO g aP;rcases dO with rfl|rfl|rfl|rfl|rfl|rfl|rfl
           .exact(a5.row.lt g aP).2
           .exact(ex.lt g aP).2
           .exact(a5.ED.lt g aP).2
           .exact(a5.jD.lt g aP).2
           .exact(es.lt g aP).2
           .exact(dz.lt g aP).2
           .exact(a5.iU.row.lt g aP).2
          .intro k al;rw[Z]at al;exact⟨fun g aP=>(a3.o.R9 k al g aP).2,fun g aP=>((a3.o.Ez k al (aT _)).2 g aP).2⟩
          .intro g aP h2;have hC:=gI.o g aP;have hD:=(dz.lt g h2).1;omega
          .intro i k B h2 ac;rw[Z]at B h2;exact a3.o.Jv i k B h2 ac
          .intro i k B h2 ac;rw[Z]at B h2;exact a3.o.H6 i k B h2 ac
         clear a5 ex dz ev fz es cv;go_wp2;go_ret2;rw[gD.o];exact⟨tb,fb,_,rfl,e4.o.1,e4.o.2⟩
end
section
open Go.RowKit Go.Sort Go.Shelf Go.Lib Go.Maps
def nU {α:Type} (f:Nat->α) (k:Nat) (v:α):Nat->α:=fun j=>if j=k then v else f j
theorem jZ {α:Type} (f:Nat->α) (k:Nat) (v:α):nU f k v k=v:=by simp[nU]
theorem yg {α:Type} {f:Nat->α} {k j:Nat} {v:α} (h:j≠k):nU f k v j=f j:=by simp[nU,h]
structure il (w:World) (lo hi tb fb:Nat) (R:List Pt) (gone:List Bool) (cnt:Nat) (yy:List Nat) (nc:Nat->List Nat) (lc:Nat->List Int) (V:xI):Prop where
 blk:w.heap[tb]? =some (xV V.rv V.xv V.gv fb V.nv V.lv V.yv cnt)
 fM:lo<=tb/\tb<hi/\lo<=fb/\fb<hi/\hi<=w.heap.size
 row:w.ownsRow lo 29 3 V.rv R.length (R.flatMap bX)
 xs:w.ownsRow lo 2 1 V.xv R.length ((cz R).map (Value.int .i64))
 ED:w.ownsRow lo 4 1 V.gv R.length (gone.map Value.bool)
 iU:om w lo fb R.length V.fv
 jD:w.ownsRow lo 163 7 V.nv (bf R.length).length ((bf R.length).flatMap pR)
 F4:w.ownsRow lo 150 2 V.lv (bf R.length).length (Pz V.LN V.LL (bf R.length).length)
 ys:w.ownsRow lo 2 1 V.yv yy.length ((jI R yy).map (Value.int .i64))
 Hl:∀k,k<(bf R.length).length->w.ownsRow lo 27 1 (V.LN k) (nc k).length (((nc k).map (ku R)).map (Value.int .u32))
 Co:∀l r s,FT.At (bf R.length) (.node l r) s->w.ownsRow lo 3 1 (V.LL ((FT.node l r).root s)) (lc ((FT.node l r).root s)).length ((lc ((FT.node l r).root s)).map (Value.int .i64))
 Ez:∀k,k<(bf R.length).length->∃a m c,V.LL k=.slice a m c
 top:∀v,v=V.rv\/v=V.xv\/v=V.gv\/v=V.nv\/v=V.lv\/v=V.yv\/v=V.fv->∀g,v.ownBlock=some g->g<hi
 pW:∀k,k<(bf R.length).length->(∀g,(V.LN k).ownBlock=some g->g<hi)/\∀g,(V.LL k).ownBlock=some g->g<hi
 OQ:∀g,V.xv.ownBlock=some g->V.yv.ownBlock≠some g
 Jv:∀i k,i<(bf R.length).length->k<(bf R.length).length->i≠k->∀g,(V.LN i).ownBlock=some g->(V.LN k).ownBlock≠some g
 H6:∀i k,i<(bf R.length).length->k<(bf R.length).length->i≠k->∀g,(V.LL i).ownBlock=some g->(V.LL k).ownBlock≠some g
theorem fH {w w':World} {g base:Nat} {cs:Array Value} {t:TypeId} {fr:Nat×Nat} {e:TypeId} {sz:Nat} {v:Value} {n:Nat} {xs:List Value} (h:w.ownsRow base e sz v n xs) (K:aB (fun k=>k=g) w w') (b:w.heap[g]? =some (.cells cs t fr)) (ht:t≠e):w'.ownsRow base e sz v n xs:=
 p8 h K fun k c a=>by subst a;exact⟨_,_,_,b,ht⟩
theorem Sl {w w':World} {g base:Nat} {e:TypeId} {sz:Nat} {v:Value} {n:Nat} {xs:List Value} (h:w.ownsRow base e sz v n xs) (K:aB (fun k=>k=g) w w') (c:v.ownBlock≠some g):w'.ownsRow base e sz v n xs:=
 aU h K fun k a b=>by subst b;exact c a
theorem zK {w w':World} {g base fb n:Nat} {b:Value} {cs:Array Value} {t:TypeId} {fr:Nat×Nat} (h:om w base fb n b) (K:aB (fun k=>k=g) w w') (c:w.heap[g]? =some (.cells cs t fr)) (d:t≠236) (f:t≠163):om w' base fb n b:=
 ⟨bu K h.blk fun e=>by subst e;have a:=c.symm.trans h.blk;injection a with a;injection a with _ a _;exact d a,fH h.row K c f⟩
theorem Gm {w w':World} {g b:Nat} {cs d:Array Value} {t c:TypeId} {fr f:Nat×Nat} (h:w.heap[b]? =some (.cells d c f)) (K:aB (fun k=>k=g) w w') (j:w.heap[g]? =some (.cells cs t fr)) (i:t≠c):w'.heap[b]? =some (.cells d c f):=
 bu K h fun e=>by subst e;have a:=j.symm.trans h;injection a with a;injection a with _ a _;exact i a
theorem rC {w:World} {base g n c:Nat} {e:TypeId} {sz m:Nat} {xs:List Value} (h:w.ownsRow base e sz (aC g n c) m xs):∃cs fr,w.heap[g]? =some (.cells cs e fr):=by
 rcases h.2 with⟨a,-⟩|⟨i,d,f,a,-,b,-⟩
 .cases a
 .injection a with a;injection a with a;injection a with a;subst a;exact⟨_,_,b⟩
section
variable {w w':World} {lo hi tb fb:Nat} {R:List Pt} {gone:List Bool} {cnt:Nat} {yy:List Nat} {nc:Nat->List Nat} {lc:Nat->List Int} {V:xI}
theorem il.kept {S:Nat->Prop} (h:il w lo hi tb fb R gone cnt yy nc lc V) (K:aB S w w') (hS:∀k,lo<=k->k<hi->¬S k):il w' lo hi tb fb R gone cnt yy nc lc V:=by
 have ht:=h.top;have a:∀{e:TypeId} {sz:Nat} {v:Value} {n:Nat} {xs:List Value},w.ownsRow lo e sz v n xs->(∀g,v.ownBlock=some g->g<hi)->w'.ownsRow lo e sz v n xs:=fun a d=>aU a K fun g e=>hS g (a.lt g e).1 (d g e);exact⟨bu K h.blk (hS tb h.fM.1 h.fM.2.1),⟨h.fM.1,h.fM.2.1,h.fM.2.2.1,h.fM.2.2.2.1,bA h.fM.2.2.2.2 K.size⟩,
  a h.row (ht _ ax),a h.xs (ht _ ax),a h.ED (ht _ ax),
  ⟨bu K h.iU.blk (hS fb h.fM.2.2.1 h.fM.2.2.2.1),a h.iU.row (ht _ ax)⟩,a h.jD (ht _ ax),a h.F4 (ht _ ax),a h.ys (ht _ ax),
  fun k c=>a (h.Hl k c) (h.pW k c).1,fun l r s b=>a (h.Co l r s b) (h.pW _ b.lt).2,h.Ez,h.top,h.pW,h.OQ,h.Jv,h.H6⟩
theorem il.below {B:Nat} (h:il w lo hi tb fb R gone cnt yy nc lc V) (a:Below B w w') (e:hi<=B):il w' lo hi tb fb R gone cnt yy nc lc V:=
 h.kept (S:=fun k=>hi<=k) ⟨a.os,a.tape,a.output,a.size,fun k f g=>a.block k aa⟩ fun k b c d=>aa
theorem il.CY (h:il w lo hi tb fb R gone cnt yy nc lc V) (m:Nat):il (w.setCell (ag tb 7) (.int .i64 m)) lo hi tb fb R gone m yy nc lc V:=by
 have K:aB (fun k=>k=tb) w (w.setCell (ag tb 7) (.int .i64 m)):=(aB.refl (fun k=>k=tb) w).set (a:=(ag tb 7)) _ (.inl rfl);have b:=h.blk;exact⟨dC w tb 7 _ _ _ h.blk,aQ h.fM,fH h.row K b ai,fH h.xs K b ai,fH h.ED K b ai,zK h.iU K b ai ai,fH h.jD K b ai,fH h.F4 K b ai,fH h.ys K b ai,
  fun k d=>fH (h.Hl k d) K b ai,fun l r s c=>fH (h.Co l r s c) K b ai,h.Ez,h.top,h.pW,h.OQ,h.Jv,h.H6⟩
theorem il.Sm (h:il w lo hi tb fb R gone cnt yy nc lc V) {g n c:Nat} (f:V.gv=aC g n c) (i:Nat):il (w.setCell (ag g i) (.bool true)) lo hi tb fb R (gone.set i true) cnt yy nc lc V:=by
 have K:aB (fun k=>k=g) w (w.setCell (ag g i) (.bool true)):=(aB.refl (fun k=>k=g) w).set (a:=(ag g i)) _ (.inl rfl);have e:=h.ED;rw[f]at e;have⟨cs,fr,b⟩:=rC e;refine⟨Gm h.blk K b ai,aQ h.fM,fH h.row K b ai,fH h.xs K b ai,?_,zK h.iU K b ai ai,fH h.jD K b ai,fH h.F4 K b ai,fH h.ys K b ai,
  fun k m=>fH (h.Hl k m) K b ai,fun l r s j=>fH (h.Co l r s j) K b ai,h.Ez,h.top,h.pW,h.OQ,h.Jv,h.H6⟩
 rw[f,jg];have o:n=R.length:=by
  rcases e.2 with⟨d,-⟩|⟨t,p,q,d,-⟩
  .cases d
  .injection d with _ d _
 subst o;exact(e.stored i (.bool true)).1
theorem il.VX (h:il w lo hi tb fb R gone cnt yy nc lc V) {g n c n':Nat} (j:V.yv=aC g n c) (K:aB (fun k=>k=g) w w') {yy':List Nat} (A:w'.ownsRow lo 2 1 (aC g n' c) yy'.length ((jI R yy').map (Value.int .i64))):
  il (w'.setCell (ag tb 6) (aC g n' c)) lo hi tb fb R gone cnt yy' nc lc {V with yv:=aC g n' c}:=by
 have t:=h.ys;rw[j]at t;have⟨cs,fr,q⟩:=rC t;have ht:=Gm h.blk K q ai;have i:aB (fun k=>k=tb) w' (w'.setCell (ag tb 6) (aC g n' c)):=(aB.refl (fun k=>k=tb) w').set (a:=(ag tb 6)) _ (.inl rfl);have C:=h.xs;have y:V.xv.ownBlock≠some g:=fun e=>h.OQ g e (by rw[j];rfl);have f:∀{e:TypeId} {sz:Nat} {v:Value} {m:Nat} {xs:List Value},w.ownsRow lo e sz v m xs->2≠e->146≠e->(w'.setCell (ag tb 6) (aC g n' c)).ownsRow lo e sz v m xs:=fun z o p=>fH (fH z K q o) i ht p;refine⟨dC w' tb 6 _ _ _ ht,?_,f h.row ai ai,fH (Sl C K y) i ht ai,f h.ED ai ai,zK (zK h.iU K q ai ai) i ht ai ai,f h.jD ai ai,f h.F4 ai ai,fH A i ht ai,
  fun k x=>f (h.Hl k x) ai ai,fun l r s u=>f (h.Co l r s u) ai ai,h.Ez,?_,h.pW,?_,h.Jv,h.H6⟩
 .have:=h.fM;have:=K.size;simp;omega
 .intro v B b d;rcases B with e|e|e|e|e|e|e
  .exact h.top v (.inl e) b d
  .exact h.top v (.inr (.inl e)) b d
  .exact h.top v (.inr (.inr (.inl e))) b d
  .exact h.top v (.inr (.inr (.inr (.inl e)))) b d
  .exact h.top v (.inr (.inr (.inr (.inr (.inl e))))) b d
  .exact h.top V.yv ax b (by rw[j];rw[e]at d;exact d)
  .exact h.top v (.inr (.inr (.inr (.inr (.inr (.inr e)))))) b d
 .intro b o p;exact h.OQ b o (by rw[j];exact p)
theorem il.UM (h:il w lo hi tb fb R gone cnt yy nc lc V) {k g n c n' gl nl cl:Nat} (B:k<(bf R.length).length) (y:V.LN k=aC g n c) (D:V.lv=aC gl nl cl) (K:aB (fun k=>k=g) w w') {L':List Nat} (N:w'.ownsRow lo 27 1 (aC g n' c) L'.length ((L'.map (ku R)).map (Value.int .u32))):
  il (w'.setCell (ag gl (k*2)) (aC g n' c)) lo hi tb fb R gone cnt yy (nU nc k L') lc {V with LN:=upd V.LN k (aC g n' c)}:=by
 have F:=h.Hl k B;rw[y]at F;have⟨cs,fr,x⟩:=rC F;have C:=h.F4;rw[D]at C;have L:nl=(bf R.length).length:=by
  rcases C.2 with⟨q,-⟩|⟨b,O,Q,q,-⟩
  .cases q
  .injection q with _ q _
 subst L;have E:=fH C K x ai;have⟨P,S,p⟩:=rC E;have o:aB (fun k=>k=gl) w' (w'.setCell (ag gl (k*2)) (aC g n' c)):=(aB.refl (fun k=>k=gl) w').set (a:=(ag gl (k*2))) _ (.inl rfl);have j:∀{e:TypeId} {sz:Nat} {v:Value} {m:Nat} {xs:List Value},w.ownsRow lo e sz v m xs->27≠e->150≠e->(w'.setCell (ag gl (k*2)) (aC g n' c)).ownsRow lo e sz v m xs:=fun M z A=>fH (fH M K x z) o p A;refine⟨Gm (Gm h.blk K x ai) o p ai,?_,j h.row ai ai,j h.xs ai ai,j h.ED ai ai,zK (zK h.iU K x ai ai) o p ai ai,j h.jD ai ai,?_,j h.ys ai ai,
  fun k' f=>?_,fun l r s J=>j (h.Co l r s J) ai ai,h.Ez,h.top,fun k' f=>⟨fun b d=>?_,(h.pW k' f).2⟩,h.OQ,fun i G z A H b t u=>?_,h.H6⟩
 .have:=h.fM;have:=K.size;simp;omega
 .show World.ownsRow _ _ _ _ V.lv _ _;rw[D];exact dw.Cr E B _
 .by_cases e:k'=k
  .subst e;rw[jZ];show World.ownsRow _ _ _ _ (upd V.LN k' _ k') _ _;rw[upd_same];exact fH N o p ai
  .rw[yg e];show World.ownsRow _ _ _ _ (upd V.LN k _ k') _ _;rw[upd_ne e];exact fH (Sl (h.Hl k' f) K (fun I=>h.Jv k k' B f (jk e) g (by rw[y];rfl) I)) o p ai
 .by_cases e:k'=k
  .subst e;have d:(upd V.LN k' (aC g n' c) k').ownBlock=some b:=d;rw[upd_same]at d;exact(h.pW k' f).1 b (by rw[y];exact d)
  .have d:(upd V.LN k (aC g n' c) k').ownBlock=some b:=d;rw[upd_ne e]at d;exact(h.pW k' f).1 b d
 .have own:∀i,(upd V.LN k (aC g n' c) i).ownBlock=(V.LN i).ownBlock:=fun i=>by
   by_cases e:i=k
   .subst e;rw[upd_same,y];rfl
   .rw[upd_ne e]
  have t:(upd V.LN k (aC g n' c) i).ownBlock=some b:=t;have u:(upd V.LN k (aC g n' c) G).ownBlock=some b:=u;rw[own]at t u;exact h.Jv i G z A H b t u
theorem il.UN (h:il w lo hi tb fb R gone cnt yy nc lc V) {D E:FT} {F k g n c n' gl nl cl:Nat} (H:FT.At (bf R.length) (.node D E) F) (J:(FT.node D E).root F=k) (C:V.LL k=aC g n c) (L:V.lv=aC gl nl cl) (K:aB (fun k=>k=g) w w') {L':List Int} (W:w'.ownsRow lo 3 1 (aC g n' c) L'.length (L'.map (Value.int .i64))):
  il (w'.setCell (ag gl (k*2+1)) (aC g n' c)) lo hi tb fb R gone cnt yy nc (nU lc k L') {V with LL:=upd V.LL k (aC g n' c)}:=by
 have I:k<(bf R.length).length:=J▸H.lt;have N:=h.Co D E F H;rw[J,C]at N;have⟨cs,fr,x⟩:=rC N;have B:=h.F4;rw[L]at B;have T:nl=(bf R.length).length:=by
  rcases B.2 with⟨p,-⟩|⟨b,Y,aa,p,-⟩
  .cases p
  .injection p with _ p _
 subst T;have M:=fH B K x ai;have⟨Z,ab,o⟩:=rC M;have j:aB (fun k=>k=gl) w' (w'.setCell (ag gl (k*2+1)) (aC g n' c)):=(aB.refl (fun k=>k=gl) w').set (a:=(ag gl (k*2+1))) _ (.inl rfl);have f:∀{e:TypeId} {sz:Nat} {v:Value} {m:Nat} {xs:List Value},w.ownsRow lo e sz v m xs->3≠e->150≠e->(w'.setCell (ag gl (k*2+1)) (aC g n' c)).ownsRow lo e sz v m xs:=fun U z A=>fH (fH U K x z) j o A;have own:∀i,(upd V.LL k (aC g n' c) i).ownBlock=(V.LL i).ownBlock:=fun i=>by
  by_cases e:i=k
  .subst e;rw[upd_same,C];rfl
  .rw[upd_ne e]
 refine⟨Gm (Gm h.blk K x ai) j o ai,?_,f h.row ai ai,f h.xs ai ai,f h.ED ai ai,zK (zK h.iU K x ai ai) j o ai ai,f h.jD ai ai,?_,f h.ys ai ai,
  fun k' d=>f (h.Hl k' d) ai ai,fun l r s G=>?_,fun k' d=>?_,h.top,fun k' d=>⟨(h.pW k' d).1,fun b y=>?_⟩,h.OQ,h.Jv,fun i O z A P b q t=>?_⟩
 .have:=h.fM;have:=K.size;simp;omega
 .show World.ownsRow _ _ _ _ V.lv _ _;rw[L];exact dw.R5 M I _
 .have S:=G.lt;generalize Q:(FT.node l r).root s=k' at*;by_cases e:k'=k
  .subst e;rw[jZ];show World.ownsRow _ _ _ _ (upd V.LL k' _ k') _ _;rw[upd_same];exact fH W j o ai
  .rw[yg e];show World.ownsRow _ _ _ _ (upd V.LL k _ k') _ _;rw[upd_ne e];have u:=h.Co l r s G;rw[Q]at u;exact fH (Sl u K (fun u=>h.H6 k k' I S (jk e) g (by rw[C];rfl) u)) j o ai
 .show∃a m X,upd V.LL k _ k'=_;by_cases e:k'=k
  .subst e;rw[upd_same];exact⟨_,_,_,rfl⟩
  .rw[upd_ne e];exact h.Ez k' d
 .have y:(upd V.LL k (aC g n' c) k').ownBlock=some b:=y;rw[own]at y;exact(h.pW k' d).2 b y
 .have q:(upd V.LL k (aC g n' c) i).ownBlock=some b:=q;have t:(upd V.LL k (aC g n' c) O).ownBlock=some b:=t;rw[own]at q t;exact h.H6 i O z A P b q t
theorem il.UO (h:il w lo hi tb fb R gone cnt yy nc lc V) {m n:FT} {o k g c j:Nat} (q:FT.At (bf R.length) (.node m n) o) (t:(FT.node m n).root o=k) (i:V.LL k=aC g (lc k).length c) (x:Int):
  il (w.setCell (ag g j) (.int .i64 x)) lo hi tb fb R gone cnt yy nc (nU lc k ((lc k).set j x)) V:=by
 have u:k<(bf R.length).length:=t▸q.lt;have f:=h.Co m n o q;rw[t,i]at f;have⟨cs,fr,b⟩:=rC f;have K:aB (fun k=>k=g) w (w.setCell (ag g j) (.int .i64 x)):=(aB.refl (fun k=>k=g) w).set (a:=(ag g j)) _ (.inl rfl);refine⟨Gm h.blk K b ai,aQ h.fM,fH h.row K b ai,fH h.xs K b ai,fH h.ED K b ai,zK h.iU K b ai ai,fH h.jD K b ai,fH h.F4 K b ai,fH h.ys K b ai,
  fun k' v=>fH (h.Hl k' v) K b ai,fun l r s p=>?_,h.Ez,h.top,h.pW,h.OQ,h.Jv,h.H6⟩
 have y:=p.lt;have d:=h.Co l r s p;generalize z:(FT.node l r).root s=k' at*;by_cases e:k'=k
 .subst e;rw[jZ,i,nu,jg];exact(f.stored j (.int .i64 x)).1
 .rw[yg e];exact Sl d K (fun d=>h.H6 k k' u y (jk e) g (by rw[i];rfl) d)
end
end
end Go.Proofs.YtkjdbndekceffaaGreat
