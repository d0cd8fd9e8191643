/- Made small by a program. -/
import Derived.Test.YtkjdbndekceffaaGreatZ07
set_option linter.unusedSimpArgs false
set_option linter.unusedVariables false
set_option maxRecDepth 100000
set_option maxHeartbeats 16000000
namespace Go.Proofs.YtkjdbndekceffaaGreat
open Tryz
section
open Go.RowKit Go.Sort Go.Shelf Go.Lib Go.Maps
attribute [local irreducible] wpQuiet
attribute [local go_sem] Oper.eF
theorem Jk (a:Option Addr) (c:Nat) (l:List Pt) (w:World) (dH:bQ bX 3 w a l) (hc:l.length<=20000) (gj:H9 l) (hu:lH l=true):
  aK 35 #[.slice a l.length c] w fun e w'=>∃tb fb V,e=.returned (.tuple #[aj tb,af 0])/\jC w' w.heap.size w'.heap.size tb fb (eP l) (List.replicate (eP l).length false) (dP (eP l)) V/\Below w.heap.size w w':=by
 have dc:=Gj a c l w dH aa gj;rw[hu]at dc;have hD:=ag dH;obtain⟨n,dI⟩:∃n,n=l.length:=⟨_,rfl⟩;have dW:=ag (fun W (c2:Below w.heap.size w W)=>oN a l n c W dI.symm (dH.below c2) aa);have fg:=ag dI;rw[<-dI]at hc dc |-;have e0:=ag (fun W=>yo n aa W);clear dI dH;have d1:decide ((n:Int)>2147483648)=false:=aD;have d2:decide ((2147483648:Int)<(n:Int))=false:=aD;have d3:decide (2147483648<n)=false:=aD;go_enter func35,ntmps35
 go_wp2_with (go_at_call 89;refine dc.mono ?_;rintro e w1 ⟨rfl,dB⟩;clear dc)
 go_wp2_with fail
 refine(e0.o w1).mono ?_;rintro e w2 ⟨rfl,dv⟩;have cG:Hid (Below w.heap.size w w2):=by rw[dv];exact dB.alloc dB.size _
 have de:Hid (w2.heap[w1.heap.size]? =some (lC 0 0 (aL) n)):=by rw[dv];exact cB w1 _
 obtain⟨fb,eA⟩:∃fb,fb=w1.heap.size:=⟨_,rfl⟩;have fX:w.heap.size<=fb/\fb<w2.heap.size:=by rw[dv,eA];exact⟨dB.size,aA⟩
 rw[<-eA]at de |-;clear dv dB eA e0
 go_upto_region 8 with fail
 go_cut [6]from 6 (fun hA bt=>∃tb aV N Q ab,hA=aj tb/\Hid (vG bt w.heap.size fb n aV N Q ab l)/\Hid (bt.heap[tb]? =some (wS aV (aL) N fb Q (aL) (aL) n))/\Hid (Below w.heap.size w bt)/\w.heap.size<=tb)
 case first=>
  have h4:=Oq n aa;have fv:∀(J:World) aV N Q ab,J.ownsRow w.heap.size 29 3 aV n (l.flatMap bX)->J.ownsRow w.heap.size 4 1 N n ((List.replicate n false).map Value.bool)->J.ownsRow w.heap.size 163 7 ab (aW n).length ((aW n).flatMap oK)->J.ownsRow w.heap.size 163 7 Q (aW n).length ((aW n).flatMap oK)->J.heap[fb]? =some (lC 1 0 ab n)->Below w.heap.size w J->
    vG (J.alloc (.cells #[aV,aL,N,aj fb,Q,aL,aL,af n] 146)) w.heap.size fb n aV N Q ab l/\(J.alloc (.cells #[aV,aL,N,aj fb,Q,aL,aL,af n] 146)).heap[J.heap.size]? =some (wS aV (aL) N fb Q (aL) (aL) n)/\Below w.heap.size w (J.alloc (.cells #[aV,aL,N,aj fb,Q,aL,aL,af n] 146)):=fun J aV N Q ab B h2 ac bd bG c0=>
   ⟨(vG.mk B h2 ⟨bG,ac⟩ fX.1 bd).kept ((ax.refl (fun _=>False) J).alloc _) (fun k _ h=>h.elim),cB J _,c0.alloc c0.size _⟩
  have dZ:=ag fv;clear fv;refine ak (fun W=>True) [1,4,7,10,11,12] [(0,false),(2,false),(3,false),(5,false),(6,false),(8,false),(9,false)] trivial 6 ?_;have ct:Below w.heap.size w w2.drew:=cG.o.drew;have ez:w2.drew.heap[fb]? =some (lC 0 0 (aL) n):=de.o;have h9:w2.drew.heap.size=w2.heap.size:=rfl;refine iQ 1 4 rfl rfl (fun K f=>?_) (fun K f=>?_)
  .
   refine bf wT rfl _ _ rfl (vals:=#[.slice a n c]) rfl (dW.o w2.drew ct) ?_;rintro e w3 ⟨aV,rfl,b6,br⟩;refine⟨_,rfl,f _ _ (fun _ _=>trivial) ?_⟩;clear f K;have cv:w3.heap[fb]? =some (lC 0 0 (aL) n):=(br.block fb aa).trans ez;have bq:Below w.heap.size w w3:=ct.trans (br.mono ct.size);have eK:=bH b6 ct.size;have dK:=br.size;have dX:=ag cv;have bW:=ag bq;have fs:=ag eK;obtain⟨T,P,rfl⟩:=fF eK;clear b6 br ct ez cv bq eK;refine iQ 4 7 rfl rfl (fun K f=>?_) (fun K f=>?_)
   .go_simp;refine f _ _ (fun _ _=>trivial) ?_;clear f K;refine aF 7 rfl fun K f=>?_;have b4:(w3.alloc (.cells (madeCells #[.bool false] n) 4)).heap[fb]? =some (lC 0 0 (aL) n):=(bY _ _ _ aa).trans dX.o;refine bf vH rfl _ _ rfl (vals:=#[aj fb]) rfl (gH fb n aa _ b4) ?_;rintro e J ⟨ab,Q,rfl,iW,a6,bs,aO⟩;refine⟨_,rfl,f _ _ (fun _ _=>trivial) ?_⟩;clear f K;have bI:Below w.heap.size w (w3.alloc (.cells (madeCells #[.bool false] n) 4)):=bW.o.alloc bW.o.size _;have a0:Below w.heap.size w J:=bI.trans (aO.toBelow bI.size (fun k h=>aa));have F:=dZ.o J _ (au w3.heap.size n n) Q ab (Jb (az fs.o ((aJ _ _).alloc (aB _) _)) ai b4 aO) (Jb (yB w3 w.heap.size n bW.o.size aa) ai b4 aO) (bH iW bI.size) (bH a6 bI.size) bs a0;have a1:=ag F;have a8:=a0.size;obtain⟨aw,nc,rfl⟩:=fF a6;clear F iW a6 bs aO bI a0 b4;refine aH [10,11,12] ?_;go_wp2;go_meet;exact⟨_,_,_,_,_,rfl,a1.o.1,a1.o.2.1,a1.o.2.2,a8⟩
   .refine bf vH rfl _ _ rfl (vals:=#[aj fb]) rfl (gH fb n aa _ dX.o) ?_;rintro e J ⟨ab,Q,rfl,iW,a6,bs,aO⟩;refine⟨_,rfl,f _ _ (fun _ _=>trivial) ?_⟩;clear f K;have a0:Below w.heap.size w J:=bW.o.trans (aO.toBelow bW.o.size (fun k h=>aa));have ap:Below w.heap.size w (J.alloc (.cells (madeCells #[.bool false] n) 4)):=a0.alloc a0.size _;have be:Below J.heap.size J (J.alloc (.cells (madeCells #[.bool false] n) 4)):=(aJ _ _).alloc (aB _) _;have g4:=(aZ.1 bs).1;have F:=dZ.o (J.alloc (.cells (madeCells #[.bool false] n) 4)) _ (au J.heap.size n n) Q ab (az (Jb fs.o ai dX.o aO) be) (yB J w.heap.size n a0.size aa) (az (bH iW bW.o.size) be) (az (bH a6 bW.o.size) be) ((bY _ _ _ g4).trans bs) ap;have gh:(J.alloc (.cells (madeCells #[.bool false] n) 4)).heap.size=J.heap.size+1:=aA;rw[gh]at F;have a1:=ag F;have a8:=ap.size;rw[gh]at a8;obtain⟨aw,nc,rfl⟩:=fF a6;clear F iW a6 bs aO a0 ap be;refine aH [4,10,11,12] ?_;go_wp2;go_meet;exact⟨_,_,_,_,_,rfl,a1.o.1,a1.o.2.1,a1.o.2.2,a8⟩
  .
   go_simp;refine f _ _ (fun _ _=>trivial) ?_;clear f K;refine aF 1 rfl fun K f=>?_;have bq:Below w.heap.size w (w2.alloc (.cells (madeCells #[.bool false] n) 4)).drew:=(cG.o.alloc cG.o.size _).drew;have cv:(w2.alloc (.cells (madeCells #[.bool false] n) 4)).drew.heap[fb]? =some (lC 0 0 (aL) n):=(bY w2 _ _ fX.2).trans de.o;have eB:(w2.alloc (.cells (madeCells #[.bool false] n) 4)).drew.ownsRow w.heap.size 4 1 (au w2.heap.size n n) n ((List.replicate n false).map Value.bool):=yB w2 w.heap.size n cG.o.size aa;have dK:fb<(w2.alloc (.cells (madeCells #[.bool false] n) 4)).drew.heap.size:=by
    show fb<(w2.alloc (.cells (madeCells #[.bool false] n) 4)).heap.size;simp;omega
   obtain⟨w3,em⟩:∃w3,w3=(w2.alloc (.cells (madeCells #[.bool false] n) 4)).drew:=⟨_,rfl⟩;rw[<-em]at bq cv eB dK;refine bf wT rfl _ _ rfl (vals:=#[.slice a n c]) rfl (by rw[<-em];exact dW.o w3 bq) ?_;rintro e w4 ⟨aV,rfl,b6,br⟩;refine⟨_,rfl,f _ _ (fun _ _=>trivial) ?_⟩;clear f K;have b4:w4.heap[fb]? =some (lC 0 0 (aL) n):=(br.block fb dK).trans cv;have bI:Below w.heap.size w w4:=bq.trans (br.mono bq.size);have cx:=bH b6 bq.size;have fZ:=az eB br;have dY:=ag b4;have db:=ag bI;have gK:=ag cx;have gr:=ag fZ;obtain⟨T,P,rfl⟩:=fF cx;clear b6 br ct ez b4 bI cx cv bq eB fZ dK em;refine aF 7 rfl fun K f=>?_;refine bf vH rfl _ _ rfl (vals:=#[aj fb]) rfl (gH fb n aa _ dY.o) ?_;rintro e J ⟨ab,Q,rfl,iW,a6,bs,aO⟩;refine⟨_,rfl,f _ _ (fun _ _=>trivial) ?_⟩;clear f K;have a0:Below w.heap.size w J:=db.o.trans (aO.toBelow db.o.size (fun k h=>aa));have F:=dZ.o J _ (au w2.heap.size n n) Q ab (Jb gK.o ai dY.o aO) (Jb gr.o ai dY.o aO) (bH iW db.o.size) (bH a6 db.o.size) bs a0;have a1:=ag F;have a8:=a0.size;obtain⟨aw,nc,rfl⟩:=fF a6;clear F iW a6 bs aO a0;refine aH [10,11,12] ?_;go_wp2;go_meet;exact⟨_,_,_,_,_,rfl,a1.o.1,a1.o.2.1,a1.o.2.2,a8⟩
 case rest=>
  obtain⟨tb,aV,N,Q,ab,rfl,cf,cP,d0,hl⟩:=hcut;clear cG de dW;obtain⟨T,P,rfl⟩:=fF cf.o.row;have cz:=(aZ.1 cP.o).1;have eO:(ids l).Nodup:=by unfold lH at hu;simpa using hu
  have e1:=ag (yA fg.o.symm aa cf.o.row eO);have O:=cP.o;have cl:wc.cell? (ae tb 0)=some (.slice T n P):=aG O;clear O
  go_wp2_with fail
  refine e1.o.mono ?_;rintro e w4 ⟨rfl,cx,b5⟩;have fL:vG w4 w.heap.size fb n (.slice T n P) N Q ab (eP l):=by
   have h:=cf.o;have hp:∀k,k<wc.heap.size->(Value.slice T n P).ownBlock=some k->∃cs t fr,wc.heap[k]? =some (.cells cs t fr)/\t=29:=fun k al cu=>by
    rcases h.row.2 with⟨x,-⟩|⟨g,cV,cW,x,-,aM,-⟩
    .rw[x]at cu;cases cu
    .rw[x]at cu;injection cu with cu;subst cu;exact⟨_,_,_,aM,rfl⟩
   refine⟨cx,oU h.Dw b5 fun k B h2=>?_,⟨bz b5 h.iD.blk fun h2=>?_,oU h.iD.row b5 fun k B h2=>?_⟩,h.Qg,oU h.jc b5 fun k B h2=>?_⟩
   .obtain⟨cs,t,fr,a,rfl⟩:=hp k B h2;exact⟨cs,_,fr,a,ai⟩
   .obtain⟨cs,t,fr,a,rfl⟩:=hp fb (aZ.1 h.iD.blk).1 h2;have Y:=a.symm.trans h.iD.blk;injection Y with Y;injection Y with _ Y _;exact absurd Y ai
   .obtain⟨cs,t,fr,a,rfl⟩:=hp k B h2;exact⟨cs,_,fr,a,ai⟩
   .obtain⟨cs,t,fr,a,rfl⟩:=hp k B h2;exact⟨cs,_,fr,a,ai⟩
  have ch:Hid (w4.heap[tb]? =some (wS (.slice T n P) (aL) N fb Q (aL) (aL) n)):=bz b5 cP.o (fun h=>bn cf.o.row cP.o ai tb h rfl);have dd:Hid (Below w.heap.size w w4):=d0.o.trans (b5.toBelow d0.o.size (fun k h=>(cf.o.row.lt k h).1));have dk:=ag fL;have cr:(eP l).length=n:=by rw[(dN l).length_eq];exact fg.o.symm
  have fQ:(ids (eP l)).Nodup:=((dN l).map _).nodup_iff.2 eO;have dl:Hid ((eP l).Pairwise kE/\(ids (eP l)).Nodup):=⟨fT eO,fQ⟩;have fi:Hid (H9 (eP l)):=fun p hp=>gj p ((wC l p).1 hp);clear cx b5 fL cf cP d0 e1 fQ cl cz;generalize fP:eP l=R at*;have gC:Hid (eP l=R):=fP;clear fP;have cz:=(aZ.1 ch.o).1;have O:=ch.o;have cl:w4.cell? (ae tb 0)=some (.slice T n P):=aG O;clear O
  go_wp2_with fail
  go_loopg [52] n (fun b8 hy wr=>∃(i:Nat) (eY:Value),hy=.int .i64 i/\i<=n/\n-i<=b8/\Hid (wr.heap[tb]? =some (wS (.slice T n P) eY N fb Q (aL) (aL) n))/\Hid (wr.ownsRow w4.heap.size 2 1 eY i (((bU R).take i).map (Value.int .i64)))/\Hid (ax (fun k=>k=tb) w4 wr))
  case atStart=>exact⟨0,_,rfl,aX _,aa,ch,dw _ _ _ _,ax.refl _ _⟩
  case round=>
   obtain⟨i,eY,rfl,hi,hW,bl,b1,cc⟩:=hrel;by_cases hT:i<n
   .have bh:=aT dk.o.row cc.o (fun g h h2=>bn dk.o.row ch.o ai g h h2.symm);obtain⟨_,_,bm,-,-,aS⟩:=bQ.aI bg ai bh;injection bm with Z cm co;subst Z;clear cm co;obtain⟨b,off,cX,fV,aE⟩:=aS.get aa;have bj:=aE i aa 0 aa;have x1:=aE i aa 1 aa;have x2:=aE i aa 2 aa;simp only[bX,fw,fD,dx]at bj x1 x2;have gm:(bU R).take (i+1)=(bU R).take i++[R[i].1]:=by
     have h:i<(bU R).length:=by unfold bU;simp;omega
     rw[gW h];simp[bU]
    have fl:=ag gm;subst cX;clear aE aS gm bh;generalize R[i]=p at*;obtain⟨a9,ba,aC⟩:=p;simp only at fl bj x1 x2;have O:=bl.o;have c9:=(aZ.1 O).1;obtain⟨am,an,rfl⟩:=fF b1.o
    go_upto_region 13 with fail
    obtain⟨w6,bp⟩:∃w6,w6=wr.alloc (.cells #[af a9,af ba,ay aC] 29):=⟨_,rfl⟩;have ap:Below wr.heap.size wr w6:=by rw[bp];exact(aJ _ _).alloc (aB _) _
    have cC:w6.heap[wr.heap.size]? =some (.cells #[af a9,af ba,ay aC] 29 (0,0)):=by rw[bp];exact cB wr _
    have b7:=(ap.block tb c9).trans O;have hj:=cc.o.size;have hk:=ap.size;have en:=ah (w:=w6) (ad:=(ae tb 1)) (v:=.slice am i an) (aG b7);have eo:=ah (w:=w6) (ad:=(ae wr.heap.size 0)) (v:=.int .i64 a9) (aG cC);have ef:=ag (az b1.o ap);have cJ:Hid (ax (fun k=>k=tb) w4 w6):=cc.o.below ap;have cQ:=ag b7;rw[<-bp];clear bp ap cC b7 O bj x1 x2;refine ak (fun W=>∃p:aQ w6,W=p.W) [8,9,10,11] [(0,false),(1,false),(2,false),(3,false),(4,true),(5,false),(6,true)] ⟨⟨_,(aJ _ _).drew⟩,rfl⟩ 5 ?_;refine aF 7 rfl fun K f=>?_;go_simp;refine f _ _ (fun _ _=>⟨⟨_,(aJ _ w6).alloc (aB _) _|>.drew⟩,rfl⟩) ?_;clear f K;refine aF 8 rfl fun K f=>?_;refine bC zM w4.heap.size (w:=(w6.alloc (.cells #[af a9] 2)).drew) (az ef.o ((aJ _ w6).alloc (aB _) _|>.drew)) [.int .i64 a9] rfl (by simp[Value.oneCell']) rfl (.tmp 60) (.tmp 63) rfl rfl w6.heap.size rfl (lg _ _) dD aa aD ?_;intro ar aq H eH f0 hM h1;refine f _ _ (fun _ h=>absurd aA h) ?_;clear f K;refine aH [9,10,11] ?_;have c6:w6.grownBy H (Value.slice am i an).ownBlock:=dO (bN ((aJ _ w6).alloc (aB _) _|>.drew)) f0;have bc:ax (fun k=>(Value.slice am i an).ownBlock=some k) w6 H:=(ax.refl _ w6).grown c6 (fun k al=>.inl al);have eS:∀g,(Value.slice am i an).ownBlock=some g->w4.heap.size<=g:=fun g h=>(ef.o.lt g h).1;have dL:=bz bc cQ.o (fun h=>by have:=eS tb h;omega);have gp:H.cell? (ae tb 1)=some (.slice am i an):=aG dL;have f8:H.frozen? (ae tb 1)=false:=aG dL;have bb:Hid ((H.setCell (ae tb 1) (au ar (i+1) aq)).heap[tb]? =some (wS (.slice (some (ae b off)) n P) (au ar (i+1) aq) N fb Q (aL) (aL) n)):=dC H tb 1 _ _ _ dL;have ck:Hid ((H.setCell (ae tb 1) (au ar (i+1) aq)).ownsRow w4.heap.size 2 1 (au ar (i+1) aq) (i+1) (((bU R).take (i+1)).map (Value.int .i64))):=by
     have Y:=aT (S:=fun k=>k=tb) eH ((ax.refl (fun k=>k=tb) H).set (a:=(ae tb 1)) (au ar (i+1) aq) (.inl rfl)) (fun g h h2=>by have:=(eH.lt g h).1;omega);show World.ownsRow _ _ _ _ _ _ _;rw[fl.o,bL];exact Y
    have gy:Hid (ax (fun k=>k=tb) w4 (H.setCell (ae tb 1) (au ar (i+1) aq))):=((cJ.o.mono (S':=fun k=>k=tb\/w4.heap.size<=k) (fun k h=>.inl h)).trans (bc.mono (fun k h=>.inr (eS k h)))).strip.set (a:=(ae tb 1)) _ (.inl rfl);clear bc c6 f0 eH dL en eo ef cQ cJ eS;go_wp2
    go_roundg (n-(i+1))
    case measure=>omega
    case rel=>exact⟨i+1,_,by go_num,aa,aB _,bb,ck,gy⟩
   .obtain rfl:i=n:=aa;have fN:vG wr w.heap.size fb i (.slice T i P) N Q ab R:=dk.o.kept cc.o (fun k B h2=>by subst h2;exact⟨_,_,_,ch.o,ai,ai,ai,ai⟩);have eq:Below w.heap.size w wr:=dd.o.trans (cc.o.toBelow dd.o.size (fun k h=>aa));have dz:=b1.o;rw[ky (by unfold bU;simp;omega)]at dz;have ca:=ag eq;have cg:=ag fN;have a8:=eq.size;have fj:=ag (bH dz dd.o.size);obtain⟨am,an,rfl⟩:=fF dz;clear eq fN dz cc b1 dd dk ch cl cz;have cz:=(aZ.1 bl.o).1;have hb:=@vv prog
    go_upto_region 16 with fail
    obtain⟨U,dJ⟩:∃U,U=wr.heap.size:=⟨_,rfl⟩;obtain⟨bi,cY⟩:∃bi,bi=wr.alloc (.map #[] 0):=⟨_,rfl⟩;have c5:Below wr.heap.size wr bi:=by rw[cY];exact(aJ _ _).alloc (aB _) _
    have di:Hid (∃D:DataW Unit,bi.ownsMap prog 27 (plainElem prog 3) U 0 D/\nJ D R 0):=by rw[cY,dJ];exact⟨.map [],uK _ _ _ _,[],IsM.empty _ _⟩
    have eN:=(c5.block tb cz).trans bl.o;have fh:=ag eN;have dn:Hid (vG bi w.heap.size fb i (.slice T i P) N Q ab R):=cg.o.kept ((ax.refl (fun _=>False) wr).below c5) (fun k _ h=>h.elim);have fn:=ag (az fj.o c5);have d6:Hid (Below w.heap.size w bi):=ca.o.trans (c5.mono a8);have h7:w.heap.size<=U/\U<bi.heap.size/\tb<U:=by rw[cY,dJ];simp;omega
    have cl:bi.cell? (ae tb 0)=some (.slice T i P):=aG eN;rw[<-cY,<-dJ];clear cY dJ c5 eN bl cg fj ca a8 cz hb
    go_wp2_with fail
    go_loopg [74] i (fun b8 hz wr=>∃(j:Nat),hz=.int .i64 j/\j<=i/\i-j<=b8/\Hid (ax (fun k=>k=U) bi wr)/\Hid (∃D:DataW Unit,wr.ownsMap prog 27 (plainElem prog 3) U j D/\nJ D R j))
    case atStart=>exact⟨0,rfl,aX _,aa,ax.refl _ _,di.o⟩
    case round=>
     obtain⟨j,rfl,aN,hX,bw,dh⟩:=hrel;by_cases hU:j<i
     .have bh:=aT dn.o.row bw.o (fun g h h2=>by
       subst h2;obtain⟨el,ej,gc,-⟩:=di.o.choose_spec.1;rcases dn.o.row.2 with⟨x,-⟩|⟨hJ,cV,cW,x,-,aM,-⟩
       .rw[x]at h;cases h
       .rw[x]at h;injection h with h;subst h;rw[aM]at gc;cases gc)
      obtain⟨_,_,bm,-,-,aS⟩:=bQ.aI bg ai bh;injection bm with Z cm co;subst Z;clear cm co;obtain⟨b,off,cX,fV,aE⟩:=aS.get aa;have bj:=aE j aa 0 aa;have x1:=aE j aa 1 aa;have x2:=aE j aa 2 aa;simp only[bX,fw,fD,dx]at bj x1 x2;have g7:j<R.length:=aa;have ga:Hid (keyOf prog 27 (.int .u32 R[j].2.2)=some (.int .u32 R[j].2.2)):=rR underlying27 (fi.o _ (bB _));obtain⟨D,gf,fA⟩:=dh.o;have d7:=ag (fA.put g7);have h8:=bw.o.size;subst cX;clear aE aS bh fA dh;generalize R[j]=p at*;obtain⟨a9,ba,aC⟩:=p;simp only at d7 ga bj x1 x2;have ge:=gf.kept (qI wr (.cells #[af a9,af ba,ay aC] 29) none) aA
      go_wp2_with (at_mapUpdate;refine uF _ rfl _ _ _ 26 rfl 27 3 (rU underlying27) underlying26 _ U j _ rfl ge dD _ _ _ rfl rfl ga.o _ [] (rO underlying3 (by simp[Lit.wf,IntKind.min,IntKind.max,IntKind.bits,IntKind.signed];omega)) ?_;intro w3 gg f3)
      have gx:Hid (ax (fun k=>k=U) bi w3):=((bw.o.alloc _).grown f3 (fun k h=>.inl (by injection h with h;exact h.symm)));have gz:Hid (∃D:DataW Unit,w3.ownsMap prog 27 (plainElem prog 3) U (j+1) D/\nJ D R (j+1)):=⟨_,gg,d7.o⟩;clear gg f3 ge gf d7;go_wp2
      go_roundg (i-(j+1))
      case measure=>omega
      case rel=>exact⟨j+1,by go_num,aa,aB _,gx,gz⟩
     .obtain rfl:j=i:=aa;obtain⟨hC,⟨hI,hH,eE,-⟩,-⟩:=di.o;have cg:=ag (dn.o.Us bw.o eE);have b1:=ag (Ou fn.o bw.o eE);have bl:Hid (wr.heap[tb]? =_):=bz bw.o fh.o (fun h=>aa);have ca:Hid (Below w.heap.size w wr):=d6.o.trans (bw.o.toBelow d6.o.size (fun k h=>aa));obtain⟨D,et,fK⟩:=dh.o;have fd:=ag et;have gB:=ag fK;have a8:=ca.o.size;have hf:U<wr.heap.size:=by
       obtain⟨el,ej,aM,-⟩:=et;exact(aZ.1 aM).1
      obtain⟨_,_,bm,-,-,aS⟩:=bQ.aI bg ai cg.o.row;injection bm with Z cm co;subst Z;clear cm co;have eZ:=ag (oN T R j P wr cr aS aa);have c9:=(aZ.1 bl.o).1;have O:=bl.o;have cl:wr.cell? (ae tb 0)=some (.slice T j P):=aG O;clear O aS eE et fK dh dn fn fh d6 di bw
      go_wp2_with fail
      refine eZ.o.mono ?_;rintro e ii ⟨dS,rfl,dG,fU⟩;have e2:=ag (LU cr aa dG dl.o.2);have e8:=ag dG;have d4:=ag fU;obtain⟨I,g3,rfl⟩:=fF dG;clear dG fU eZ
      go_wp2_with fail
      refine e2.o.mono ?_;rintro e H ⟨rfl,f4,f7⟩;have bK:Below wr.heap.size wr H:=d4.o.trans (f7.toBelow d4.o.size (fun k h=>(e8.o.lt k h).1));have gv:=ag bK;have e9:=ag f4;have ea:Hid (vG H w.heap.size fb j (.slice T j P) N Q ab R):=cg.o.kept ((ax.refl (fun _=>False) wr).below bK) (fun k _ h=>h.elim);have fk:=ag (az b1.o bK);have ci:Hid (H.heap[tb]? =some (wS (.slice T j P) (.slice am j an) N fb Q (aL) (aL) j)):=(bK.block tb c9).trans bl.o;have fe:Hid (H.ownsMap prog 27 (plainElem prog 3) U j D):=wR fd.o (bK.block U hf);have cH:Hid (Below w.heap.size w H):=ca.o.trans (bK.mono a8);have ia:=bK.size;obtain⟨aw,nc,rfl⟩:=fF ea.o.jc;have fJ:=df j;have h5:=Ot (aW j).length aa;generalize g0:(aW j).length=d at*;have gA:Hid (d=2*j-1):=fJ;have hK:d<=40000:=aa;clear fJ;clear f7 bK f4 e2 cg b1 bl fd ca e8 d4 gv cl;have O:=ci.o;have cA:tb<H.heap.size:=aa;have ft:H.cell? (ae tb 4)=some (.slice aw d nc):=aG O;have be:Below H.heap.size H (H.alloc (.cells (madeCells #[aL,aL] (d*2)) 150)):=(aJ _ _).alloc (aB _) _;have gM:(H.alloc (.cells (madeCells #[aL,aL] (d*2)) 150)).cell? (ae tb 5)=some (aL):=(be.cell (p:=(ae tb 5)) cA).trans (aG O);have hB:(H.alloc (.cells (madeCells #[aL,aL] (d*2)) 150)).frozen? (ae tb 5)=false:=(be.frozen (p:=(ae tb 5)) cA).trans (aG O);have gi:=(be.block tb cA).trans O;have gw:=ag be;have gE:=ag gi;clear be gi O
      go_upto_region 24 with fail
      obtain⟨gl,dF⟩:∃gl,gl=H.heap.size:=⟨_,rfl⟩;obtain⟨u,cp⟩:∃u,u=(H.setCell (ae tb 5) (au H.heap.size d d)).alloc (.cells (madeCells #[aL,aL] (d*2)) 150):=⟨_,rfl⟩;have b3:ax (fun k=>k=tb) H u:=by rw[cp];exact((ax.refl (fun k=>k=tb) H).set (a:=(ae tb 5)) _ (.inl rfl)).alloc _
      have fR:u.heap[tb]? =some (wS (.slice T j P) (.slice am j an) N fb (.slice aw d nc) (au gl d d) (aL) j):=by rw[cp,dF];exact(bY _ _ _ (aP cA)).trans (dC H tb 5 _ _ _ ci.o)
      have fG:cK u w.heap.size gl d d (fun _=>aL) (fun _=>aL):=by
       have h:=LX (H.setCell (ae tb 5) (au H.heap.size d d)) w.heap.size d (by simp;exact cH.o.size) aa;rw[cp,dF];simpa using h
      have hN:gl<u.heap.size/\tb<gl/\w.heap.size<=gl:=by rw[cp,dF];simp;exact⟨cA,cH.o.size⟩
      have fC:Else H (fun k=>k=tb):=fun k B h2=>by subst h2;exact⟨_,_,_,ci.o,ai,ai,ai,ai⟩
      have fO:vG u w.heap.size fb j (.slice T j P) N (.slice aw d nc) ab R:=ea.o.kept b3 fC;have ew:u.ownsRow w.heap.size 2 1 (.slice am j an) j ((bU R).map (Value.int .i64)):=oU fk.o b3 (fun k B h2=>by subst h2;exact⟨_,_,_,ci.o,ai⟩);have fE:u.ownsRow wr.heap.size 29 3 (.slice I j g3) j ((ku R).flatMap bX):=oU e9.o b3 (fun k B h2=>by subst h2;exact⟨_,_,_,ci.o,ai⟩);have fI:u.ownsMap prog 27 (plainElem prog 3) U j D:=wR fe.o (b3.block U aa aa);have fx:Below w.heap.size w u:=cH.o.trans (b3.toBelow cH.o.size (fun k h=>aa));have bb:=ag fR;have b0:=ag fG;have eb:=ag fO;have ck:=ag ew;have dg:=ag fE;have d9:=ag fI;have d5:=ag fx;have he:=bb.o;have ib:=b3.size;have hg:U<u.heap.size:=aa;have gn:∀g,(Value.slice am j an).ownBlock=some g->g<u.heap.size:=fun g h=>(ew.lt g h).2;have gI:=ag gn;clear he gn;rw[<-cp];clear cp dF b3 fR fG fC fO ew fE fI fx ci ea fk e9 fe cH gw gE ft gM hB cA;obtain⟨b2,c3⟩:∃b2,b2=decide (0<j):=⟨_,rfl⟩;have hs:decide ((j:Int)>0)=b2:=by rw[c3];simp
      have ht:decide ((0:Int)<(j:Int))=b2:=by rw[c3];simp
      have hv:decide (0<j)=b2:=c3.symm;have e5:=ag c3;clear c3
      go_upto_if 102 with fail
      clear hs ht hv
      go_cut []from 12 (fun bt=>∃(yv:Value) (LN:Nat->Value),Hid (bt.heap[tb]? =some (wS (.slice T j P) (.slice am j an) N fb (.slice aw d nc) (au gl d d) yv j))/\Hid (bt.ownsRow u.heap.size 2 1 yv j ((jl R (dP R)).map (Value.int .i64)))/\Hid (cK bt w.heap.size gl d d LN (fun _=>aL))/\Hid (ax (fun k=>k=tb\/k=gl) u bt)/\
       Hid (∀k,k<d->k≠2*j-2->LN k=aL)/\Hid (0<j->bt.ownsRow u.heap.size 27 1 (LN (2*j-2)) j (((dP R).map (jI R)).map (Value.int .u32))))
      case first=>
       by_cases f6:j=0
       .obtain rfl:b2=false:=by rw[e5.o];simp;omega
        have g1:R=[]:=gX aa;have hr:jl R (dP R)=[]:=by subst g1;simp[jl,dP,ku]
        have fa:=ag f6;clear f6;go_wp2;go_meet;refine⟨aL,fun _=>aL,bb.o,?_,b0.o,ax.refl _ _,fun _ _ _=>rfl,fun h=>absurd fa.o aa⟩;show World.ownsRow _ _ _ _ _ _ _;rw[hr,fa.o];exact dw _ _ _ _
       .obtain rfl:b2=true:=by rw[e5.o];simp;omega
        have cq:2*j-2<d:=by have:=gA.o;omega
        obtain⟨A,eL⟩:∃A,A=2*j-2:=⟨_,rfl⟩;have ec:=ag eL;rw[<-eL]at cq;clear eL
        go_wp2_with fail
        go_loopg [105] j (fun b8 hw wr=>∃(i:Nat) (yv vr:Value),hw=.int .i64 i/\i<=j/\j-i<=b8/\Hid (wr.heap[tb]? =some (wS (.slice T j P) (.slice am j an) N fb (.slice aw d nc) (au gl d d) yv j))/\Hid (wr.ownsRow u.heap.size 2 1 yv i (((jl R (dP R)).take i).map (Value.int .i64)))/\
         Hid (cK wr w.heap.size gl d d (upd (fun _=>aL) A vr) (fun _=>aL))/\Hid (wr.ownsRow u.heap.size 27 1 vr i ((((dP R).take i).map (jI R)).map (Value.int .u32)))/\Hid (ax (fun k=>k=tb\/k=gl) u wr))
        case atStart=>
         refine⟨0,aL,aL,rfl,aX _,aa,bb.o,dw _ _ _ _,?_,dw _ _ _ _,ax.refl _ _⟩;show cK _ _ _ _ _ _ _;rw[Ja _ A _ rfl];exact b0.o
        case round=>
         obtain⟨i,yv,vr,rfl,hi,hY,ed,ds,d8,dq,cI⟩:=hrel;by_cases hR:i<j
         .have bh:=aT dg.o cI.o (fun g h h2=>by
           rcases h2 with h2|h2
           .exact bn dg.o bb.o ai g h h2.symm
           .subst h2;exact bA b0.o dg.o ai g rfl h)
          obtain⟨_,_,bm,-,-,aS⟩:=bQ.aI bg ai bh;injection bm with gO gP gQ;subst gO;clear gP gQ;have hL:(ku R).length=j:=by rw[(iZ R).length_eq];exact cr
          obtain⟨b,off,cX,fV,aE⟩:=aS.get aa;have bj:=aE i aa 0 aa;have x1:=aE i aa 1 aa;have x2:=aE i aa 2 aa;simp only[bX,fw,fD,dx]at bj x1 x2;have eG:i<(dP R).length:=by rw[jV];omega
          have eJ:=QH eG;have go:(jl R (dP R)).take (i+1)=(jl R (dP R)).take i++[((ku R)[i]'aa).2.1]:=by
           have h:i<(jl R (dP R)).length:=by unfold jl;simp;exact eG
           rw[gW h];simp only[jl,fM,lI,eJ]
          have gd:((dP R).take (i+1)).map (jI R)=((dP R).take i).map (jI R)++[((ku R)[i]'aa).2.2]:=by
           rw[gW eG,bL];simp only[jK,pJ,jI,eJ]
          have fo:=ag go;have dj:=ag gd;subst cX;clear aE aS go gd bh eJ;generalize(ku R)[i]'aa=p at*;obtain⟨a9,ba,aC⟩:=p;simp only at fo dj bj x1 x2;have O:=ed.o;have c9:=(aZ.1 O).1;obtain⟨cD,cE,rfl⟩:=fF ds.o;obtain⟨C,E,rfl⟩:=fF dq.o
          go_upto_region 28 with fail
          obtain⟨bv,eU⟩:∃bv,bv=wr.heap.size:=⟨_,rfl⟩;obtain⟨w6,bp⟩:∃w6,w6=wr.alloc (.cells #[af a9,af ba,ay aC] 29):=⟨_,rfl⟩;have ap:Below wr.heap.size wr w6:=by rw[bp];exact(aJ _ _).alloc (aB _) _
          have cC:w6.heap[bv]? =some (.cells #[af a9,af ba,ay aC] 29 (0,0)):=by rw[bp,eU];exact cB wr _
          have b7:=(ap.block tb c9).trans O;have hj:=cI.o.size;have hk:=ap.size;have ig:u.heap.size<=bv:=aa;have en:=ah (w:=w6) (ad:=(ae tb 6)) (v:=.slice cD i cE) (aG b7);have eo:=ah (w:=w6) (ad:=(ae bv 1)) (v:=.int .i64 ba) (aG cC);have cT:=ag (az ds.o ap);have dr:=ag (az dq.o ap);have fc:Hid (cK w6 w.heap.size gl d d (upd (fun _=>aL) A (.slice C i E)) (fun _=>aL)):=az d8.o ap;have cJ:Hid (ax (fun k=>k=tb\/k=gl) u w6):=cI.o.below ap;have cQ:=ag b7;have eg:=ag cC;rw[<-bp,<-eU];clear bp ap cC b7 O bj x1 x2 eU ds dq d8 cI ed;refine ak (fun W=>∃p:aQ w6,W=p.W) [8,9,10,11] [(0,false),(1,false),(2,false),(3,false),(4,true),(5,false),(6,true)] ⟨⟨_,(aJ _ _).drew⟩,rfl⟩ 5 ?_;refine aF 7 rfl fun K f=>?_;go_simp;refine f _ _ (fun _ _=>⟨⟨_,(aJ _ w6).alloc (aB _) _|>.drew⟩,rfl⟩) ?_;clear f K;refine aF 8 rfl fun K f=>?_;refine bC zM u.heap.size (w:=(w6.alloc (.cells #[af ba] 2)).drew) (az cT.o ((aJ _ w6).alloc (aB _) _|>.drew)) [.int .i64 ba] rfl (by simp[Value.oneCell']) rfl (.tmp 113) (.tmp 116) rfl rfl w6.heap.size rfl (lg _ _) dD aa aD ?_;intro ar aq bS eI f1 g2 g9;refine f _ _ (fun _ h=>absurd aA h) ?_;clear f K;refine aH [9,10,11] ?_;have c6:w6.grownBy bS (Value.slice cD i cE).ownBlock:=dO (bN ((aJ _ w6).alloc (aB _) _|>.drew)) f1;have bc:ax (fun k=>(Value.slice cD i cE).ownBlock=some k) w6 bS:=(ax.refl _ w6).grown c6 (fun k al=>.inl al);have dU:∀g,(Value.slice cD i cE).ownBlock=some g->u.heap.size<=g:=fun g h=>(cT.o.lt g h).1;have dQ:=bz bc cQ.o (fun h=>by have:=dU tb h;omega);have gp:bS.cell? (ae tb 6)=some (.slice cD i cE):=aG dQ;have f8:bS.frozen? (ae tb 6)=false:=aG dQ;obtain⟨y,dy⟩:∃y,y=bS.setCell (ae tb 6) (au ar (i+1) aq):=⟨_,rfl⟩;have cy:ax (fun k=>k=tb) bS y:=by rw[dy];exact(ax.refl (fun k=>k=tb) bS).set (a:=(ae tb 6)) _ (.inl rfl)
          have eM:y.heap[tb]? =some (wS (.slice T j P) (.slice am j an) N fb (.slice aw d nc) (au gl d d) (au ar (i+1) aq) j):=by rw[dy];exact dC bS tb 6 _ _ _ dQ
          have aY:Hid (y.ownsRow u.heap.size 2 1 (au ar (i+1) aq) (i+1) (((jl R (dP R)).take (i+1)).map (Value.int .i64))):=by
           have Y:=aT (S:=fun k=>k=tb) eI cy (fun g h h2=>by have:=(eI.lt g h).1;omega);show World.ownsRow _ _ _ _ _ _ _;rw[fo.o,bL];exact Y
          have fS:y.ownsRow u.heap.size 27 1 (.slice C i E) i ((((dP R).take i).map (jI R)).map (Value.int .u32)):=aT (S:=fun k=>k=tb) (aT (S:=fun k=>(Value.slice cD i cE).ownBlock=some k) dr.o bc (fun g h h2=>bA dr.o cT.o ai g h h2)) cy (fun g h h2=>by have:=(dr.o.lt g h).1;omega);have c1:cK y w.heap.size gl d d (upd (fun _=>aL) A (.slice C i E)) (fun _=>aL):=(cK.kept fc.o bc (fun h=>by have:=dU gl h;omega)).kept cy aa;have bx:Hid (ax (fun k=>k=tb\/k=gl) u y):=(((cJ.o.mono (S':=fun k=>(k=tb\/k=gl)\/u.heap.size<=k) (fun k h=>.inl h)).trans (bc.mono (fun k h=>.inr (dU k h)))).strip).trans (cy.mono (fun k h=>.inl h));have dT:y.heap[bv]? =some (.cells #[af a9,af ba,ay aC] 29 (0,0)):=bz cy (bz bc eg.o (fun h=>bn cT.o eg.o ai bv h rfl)) aa;have a4:=ag fS;have cd:=ag c1;have cj:=ag eM;have ic:=bx.o.size;clear bc c6 f1 eI dQ en eo cT cQ cJ dU dr fc eg cy fS g2 g9
          go_upto_region 29 with fail
          rw[<-dy];clear dy gp f8;have av:∀g,(Value.slice C i E).ownBlock=some g->u.heap.size<=g:=fun g h=>(a4.o.lt g h).1;have dV:∀{bk o:Nat} {v:Value},bk<y.heap.size->¬(Value.slice C i E).ownBlock=some bk->y.cell? (ae bk o)=some v->∀p:wD (fun k=>(Value.slice C i E).ownBlock=some k) y,p.W.cell? (ae bk o)=some v:=fun c2 hd dS p=>((bZ p.h c2 hd).1 _).trans dS;have eV:=dV (bk:=tb) (o:=5) (v:=au gl d d) aa (fun h=>by have:=av tb h;omega) (aG eM);have eW:=dV (bk:=bv) (o:=2) (v:=.int .u32 aC) (aZ.1 dT).1 (fun h=>bn a4.o dT ai bv h rfl) (aG dT);have eX:=dV (bk:=gl) (o:=A*2) (v:=.slice C i E) aa (fun h=>by have:=av gl h;omega) ((c1.get cq).1.trans (by rw[upd_same]));have b9:=(c1.get cq).1;rw[upd_same]at b9;have f9:=c1.frozenAt (A*2);have eC:gl<y.heap.size:=aa;have cF:Hid (∀W,ax (fun k=>(Value.slice C i E).ownBlock=some k) y W->aK 95 #[aj fb] W fun e w'=>e=.returned (af (A:Nat))/\w'=W):=fun W c2=>by
           have dE:=eb.o.iD.blk;have fY:=(aZ.1 dE).1;have g5:=bz bx.o dE (fun h=>by
            rcases h with h|h
            .subst h;have Y:=dE.symm.trans bb.o;injection Y with Y;injection Y with _ Y _;exact absurd Y ai
            .subst h;exact bn b0.o dE ai fb rfl rfl)
           have fW:=bz c2 g5 (fun h=>by have:=av fb h;omega);have h:=jw fb j aa aa W (aG fW) (aG fW);rw[<-ec.o]at h;exact h
          clear eM dT c1 dV;refine ak (fun W=>∃p:wD (fun k=>(Value.slice C i E).ownBlock=some k) y,W=p.W) [19,20,21] [(0,false),(1,false),(2,false),(3,true),(4,false),(6,false),(7,false),(8,false),(9,true),(10,false),(15,false),(16,true)] ⟨⟨_,(ax.refl _ _).drew⟩,rfl⟩ 10 ?_;refine iQ 5 17 rfl rfl (fun K f=>?_) (fun K f=>?_)
          .
           refine bf mD rfl _ _ rfl (vals:=#[aj fb]) rfl (cF.o _ ((ax.refl (fun k=>(Value.slice C i E).ownBlock=some k) y).drew)) ?_;rintro e w' ⟨rfl,bo⟩;subst bo;refine⟨_,rfl,f _ _ (fun h _=>h) ?_⟩;clear f K;refine iQ 11 17 rfl rfl (fun K f=>?_) (fun K f=>?_)
           .refine bf mD rfl _ _ rfl (vals:=#[aj fb]) rfl (cF.o _ ((ax.refl (fun k=>(Value.slice C i E).ownBlock=some k) y).drew)) ?_;rintro e w' ⟨rfl,bo⟩;subst bo;refine⟨_,rfl,f _ _ (fun h _=>h) ?_⟩;clear f K;refine bu [(12,false),(13,false),(14,true)] ⟨⟨_,((ax.refl (fun k=>(Value.slice C i E).ownBlock=some k) y).drew)⟩,rfl⟩ rfl ?_;refine aF 17 rfl fun K f=>?_;go_simp;refine f _ _ (fun _ _=>⟨⟨_,(((ax.refl (fun k=>(Value.slice C i E).ownBlock=some k) y).alloc _).drew)⟩,rfl⟩) ?_;clear f K;refine aF 18 rfl fun K f=>?_;refine bC uk u.heap.size (w:=(y.alloc (.cells #[ay aC] 27)).drew) (az a4.o ((aJ _ y).alloc (aB _) _|>.drew)) [.int .u32 aC] rfl (by simp[Value.oneCell']) rfl (.tmp 134) (.tmp 137) rfl rfl y.heap.size rfl (lg _ _) dD aa aD ?_;intro M L G a7 bO c4 c8;have bM:y.grownBy G (Value.slice C i E).ownBlock:=dO (bN ((aJ _ y).alloc (aB _) _|>.drew)) bO;have X:ax (fun k=>(Value.slice C i E).ownBlock=some k) y G:=(ax.refl _ y).grown bM (fun k al=>.inl al);refine f _ _ (fun _ _=>⟨⟨_,X⟩,rfl⟩) ?_;clear f K;refine aH [19,20,21] ?_;have bP:¬(Value.slice C i E).ownBlock=some gl:=fun h=>by have:=av gl h;omega
            obtain⟨bD,bE⟩:=bZ X eC bP;have gq:=(bD (A*2)).trans b9;have fu:=(bE (A*2)).trans f9;have ao:ax (fun k=>k=gl) G (G.setCell (ae gl (A*2)) (au M (i+1) L)):=(ax.refl (fun k=>k=gl) G).set (a:=(ae gl (A*2))) _ (.inl rfl);have cR:Hid ((G.setCell (ae gl (A*2)) (au M (i+1) L)).heap[tb]? =some (wS (.slice T j P) (.slice am j an) N fb (.slice aw d nc) (au gl d d) (au ar (i+1) aq) j)):=bz ao (bz X cj.o (fun h=>by have:=av tb h;omega)) aa;have cU:Hid ((G.setCell (ae gl (A*2)) (au M (i+1) L)).ownsRow u.heap.size 2 1 (au ar (i+1) aq) (i+1) (((jl R (dP R)).take (i+1)).map (Value.int .i64))):=aT (S:=fun k=>k=gl) (aT (S:=fun k=>(Value.slice C i E).ownBlock=some k) aY.o X (fun g h h2=>bA a4.o aY.o ai g h2 h)) ao (fun g h h2=>by have:=(aY.o.lt g h).1;omega);have cO:Hid (cK (G.setCell (ae gl (A*2)) (au M (i+1) L)) w.heap.size gl d d (upd (fun _=>aL) A (au M (i+1) L)) (fun _=>aL)):=by
             have h:=(cK.kept cd.o X bP).Be cq (au M (i+1) L);rwa [tH]at h
            have cS:Hid ((G.setCell (ae gl (A*2)) (au M (i+1) L)).ownsRow u.heap.size 27 1 (au M (i+1) L) (i+1) ((((dP R).take (i+1)).map (jI R)).map (Value.int .u32))):=by
             have h:=aT (S:=fun k=>k=gl) a7 ao (fun g h h2=>by have:=(a7.lt g h).1;omega);show World.ownsRow _ _ _ _ _ _ _;rw[dj.o,bL];exact h
            have cL:Hid (ax (fun k=>k=tb\/k=gl) u (G.setCell (ae gl (A*2)) (au M (i+1) L))):=(((bx.o.mono (S':=fun k=>(k=tb\/k=gl)\/u.heap.size<=k) (fun k h=>.inl h)).trans (X.mono (fun k h=>.inr (av k h)))).strip).trans (ao.mono (fun k h=>.inr h));clear bD bE X ao bM bO a7 eV eW eX b9 f9 a4 cd cj aY bx av c4 c8;go_wp2
            go_roundg (j-(i+1))
            case measure=>omega
            case rel=>exact⟨i+1,_,_,by go_num,aa,aB _,cR,cU,cO,cS,cL⟩
           .go_simp;refine f _ _ (fun _ _=>⟨⟨_,(((ax.refl (fun k=>(Value.slice C i E).ownBlock=some k) y).alloc _).drew)⟩,rfl⟩) ?_;clear f K;refine aF 11 rfl fun K f=>?_;refine bf mD rfl _ _ rfl (vals:=#[aj fb]) rfl (cF.o _ (((ax.refl (fun k=>(Value.slice C i E).ownBlock=some k) y).alloc _).drew)) ?_;rintro e w' ⟨rfl,bo⟩;subst bo;refine⟨_,rfl,f _ _ (fun h _=>h) ?_⟩;clear f K;refine bu [(12,false),(13,false),(14,true)] ⟨⟨_,(((ax.refl (fun k=>(Value.slice C i E).ownBlock=some k) y).alloc _).drew)⟩,rfl⟩ rfl ?_;refine aF 18 rfl fun K f=>?_;refine bC uk u.heap.size (w:=(y.alloc (.cells #[ay aC] 27)).drew) (az a4.o ((aJ _ y).alloc (aB _) _|>.drew)) [.int .u32 aC] rfl (by simp[Value.oneCell']) rfl (.tmp 134) (.tmp 137) rfl rfl y.heap.size rfl (lg _ _) dD aa aD ?_;intro M L G a7 bO c4 c8;have bM:y.grownBy G (Value.slice C i E).ownBlock:=dO (bN ((aJ _ y).alloc (aB _) _|>.drew)) bO;have X:ax (fun k=>(Value.slice C i E).ownBlock=some k) y G:=(ax.refl _ y).grown bM (fun k al=>.inl al);refine f _ _ (fun _ _=>⟨⟨_,X⟩,rfl⟩) ?_;clear f K;refine aH [19,20,21] ?_;have bP:¬(Value.slice C i E).ownBlock=some gl:=fun h=>by have:=av gl h;omega
            obtain⟨bD,bE⟩:=bZ X eC bP;have gq:=(bD (A*2)).trans b9;have fu:=(bE (A*2)).trans f9;have ao:ax (fun k=>k=gl) G (G.setCell (ae gl (A*2)) (au M (i+1) L)):=(ax.refl (fun k=>k=gl) G).set (a:=(ae gl (A*2))) _ (.inl rfl);have cR:Hid ((G.setCell (ae gl (A*2)) (au M (i+1) L)).heap[tb]? =some (wS (.slice T j P) (.slice am j an) N fb (.slice aw d nc) (au gl d d) (au ar (i+1) aq) j)):=bz ao (bz X cj.o (fun h=>by have:=av tb h;omega)) aa;have cU:Hid ((G.setCell (ae gl (A*2)) (au M (i+1) L)).ownsRow u.heap.size 2 1 (au ar (i+1) aq) (i+1) (((jl R (dP R)).take (i+1)).map (Value.int .i64))):=aT (S:=fun k=>k=gl) (aT (S:=fun k=>(Value.slice C i E).ownBlock=some k) aY.o X (fun g h h2=>bA a4.o aY.o ai g h2 h)) ao (fun g h h2=>by have:=(aY.o.lt g h).1;omega);have cO:Hid (cK (G.setCell (ae gl (A*2)) (au M (i+1) L)) w.heap.size gl d d (upd (fun _=>aL) A (au M (i+1) L)) (fun _=>aL)):=by
             have h:=(cK.kept cd.o X bP).Be cq (au M (i+1) L);rwa [tH]at h
            have cS:Hid ((G.setCell (ae gl (A*2)) (au M (i+1) L)).ownsRow u.heap.size 27 1 (au M (i+1) L) (i+1) ((((dP R).take (i+1)).map (jI R)).map (Value.int .u32))):=by
             have h:=aT (S:=fun k=>k=gl) a7 ao (fun g h h2=>by have:=(a7.lt g h).1;omega);show World.ownsRow _ _ _ _ _ _ _;rw[dj.o,bL];exact h
            have cL:Hid (ax (fun k=>k=tb\/k=gl) u (G.setCell (ae gl (A*2)) (au M (i+1) L))):=(((bx.o.mono (S':=fun k=>(k=tb\/k=gl)\/u.heap.size<=k) (fun k h=>.inl h)).trans (X.mono (fun k h=>.inr (av k h)))).strip).trans (ao.mono (fun k h=>.inr h));clear bD bE X ao bM bO a7 eV eW eX b9 f9 a4 cd cj aY bx av c4 c8;go_wp2
            go_roundg (j-(i+1))
            case measure=>omega
            case rel=>exact⟨i+1,_,_,by go_num,aa,aB _,cR,cU,cO,cS,cL⟩
          .go_simp;refine f _ _ (fun _ _=>⟨⟨_,(((ax.refl (fun k=>(Value.slice C i E).ownBlock=some k) y).alloc _).drew)⟩,rfl⟩) ?_;clear f K;refine aF 5 rfl fun K f=>?_;refine bf mD rfl _ _ rfl (vals:=#[aj fb]) rfl (cF.o _ (((ax.refl (fun k=>(Value.slice C i E).ownBlock=some k) y).alloc _).drew)) ?_;rintro e w' ⟨rfl,bo⟩;subst bo;refine⟨_,rfl,f _ _ (fun h _=>h) ?_⟩;clear f K;refine aF 11 rfl fun K f=>?_;refine bf mD rfl _ _ rfl (vals:=#[aj fb]) rfl (cF.o _ (((ax.refl (fun k=>(Value.slice C i E).ownBlock=some k) y).alloc _).drew)) ?_;rintro e w' ⟨rfl,bo⟩;subst bo;refine⟨_,rfl,f _ _ (fun h _=>h) ?_⟩;clear f K;refine bu [(12,false),(13,false),(14,true)] ⟨⟨_,(((ax.refl (fun k=>(Value.slice C i E).ownBlock=some k) y).alloc _).drew)⟩,rfl⟩ rfl ?_;refine aF 18 rfl fun K f=>?_;refine bC uk u.heap.size (w:=(y.alloc (.cells #[ay aC] 27)).drew) (az a4.o ((aJ _ y).alloc (aB _) _|>.drew)) [.int .u32 aC] rfl (by simp[Value.oneCell']) rfl (.tmp 134) (.tmp 137) rfl rfl y.heap.size rfl (lg _ _) dD aa aD ?_;intro M L G a7 bO c4 c8;have bM:y.grownBy G (Value.slice C i E).ownBlock:=dO (bN ((aJ _ y).alloc (aB _) _|>.drew)) bO;have X:ax (fun k=>(Value.slice C i E).ownBlock=some k) y G:=(ax.refl _ y).grown bM (fun k al=>.inl al);refine f _ _ (fun _ _=>⟨⟨_,X⟩,rfl⟩) ?_;clear f K;refine aH [19,20,21] ?_;have bP:¬(Value.slice C i E).ownBlock=some gl:=fun h=>by have:=av gl h;omega
           obtain⟨bD,bE⟩:=bZ X eC bP;have gq:=(bD (A*2)).trans b9;have fu:=(bE (A*2)).trans f9;have ao:ax (fun k=>k=gl) G (G.setCell (ae gl (A*2)) (au M (i+1) L)):=(ax.refl (fun k=>k=gl) G).set (a:=(ae gl (A*2))) _ (.inl rfl);have cR:Hid ((G.setCell (ae gl (A*2)) (au M (i+1) L)).heap[tb]? =some (wS (.slice T j P) (.slice am j an) N fb (.slice aw d nc) (au gl d d) (au ar (i+1) aq) j)):=bz ao (bz X cj.o (fun h=>by have:=av tb h;omega)) aa;have cU:Hid ((G.setCell (ae gl (A*2)) (au M (i+1) L)).ownsRow u.heap.size 2 1 (au ar (i+1) aq) (i+1) (((jl R (dP R)).take (i+1)).map (Value.int .i64))):=aT (S:=fun k=>k=gl) (aT (S:=fun k=>(Value.slice C i E).ownBlock=some k) aY.o X (fun g h h2=>bA a4.o aY.o ai g h2 h)) ao (fun g h h2=>by have:=(aY.o.lt g h).1;omega);have cO:Hid (cK (G.setCell (ae gl (A*2)) (au M (i+1) L)) w.heap.size gl d d (upd (fun _=>aL) A (au M (i+1) L)) (fun _=>aL)):=by
            have h:=(cK.kept cd.o X bP).Be cq (au M (i+1) L);rwa [tH]at h
           have cS:Hid ((G.setCell (ae gl (A*2)) (au M (i+1) L)).ownsRow u.heap.size 27 1 (au M (i+1) L) (i+1) ((((dP R).take (i+1)).map (jI R)).map (Value.int .u32))):=by
            have h:=aT (S:=fun k=>k=gl) a7 ao (fun g h h2=>by have:=(a7.lt g h).1;omega);show World.ownsRow _ _ _ _ _ _ _;rw[dj.o,bL];exact h
           have cL:Hid (ax (fun k=>k=tb\/k=gl) u (G.setCell (ae gl (A*2)) (au M (i+1) L))):=(((bx.o.mono (S':=fun k=>(k=tb\/k=gl)\/u.heap.size<=k) (fun k h=>.inl h)).trans (X.mono (fun k h=>.inr (av k h)))).strip).trans (ao.mono (fun k h=>.inr h));clear bD bE X ao bM bO a7 eV eW eX b9 f9 a4 cd cj aY bx av c4 c8;go_wp2
           go_roundg (j-(i+1))
           case measure=>omega
           case rel=>exact⟨i+1,_,_,by go_num,aa,aB _,cR,cU,cO,cS,cL⟩
         .obtain rfl:i=j:=aa;have cw:=jV R;have hq:(jl R (dP R)).length=i:=by simp[jl,cw];omega
          have gJ:Hid (wr.ownsRow u.heap.size 2 1 yv i ((jl R (dP R)).map (Value.int .i64))):=by
           have h:=ds.o;rw[ky aa]at h;exact h
          have gF:Hid (wr.ownsRow u.heap.size 27 1 vr i (((dP R).map (jI R)).map (Value.int .u32))):=by
           have h:=dq.o;rw[ky aa]at h;exact h
          clear cw hq;go_wp2;go_meet;refine⟨yv,upd (fun _=>aL) A vr,ed.o,gJ.o,d8.o,cI.o,?_,?_⟩
          .intro k al h6;exact upd_ne (by have:=ec.o;omega)
          .intro _;show World.ownsRow _ _ _ _ _ _ _;rw[<-ec.o,upd_same];exact gF.o
      case rest=>
       obtain⟨yv,fq,dp,fp,ce,cM,cb,ee⟩:=hcut;have eQ:=qo dl.o.1 dl.o.2;have gG:=ag eQ;have id:=cM.o.size;have fB:Else u (fun k=>k=tb\/k=gl):=fun k B h2=>by
        rcases h2 with h2|h2
        .subst h2;exact⟨_,_,_,bb.o,ai,ai,ai,ai⟩
        .subst h2;rcases b0.o.2 with⟨x,-⟩|⟨g,cV,cW,x,-,aM,-⟩
         .cases x
         .injection x with x;injection x with x;injection x with x;subst x;exact⟨_,_,_,aM,ai,ai,ai,ai⟩
       have dm:=ag (eb.o.kept cM.o fB);have fm:Hid (wc.ownsRow w.heap.size 2 1 (.slice am j an) j ((bU R).map (Value.int .i64))):=aT ck.o cM.o (fun g h h2=>by
        rcases h2 with h2|h2
        .exact bn ck.o bb.o ai g h h2.symm
        .subst h2;exact bA b0.o ck.o ai g rfl h)
       have ff:Hid (wc.ownsMap prog 27 (plainElem prog 3) U j D):=wR d9.o (cM.o.block U hg (fun h=>by
        obtain⟨el,ej,aM,-⟩:=d9.o;rcases h with h|h
        .subst h;have Y:=aM.symm.trans bb.o;cases Y
        .subst h;rcases b0.o.2 with⟨x,-⟩|⟨g,cV,cW,x,-,c7,-⟩
         .cases x
         .injection x with x;injection x with x;injection x with x;subst x;rw[aM]at c7;cases c7))
       have e6:Hid (Below w.heap.size w wc):=d5.o.trans (cM.o.toBelow d5.o.size (fun k h=>by rcases h with h|h<;>omega));have gD:Hid (yC wc u.heap.size j R (dP R) d fq (fun _=>aL)):=by
        have hh:∀t s,FT.At (aW j) t s->t.root s=2*j-2->nl (dP R) t=dP R:=fun t s I b6=>by
         have aN:=kU I;obtain⟨rfl,rfl⟩:=FT.At.unique I (jT j aN) (by rw[lD aN,b6]);have h:=eQ.top aa;rwa [cr]at h
        refine⟨fun t s I h2=>?_,fun l r q I h2=>?_,fun l r q I h2=>?_,fun k B h2=>?_,fun k B=>rfl,fun k B g h2=>?_,fun i k B h2 ac g bd bG=>?_,fun i k B h2 ac g bd bG=>by cases bd⟩
        .rcases h2 with h2|⟨l,r,q,ac,bd,bG⟩
         .rw[h2,hh t s I h2];have:=ee.o (kU I);rw[jV,cr];exact this
         .have:=ac.lt;omega
        .have aN:=kU I;have B:=FT.zk (fH aN▸I);rw[lD aN]at B;have ac:=I.left.lt;have bd:=I.right.lt;exact⟨cb.o _ aa B.1,cb.o _ aa B.2⟩
        .have:=I.lt;omega
        .omega
        .by_cases e:k=2*j-2
         .have aN:0<j:=by rw[df]at B;omega
          subst e;exact(ee.o aN).lt g h2
         .rw[cb.o k aa e]at h2;cases h2
        .by_cases e:i=2*j-2
         .rw[cb.o k aa aa]at bG;cases bG
         .rw[cb.o i aa e]at bd;cases bd
       have O:=dp.o;have ft:wc.cell? (ae tb 4)=some (.slice aw d nc):=aG O;clear O eQ fB eb ck d9 d5 dg cb ee
       go_wp2_with fail
       go_loopg [15] d (fun b8 hx wr=>∃(m:Nat) (z:Int) (LN LL:Nat->Value),hx=.int .i64 z/\z+1=(m:Int)/\m<=d/\m<=b8/\Hid (cK wr w.heap.size gl d d LN LL)/\Hid (ax (fun k=>k=gl) wc wr)/\Hid (yC wr u.heap.size j R (dP R) m LN LL))
       case atStart=>exact⟨d,_,fq,_,rfl,aa,aB _,aB _,ce,ax.refl _ _,gD⟩
       case round=>
        obtain⟨m,z,LN,LL,rfl,ih,gb,hZ,cN,a2,a3⟩:=hrel;have bR:(aW j).length=d:=g0;by_cases h3:0<m
        .obtain⟨k,rfl⟩:∃k,m=k+1:=⟨m-1,aa⟩;obtain rfl:z=(k:Int):=aa;obtain⟨t,s,I,da⟩:=tK (j:=j) (k:=k) aa;have aN:=kU I;obtain⟨cZ,cn,x,-,hO,-⟩:=aU dm.o.jc aa;injection x with gR gS gU;subst gR;have O:=dp.o;have dR:tb≠gl:=aa;have eu:=bz a2.o dp.o (fun h=>dR h);have eh:wr.cell? (ae tb 4)=some (au cZ (aW j).length nc):=by rw[bR];simp[World.cell?,eu]
         have ei:wr.cell? (ae tb 5)=some (au gl (aW j).length d):=by rw[bR];simp[World.cell?,eu]
         have f2:cZ≠gl:=fun h=>bA ce.o dm.o.jc ai gl rfl (by rw[<-h];rfl);have eF:bQ oK 7 wr (some (ae cZ 0)) (aW j):=by
          have bh:=aT dm.o.jc a2.o (fun g h h2=>by have Y:=NY h;omega);obtain⟨_,_,bm,-,-,Y⟩:=bQ.aI jq ai bh;injection bm with Z cm co;rw[<-Z]at Y;exact Y
         have fy:u.heap.size<=wr.heap.size:=by have:=a2.o.size;omega
         have er:cK wr w.heap.size gl (aW j).length d LN LL:=by rw[bR];exact cN.o
         have e3:aK 96 #[aj tb,af k,.map (some U)] wr fun e w'=>e=.returned (.tuple #[])/\∃du dt,cK w' w.heap.size gl d d du dt/\ax (fun k=>k=gl) wr w'/\yC w' u.heap.size j R (dP R) k du dt:=by
          cases t with
          |leaf a=>
           refine(yz a s tb cZ 0 nc gl d w.heap.size k U (aW j) LN LL wr I da aa eh eF ei er).mono ?_;rintro e w' ⟨rfl,vf,hn,B,h2,ac⟩;rw[bR]at B;exact⟨rfl,LN,_,B,ac,a3.o.leaf cN.o I da ac fy hn h2⟩
          |node l r=>
           have ey:=a3.o.cur I aa;rw[da]at ey;obtain⟨gL,gN,ek,-,-,aS⟩:=Rd.aI ey;rw[bT]at ek;have hV:=FT.wJ l r s;obtain⟨gV,gY⟩:=a3.o.emp l r s I aa;have ho:∀p,p∈(dM 0 j).subs 0->p.1.wf:=fun p hp=>FT.qi _ _ (bJ 0 j aN).1 p hp;have eR:=ho _ (FT.at_mem (fH aN▸I));have eD:∀i,i∈nl (dP R) (.node l r)->i<j:=fun i hi=>by
            have:=gG.o.lt (bF.1 hi).1;omega
           have g6:=FT.zU _ 0 (bJ 0 j aN).1 _ (FT.at_mem (fH aN▸I));have hQ:(FT.node l r).hi<=(dM 0 j).hi:=g6;have hP:=(bJ 0 j aN).2.2;have h0:l.hi<=(FT.node l r).hi:=by have:=FT.eT r eR.2.1;have:=eR.2.2;show l.hi<=r.hi;omega
           have g8:(nl (dP R) (.node l r)).length<=(dP R).length:=gT _ _;rw[jV]at g8;have ha:wr.ownsMap prog 27 (plainElem prog 3) U j D:=wR ff.o (a2.o.block U aa (fun h=>by
            obtain⟨el,ej,aM,-⟩:=ff.o;subst h;rcases ce.o.2 with⟨x,-⟩|⟨g,cV,cW,x,-,c7,-⟩
            .cases x
            .injection x with x;injection x with x;injection x with x;subst x;rw[aM]at c7;cases c7))
           refine(yx l r s tb cZ 0 nc gl d w.heap.size k (l.root s) (r.root (s+l.size)) l.hi U j (aW j) LN LL (nl (dP R) (.node l r)) (jI R) gL gN D wr I da rfl rfl rfl aa aa eh eF ei er ⟨f2,dR,fun b o e=>?_⟩ ek aS aa gV gY ha (fun i hi=>?_) (fun i hi=>?_) (fun i hi=>by have:=eD i hi;omega)).mono ?_
           .intro h;subst h;exact bA cN.o ey ai b rfl (by rw[ek,e];rfl)
           .obtain⟨sm,gb⟩:=gB.o;have Y:=(gb.2.2.2.2 (jI R i)).2 (.lit (.int .i64 0));rw[Y];have ep:=Bt dl.o.2 j aa i (eD i hi);have gZ:placeF R j (jI R i)=some (i:Int):=ep;rw[gZ]
           .have f5:i<R.length:=by have:=eD i hi;omega
            have ep:bV R i=R[i]:=by simp[bV,f5]
            unfold jI;rw[ep];exact fi.o _ (bB f5)
           .rintro e w' ⟨rfl,vl,vr,vf,B,h2,ac,bd,bG,c0⟩;rw[bR]at B;exact⟨rfl,_,_,B,c0,a3.o.node cN.o I eR da c0 fy h2 ac bd bG⟩
         have e7:=ag e3;clear e3 er eF eu eh ei O f2 gS gU
         go_wp2_with fail
         refine e7.o.mono ?_;rintro e w' ⟨rfl,du,dt,B,h2,ac⟩;have gs:=ag B;have gt:Hid (ax (fun k=>k=gl) wc w'):=a2.o.trans h2;have gu:=ag ac;clear B h2 ac e7;go_wp2
         go_roundg k
         case measure=>omega
         case rel=>exact⟨k,(k:Int)-1,du,dt,by go_num,aa,aa,aB _,gs,gt,gu⟩
        .obtain rfl:m=0:=aa;obtain rfl:z=-1:=aa;have ie:=a2.o.size;have a5:vG wr w.heap.size fb j (.slice T j P) N (.slice aw d nc) ab R:=dm.o.kept a2.o (fun k B h2=>by
          subst h2;rcases ce.o.2 with⟨x,-⟩|⟨g,cV,cW,x,-,aM,-⟩
          .cases x
          .injection x with x;injection x with x;injection x with x;subst x;exact⟨_,_,_,aM,ai,ai,ai,ai⟩)
         have ex:=aT fm.o a2.o (fun g h h2=>by subst h2;exact bA ce.o fm.o ai g rfl h);have dA:=aT fp.o a2.o (fun g h h2=>by subst h2;exact bA ce.o fp.o ai g rfl h);have dR:tb≠gl:=aa;have ev:=bz a2.o dp.o (fun h=>dR h);have fz:Below w.heap.size w wr:=e6.o.trans (a2.o.toBelow e6.o.size (fun k h=>aa));have es:=cN.o;have cw:=jV R;have e4:Hid (jC wr w.heap.size wr.heap.size tb fb R (List.replicate R.length false) (dP R) ⟨.slice T j P,.slice am j an,N,.slice aw d nc,au gl d d,yv,ab,LN,LL⟩/\Below w.heap.size w wr):=by
          have Z:R.length=j:=cr;have fY:=(aZ.1 a5.iD.blk).1;have hm:=(aZ.1 ev).1;refine⟨⟨?_,⟨hl,hm,a5.Qg,fY,aB _⟩,?_,?_,?_,?_,?_,?_,?_,?_,?_,?_,?_,?_,?_,?_,?_⟩,fz⟩
          .rw[cw,Z];exact ev
          .rw[Z];exact a5.row
          .rw[Z];exact ex
          .rw[Z];exact a5.Dw
          .rw[Z];exact a5.iD
          .rw[Z,bR];have h:=a5.jc;rw[bR]at h;exact h
          .rw[Z,bR];exact es
          .rw[cw,Z];exact bH dA aa
          .intro t s I;rw[Z]at I;exact bH (a3.o.all I) aa
          .intro l r s I;rw[Z]at I;exact bH (a3.o.Bc l r s I (aX _)) aa
          .intro k al;rw[Z]at al;exact(a3.o.Dr k al (aX _)).1
          .intro v dS g aR;rcases dS with rfl|rfl|rfl|rfl|rfl|rfl|rfl
           .exact(a5.row.lt g aR).2
           .exact(ex.lt g aR).2
           .exact(a5.Dw.lt g aR).2
           .exact(a5.jc.lt g aR).2
           .exact(es.lt g aR).2
           .exact(dA.lt g aR).2
           .exact(a5.iD.row.lt g aR).2
          .intro k al;rw[Z]at al;exact⟨fun g aR=>(a3.o.QI k al g aR).2,fun g aR=>((a3.o.Dr k al (aX _)).2 g aR).2⟩
          .intro g aR h2;have hE:=gI.o g aR;have hG:=(dA.lt g h2).1;omega
          .intro i k B h2 ac;rw[Z]at B h2;exact a3.o.H7 i k B h2 ac
          .intro i k B h2 ac;rw[Z]at B h2;exact a3.o.Gf i k B h2 ac
         clear a5 ex dA ev fz es cw;go_wp2;go_ret2;rw[gC.o];exact⟨tb,fb,_,rfl,e4.o.1,e4.o.2⟩
end
section
open Go.RowKit Go.Sort Go.Shelf Go.Lib Go.Maps
def nu {α:Type} (f:Nat->α) (k:Nat) (v:α):Nat->α:=fun j=>if j=k then v else f j
theorem jD {α:Type} (f:Nat->α) (k:Nat) (v:α):nu f k v k=v:=by simp[nu]
theorem w9 {α:Type} {f:Nat->α} {k j:Nat} {v:α} (h:j≠k):nu f k v j=f j:=by simp[nu,h]
structure gI (w:World) (lo hi tb fb:Nat) (R:List Pt) (gone:List Bool) (cnt:Nat) (yy:List Nat) (nc:Nat->List Nat) (lc:Nat->List Int) (V:yt):Prop where
 blk:w.heap[tb]? =some (wS V.rv V.xv V.gv fb V.nv V.lv V.yv cnt)
 fo:lo<=tb/\tb<hi/\lo<=fb/\fb<hi/\hi<=w.heap.size
 row:w.ownsRow lo 29 3 V.rv R.length (R.flatMap bX)
 xs:w.ownsRow lo 2 1 V.xv R.length ((bU R).map (Value.int .i64))
 Dw:w.ownsRow lo 4 1 V.gv R.length (gone.map Value.bool)
 iD:nH w lo fb R.length V.fv
 jc:w.ownsRow lo 163 7 V.nv (aW R.length).length ((aW R.length).flatMap oK)
 EF:w.ownsRow lo 150 2 V.lv (aW R.length).length (Oi V.LN V.LL (aW R.length).length)
 ys:w.ownsRow lo 2 1 V.yv yy.length ((jl R yy).map (Value.int .i64))
 FV:∀k,k<(aW R.length).length->w.ownsRow lo 27 1 (V.LN k) (nc k).length (((nc k).map (jI R)).map (Value.int .u32))
 Bc:∀l r s,FT.At (aW R.length) (.node l r) s->w.ownsRow lo 3 1 (V.LL ((FT.node l r).root s)) (lc ((FT.node l r).root s)).length ((lc ((FT.node l r).root s)).map (Value.int .i64))
 Dr:∀k,k<(aW R.length).length->∃a m c,V.LL k=.slice a m c
 top:∀v,v=V.rv\/v=V.xv\/v=V.gv\/v=V.nv\/v=V.lv\/v=V.yv\/v=V.fv->∀g,v.ownBlock=some g->g<hi
 oO:∀k,k<(aW R.length).length->(∀g,(V.LN k).ownBlock=some g->g<hi)/\∀g,(V.LL k).ownBlock=some g->g<hi
 Nv:∀g,V.xv.ownBlock=some g->V.yv.ownBlock≠some g
 H7:∀i k,i<(aW R.length).length->k<(aW R.length).length->i≠k->∀g,(V.LN i).ownBlock=some g->(V.LN k).ownBlock≠some g
 Gf:∀i k,i<(aW R.length).length->k<(aW R.length).length->i≠k->∀g,(V.LL i).ownBlock=some g->(V.LL k).ownBlock≠some g
theorem eY {w w':World} {g base:Nat} {cs:Array Value} {t:TypeId} {fr:Nat×Nat} {e:TypeId} {sz:Nat} {v:Value} {n:Nat} {xs:List Value} (h:w.ownsRow base e sz v n xs) (K:ax (fun k=>k=g) w w') (b:w.heap[g]? =some (.cells cs t fr)) (ht:t≠e):w'.ownsRow base e sz v n xs:=
 oU h K fun k c a=>by subst a;exact⟨_,_,_,b,ht⟩
theorem QQ {w w':World} {g base:Nat} {e:TypeId} {sz:Nat} {v:Value} {n:Nat} {xs:List Value} (h:w.ownsRow base e sz v n xs) (K:ax (fun k=>k=g) w w') (c:v.ownBlock≠some g):w'.ownsRow base e sz v n xs:=
 aT h K fun k a b=>by subst b;exact c a
theorem yG {w w':World} {g base fb n:Nat} {b:Value} {cs:Array Value} {t:TypeId} {fr:Nat×Nat} (h:nH w base fb n b) (K:ax (fun k=>k=g) w w') (c:w.heap[g]? =some (.cells cs t fr)) (d:t≠236) (f:t≠163):nH w' base fb n b:=
 ⟨bz K h.blk fun e=>by subst e;have a:=c.symm.trans h.blk;injection a with a;injection a with _ a _;exact d a,eY h.row K c f⟩
theorem EZ {w w':World} {g b:Nat} {cs d:Array Value} {t c:TypeId} {fr f:Nat×Nat} (h:w.heap[b]? =some (.cells d c f)) (K:ax (fun k=>k=g) w w') (j:w.heap[g]? =some (.cells cs t fr)) (i:t≠c):w'.heap[b]? =some (.cells d c f):=
 bz K h fun e=>by subst e;have a:=j.symm.trans h;injection a with a;injection a with _ a _;exact i a
theorem qz {w:World} {base g n c:Nat} {e:TypeId} {sz m:Nat} {xs:List Value} (h:w.ownsRow base e sz (au g n c) m xs):∃cs fr,w.heap[g]? =some (.cells cs e fr):=by
 rcases h.2 with⟨a,-⟩|⟨i,d,f,a,-,b,-⟩
 .cases a
 .injection a with a;injection a with a;injection a with a;subst a;exact⟨_,_,b⟩
section
variable {w w':World} {lo hi tb fb:Nat} {R:List Pt} {gone:List Bool} {cnt:Nat} {yy:List Nat} {nc:Nat->List Nat} {lc:Nat->List Int} {V:yt}
theorem gI.kept {S:Nat->Prop} (h:gI w lo hi tb fb R gone cnt yy nc lc V) (K:ax S w w') (hS:∀k,lo<=k->k<hi->¬S k):gI w' lo hi tb fb R gone cnt yy nc lc V:=by
 have ht:=h.top;have a:∀{e:TypeId} {sz:Nat} {v:Value} {n:Nat} {xs:List Value},w.ownsRow lo e sz v n xs->(∀g,v.ownBlock=some g->g<hi)->w'.ownsRow lo e sz v n xs:=fun a d=>aT a K fun g e=>hS g (a.lt g e).1 (d g e);exact⟨bz K h.blk (hS tb h.fo.1 h.fo.2.1),⟨h.fo.1,h.fo.2.1,h.fo.2.2.1,h.fo.2.2.2.1,bD h.fo.2.2.2.2 K.size⟩,
  a h.row (ht _ aA),a h.xs (ht _ aA),a h.Dw (ht _ aA),
  ⟨bz K h.iD.blk (hS fb h.fo.2.2.1 h.fo.2.2.2.1),a h.iD.row (ht _ aA)⟩,a h.jc (ht _ aA),a h.EF (ht _ aA),a h.ys (ht _ aA),
  fun k c=>a (h.FV k c) (h.oO k c).1,fun l r s b=>a (h.Bc l r s b) (h.oO _ b.lt).2,h.Dr,h.top,h.oO,h.Nv,h.H7,h.Gf⟩
theorem gI.below {B:Nat} (h:gI w lo hi tb fb R gone cnt yy nc lc V) (a:Below B w w') (e:hi<=B):gI w' lo hi tb fb R gone cnt yy nc lc V:=
 h.kept (S:=fun k=>hi<=k) ⟨a.os,a.tape,a.output,a.size,fun k f g=>a.block k aa⟩ fun k b c d=>aa
theorem gI.BG (h:gI w lo hi tb fb R gone cnt yy nc lc V) (m:Nat):gI (w.setCell (ae tb 7) (.int .i64 m)) lo hi tb fb R gone m yy nc lc V:=by
 have K:ax (fun k=>k=tb) w (w.setCell (ae tb 7) (.int .i64 m)):=(ax.refl (fun k=>k=tb) w).set (a:=(ae tb 7)) _ (.inl rfl);have b:=h.blk;exact⟨dC w tb 7 _ _ _ h.blk,aP h.fo,eY h.row K b ai,eY h.xs K b ai,eY h.Dw K b ai,yG h.iD K b ai ai,eY h.jc K b ai,eY h.EF K b ai,eY h.ys K b ai,
  fun k d=>eY (h.FV k d) K b ai,fun l r s c=>eY (h.Bc l r s c) K b ai,h.Dr,h.top,h.oO,h.Nv,h.H7,h.Gf⟩
theorem gI.QR (h:gI w lo hi tb fb R gone cnt yy nc lc V) {g n c:Nat} (f:V.gv=au g n c) (i:Nat):gI (w.setCell (ae g i) (.bool true)) lo hi tb fb R (gone.set i true) cnt yy nc lc V:=by
 have K:ax (fun k=>k=g) w (w.setCell (ae g i) (.bool true)):=(ax.refl (fun k=>k=g) w).set (a:=(ae g i)) _ (.inl rfl);have e:=h.Dw;rw[f]at e;have⟨cs,fr,b⟩:=qz e;refine⟨EZ h.blk K b ai,aP h.fo,eY h.row K b ai,eY h.xs K b ai,?_,yG h.iD K b ai ai,eY h.jc K b ai,eY h.EF K b ai,eY h.ys K b ai,
  fun k m=>eY (h.FV k m) K b ai,fun l r s j=>eY (h.Bc l r s j) K b ai,h.Dr,h.top,h.oO,h.Nv,h.H7,h.Gf⟩
 rw[f,kK];have o:n=R.length:=by
  rcases e.2 with⟨d,-⟩|⟨t,p,q,d,-⟩
  .cases d
  .injection d with _ d _
 subst o;exact(e.stored i (.bool true)).1
theorem gI.Ux (h:gI w lo hi tb fb R gone cnt yy nc lc V) {g n c n':Nat} (i:V.yv=au g n c) (K:ax (fun k=>k=g) w w') {yy':List Nat} (z:w'.ownsRow lo 2 1 (au g n' c) yy'.length ((jl R yy').map (Value.int .i64))):
  gI (w'.setCell (ae tb 6) (au g n' c)) lo hi tb fb R gone cnt yy' nc lc {V with yv:=au g n' c}:=by
 have q:=h.ys;rw[i]at q;have⟨cs,fr,p⟩:=qz q;have ht:=EZ h.blk K p ai;have K2:ax (fun k=>k=tb) w' (w'.setCell (ae tb 6) (au g n' c)):=(ax.refl (fun k=>k=tb) w').set (a:=(ae tb 6)) _ (.inl rfl);have B:=h.xs;have x:V.xv.ownBlock≠some g:=fun e=>h.Nv g e (by rw[i];rfl);have f:∀{e:TypeId} {sz:Nat} {v:Value} {m:Nat} {xs:List Value},w.ownsRow lo e sz v m xs->2≠e->146≠e->(w'.setCell (ae tb 6) (au g n' c)).ownsRow lo e sz v m xs:=fun y j o=>eY (eY y K p j) K2 ht o;refine⟨dC w' tb 6 _ _ _ ht,?_,f h.row ai ai,eY (QQ B K x) K2 ht ai,f h.Dw ai ai,yG (yG h.iD K p ai ai) K2 ht ai ai,f h.jc ai ai,f h.EF ai ai,eY z K2 ht ai,
  fun k u=>f (h.FV k u) ai ai,fun l r s t=>f (h.Bc l r s t) ai ai,h.Dr,?_,h.oO,?_,h.H7,h.Gf⟩
 .have:=h.fo;have:=K.size;simp;omega
 .intro v A b d;rcases A with e|e|e|e|e|e|e
  .exact h.top v (.inl e) b d
  .exact h.top v (.inr (.inl e)) b d
  .exact h.top v (.inr (.inr (.inl e))) b d
  .exact h.top v (.inr (.inr (.inr (.inl e)))) b d
  .exact h.top v (.inr (.inr (.inr (.inr (.inl e))))) b d
  .exact h.top V.yv aA b (by rw[i];rw[e]at d;exact d)
  .exact h.top v (.inr (.inr (.inr (.inr (.inr (.inr e)))))) b d
 .intro b j o;exact h.Nv b j (by rw[i];exact o)
theorem gI.Td (h:gI w lo hi tb fb R gone cnt yy nc lc V) {k g n c n' gl nl cl:Nat} (A:k<(aW R.length).length) (x:V.LN k=au g n c) (C:V.lv=au gl nl cl) (K:ax (fun k=>k=g) w w') {L':List Nat} (M:w'.ownsRow lo 27 1 (au g n' c) L'.length ((L'.map (jI R)).map (Value.int .u32))):
  gI (w'.setCell (ae gl (k*2)) (au g n' c)) lo hi tb fb R gone cnt yy (nu nc k L') lc {V with LN:=upd V.LN k (au g n' c)}:=by
 have E:=h.FV k A;rw[x]at E;have⟨cs,fr,u⟩:=qz E;have B:=h.EF;rw[C]at B;have J:nl=(aW R.length).length:=by
  rcases B.2 with⟨p,-⟩|⟨b,N,P,p,-⟩
  .cases p
  .injection p with _ p _
 subst J;have D:=eY B K u ai;have⟨O,Q,o⟩:=qz D;have K2:ax (fun k=>k=gl) w' (w'.setCell (ae gl (k*2)) (au g n' c)):=(ax.refl (fun k=>k=gl) w').set (a:=(ae gl (k*2))) _ (.inl rfl);have j:∀{e:TypeId} {sz:Nat} {v:Value} {m:Nat} {xs:List Value},w.ownsRow lo e sz v m xs->27≠e->150≠e->(w'.setCell (ae gl (k*2)) (au g n' c)).ownsRow lo e sz v m xs:=fun L y z=>eY (eY L K u y) K2 o z;refine⟨EZ (EZ h.blk K u ai) K2 o ai,?_,j h.row ai ai,j h.xs ai ai,j h.Dw ai ai,yG (yG h.iD K u ai ai) K2 o ai ai,j h.jc ai ai,?_,j h.ys ai ai,
  fun k' f=>?_,fun l r s I=>j (h.Bc l r s I) ai ai,h.Dr,h.top,fun k' f=>⟨fun b d=>?_,(h.oO k' f).2⟩,h.Nv,fun i F y z G b q t=>?_,h.Gf⟩
 .have:=h.fo;have:=K.size;simp;omega
 .show World.ownsRow _ _ _ _ V.lv _ _;rw[C];exact cK.Be D A _
 .by_cases e:k'=k
  .subst e;rw[jD];show World.ownsRow _ _ _ _ (upd V.LN k' _ k') _ _;rw[upd_same];exact eY M K2 o ai
  .rw[w9 e];show World.ownsRow _ _ _ _ (upd V.LN k _ k') _ _;rw[upd_ne e];exact eY (QQ (h.FV k' f) K (fun H=>h.H7 k k' A f (iN e) g (by rw[x];rfl) H)) K2 o ai
 .by_cases e:k'=k
  .subst e;have d:(upd V.LN k' (au g n' c) k').ownBlock=some b:=d;rw[upd_same]at d;exact(h.oO k' f).1 b (by rw[x];exact d)
  .have d:(upd V.LN k (au g n' c) k').ownBlock=some b:=d;rw[upd_ne e]at d;exact(h.oO k' f).1 b d
 .have own:∀i,(upd V.LN k (au g n' c) i).ownBlock=(V.LN i).ownBlock:=fun i=>by
   by_cases e:i=k
   .subst e;rw[upd_same,x];rfl
   .rw[upd_ne e]
  have q:(upd V.LN k (au g n' c) i).ownBlock=some b:=q;have t:(upd V.LN k (au g n' c) F).ownBlock=some b:=t;rw[own]at q t;exact h.H7 i F y z G b q t
theorem gI.Te (h:gI w lo hi tb fb R gone cnt yy nc lc V) {C D:FT} {E k g n c n' gl nl cl:Nat} (G:FT.At (aW R.length) (.node C D) E) (I:(FT.node C D).root E=k) (B:V.LL k=au g n c) (J:V.lv=au gl nl cl) (K:ax (fun k=>k=g) w w') {L':List Int} (U:w'.ownsRow lo 3 1 (au g n' c) L'.length (L'.map (Value.int .i64))):
  gI (w'.setCell (ae gl (k*2+1)) (au g n' c)) lo hi tb fb R gone cnt yy nc (nu lc k L') {V with LL:=upd V.LL k (au g n' c)}:=by
 have H:k<(aW R.length).length:=I▸G.lt;have M:=h.Bc C D E G;rw[I,B]at M;have⟨cs,fr,u⟩:=qz M;have A:=h.EF;rw[J]at A;have S:nl=(aW R.length).length:=by
  rcases A.2 with⟨o,-⟩|⟨b,X,Z,o,-⟩
  .cases o
  .injection o with _ o _
 subst S;have L:=eY A K u ai;have⟨Y,aa,j⟩:=qz L;have K2:ax (fun k=>k=gl) w' (w'.setCell (ae gl (k*2+1)) (au g n' c)):=(ax.refl (fun k=>k=gl) w').set (a:=(ae gl (k*2+1))) _ (.inl rfl);have f:∀{e:TypeId} {sz:Nat} {v:Value} {m:Nat} {xs:List Value},w.ownsRow lo e sz v m xs->3≠e->150≠e->(w'.setCell (ae gl (k*2+1)) (au g n' c)).ownsRow lo e sz v m xs:=fun T y z=>eY (eY T K u y) K2 j z;have own:∀i,(upd V.LL k (au g n' c) i).ownBlock=(V.LL i).ownBlock:=fun i=>by
  by_cases e:i=k
  .subst e;rw[upd_same,B];rfl
  .rw[upd_ne e]
 refine⟨EZ (EZ h.blk K u ai) K2 j ai,?_,f h.row ai ai,f h.xs ai ai,f h.Dw ai ai,yG (yG h.iD K u ai ai) K2 j ai ai,f h.jc ai ai,?_,f h.ys ai ai,
  fun k' d=>f (h.FV k' d) ai ai,fun l r s F=>?_,fun k' d=>?_,h.top,fun k' d=>⟨(h.oO k' d).1,fun b x=>?_⟩,h.Nv,h.H7,fun i N y z O b p q=>?_⟩
 .have:=h.fo;have:=K.size;simp;omega
 .show World.ownsRow _ _ _ _ V.lv _ _;rw[J];exact cK.QE L H _
 .have Q:=F.lt;generalize P:(FT.node l r).root s=k' at*;by_cases e:k'=k
  .subst e;rw[jD];show World.ownsRow _ _ _ _ (upd V.LL k' _ k') _ _;rw[upd_same];exact eY U K2 j ai
  .rw[w9 e];show World.ownsRow _ _ _ _ (upd V.LL k _ k') _ _;rw[upd_ne e];have t:=h.Bc l r s F;rw[P]at t;exact eY (QQ t K (fun t=>h.Gf k k' H Q (iN e) g (by rw[B];rfl) t)) K2 j ai
 .show∃a m W,upd V.LL k _ k'=_;by_cases e:k'=k
  .subst e;rw[upd_same];exact⟨_,_,_,rfl⟩
  .rw[upd_ne e];exact h.Dr k' d
 .have x:(upd V.LL k (au g n' c) k').ownBlock=some b:=x;rw[own]at x;exact(h.oO k' d).2 b x
 .have p:(upd V.LL k (au g n' c) i).ownBlock=some b:=p;have q:(upd V.LL k (au g n' c) N).ownBlock=some b:=q;rw[own]at p q;exact h.Gf i N y z O b p q
theorem gI.Tf (h:gI w lo hi tb fb R gone cnt yy nc lc V) {m n:FT} {o k g c j:Nat} (q:FT.At (aW R.length) (.node m n) o) (t:(FT.node m n).root o=k) (i:V.LL k=au g (lc k).length c) (x:Int):
  gI (w.setCell (ae g j) (.int .i64 x)) lo hi tb fb R gone cnt yy nc (nu lc k ((lc k).set j x)) V:=by
 have u:k<(aW R.length).length:=t▸q.lt;have f:=h.Bc m n o q;rw[t,i]at f;have⟨cs,fr,b⟩:=qz f;have K:ax (fun k=>k=g) w (w.setCell (ae g j) (.int .i64 x)):=(ax.refl (fun k=>k=g) w).set (a:=(ae g j)) _ (.inl rfl);refine⟨EZ h.blk K b ai,aP h.fo,eY h.row K b ai,eY h.xs K b ai,eY h.Dw K b ai,yG h.iD K b ai ai,eY h.jc K b ai,eY h.EF K b ai,eY h.ys K b ai,
  fun k' v=>eY (h.FV k' v) K b ai,fun l r s p=>?_,h.Dr,h.top,h.oO,h.Nv,h.H7,h.Gf⟩
 have y:=p.lt;have d:=h.Bc l r s p;generalize z:(FT.node l r).root s=k' at*;by_cases e:k'=k
 .subst e;rw[jD,i,kI,kK];exact(f.stored j (.int .i64 x)).1
 .rw[w9 e];exact QQ d K (fun d=>h.Gf k k' u y (iN e) g (by rw[i];rfl) d)
end
end
end Go.Proofs.YtkjdbndekceffaaGreat
