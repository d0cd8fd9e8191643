/- Made small by a program. -/
import Derived.Test.YtkjdbndekceffaaGreatV14
set_option linter.unusedSimpArgs false
set_option linter.unusedVariables false
set_option maxRecDepth 100000
set_option maxHeartbeats 16000000
namespace Go.Proofs.YtkjdbndekceffaaGreat
open Tryz
section
open Go.RowKit Go.Sort Go.Shelf Go.Lib Go.Maps
attribute [local irreducible] wpQuiet
attribute [local go_sem] Oper.dZ
section
variable {w:World} {F:Nat->Prop} {tb n0:Nat} {l:List Pt} {lo m0 m1 m2 m3 m4 hi bx cn hp lw ob:Nat} {tl sv:Value} {dn:Bool}
theorem mJ.top (h:mJ w F tb n0 l lo m0 m1 m2 m3 m4 hi bx cn hp lw ob tl sv dn):hi<=w.heap.size:=by
 have a:=h.ord;have b:=h.U7;have c:=h.fin.2.2 (hi-1) (h.fin.1 (hi-1) (by have:=h.row;omega) aa);omega
theorem Tg (h:mJ w F tb n0 l lo m0 m1 m2 m3 m4 hi bx cn hp lw ob tl sv dn) (x y d:Int) (M:(x,y,d)∈l):
  aK 53 #[aj tb,jb x y d] w fun e w'=>e=.returned (.bool true)/\
   ∃bB bC,mJ w' (fun k=>F k\/w.heap.size<=k/\k<w'.heap.size) tb n0 (l.filter fun q=>decide (q≠(x,y,d))) lo m0 m1 m2 m3 m4 hi bx cn hp lw bB bC sv false/\aB F w w':=by
 have bT:=h.top;have bR:l.length<=20000:=bA h.box.Gt.1 h.box.Gt.2;have bt:∃g c,tl=aC g l.length c:=by
  rcases h.row.2 with⟨rfl,bv⟩|⟨g,bh,bN,rfl,_⟩
  .have bO:=h.row.1;have:l=[]:=iC bv;rw[this]at M;cases M
  .exact⟨g,bh,rfl⟩
 obtain⟨g,c,rfl⟩:=bt;have bP:=h.TT g rfl;have bQ:=(h.row.lt g rfl).1;obtain⟨br,bs⟩:=h.U7;obtain⟨bU,bV,bW,bZ,b0⟩:=h.ord;have bo:=wN h.und.1;have H:=af h;have C:=af M;have L:aB (fun _=>False) w (w.alloc (.cells #[ae x,ae y,ak d] 29)):=(aB.refl _ w).alloc _;have aA:=bY w (.cells #[ae x,ae y,ak d] 29);have b1:(w.alloc (.cells #[ae x,ae y,ak d] 29)).heap.size=w.heap.size+1:=ax;have S:=bu L h.blk (fun h=>h);have aD:=aU h.row L (fun _ _ h=>h);have ai:=af (PT (x,y,d) w.heap.size g c l.length lo l _ (by rw[eX _ _ _ _ rfl];rfl) (by rw[eX _ _ _ _ rfl];rfl) (by rw[eX _ _ _ _ rfl];rfl) aD rfl aa aa bo);have bd:(w.alloc (.cells #[ae x,ae y,ak d] 29)).cell? (ag tb 0)=some (aC g l.length c):=aI S;have am:=af S;have Q:=af aA;have X:=af L;clear h M S aA aD L;go_enter func53,ntmps53
 go_wp2_with fail
 generalize w.alloc (.cells #[ae x,ae y,ak d] 29)=w1 at*;refine ai.o.mono ?_;rintro e w2 ⟨n',rfl,aS,aT,B⟩;have J:=bu B am.o aa;have aQ:(aC g n' c).ownBlock≠some tb:=fun e=>by
  have u:g=tb:=by injection e
  omega
 have a6:=af (bu B Q.o aa);have bS:=B.size;have f2:w2.frozen? (ag tb 0)=false:=aI J;have be:w2.cell? (ag tb 0)=some (aC g l.length c):=aI J;have aL:(w2.setCell (ag tb 0) (aC g n' c)).heap[tb]? =some (Obj.cells #[aC g n' c,aj bx,aj cn,aj hp,aj lw,aj ob,sv] 120 (0,0)):=by
  rw[dC w2 tb 0 _ _ _ J];rfl
 have ao:aB (fun k=>k=g\/k=tb) w1 (w2.setCell (ag tb 0) (aC g n' c)):=(B.mono fun k h=>.inl h).set _ (.inl (.inr rfl));have aV:(w2.setCell (ag tb 0) (aC g n' c)).heap.size=w2.heap.size:=ax;have aE:(w2.setCell (ag tb 0) (aC g n' c)).ownsRow lo 29 3 (aC g n' c) n' ((l.filter fun q=>decide (q≠(x,y,d))).flatMap bX):=bn aT fun i e=>aG fun U=>aQ (by rw[e,<-U]);have ap:=ao.alloc (.cells #[ak 0,.int .i32 0,ak 0] 199);have R:=bY (w2.setCell (ag tb 0) (aC g n' c)) (.cells #[ak 0,.int .i32 0,ak 0] 199);have T:aB (fun _=>False) (w2.setCell (ag tb 0) (aC g n' c)) ((w2.setCell (ag tb 0) (aC g n' c)).alloc (.cells #[ak 0,.int .i32 0,ak 0] 199)):=(aB.refl _ _).alloc _;have K:=bu T aL (fun h=>h);have aH:=af (aU aE T (fun _ _ h=>h));have aW:((w2.setCell (ag tb 0) (aC g n' c)).alloc (.cells #[ak 0,.int .i32 0,ak 0] 199)).heap.size=w2.heap.size+1:=ax;have bf:((w2.setCell (ag tb 0) (aC g n' c)).alloc (.cells #[ak 0,.int .i32 0,ak 0] 199)).cell? (ag tb 5)=some (aj ob):=aI K;have f4:((w2.setCell (ag tb 0) (aC g n' c)).alloc (.cells #[ak 0,.int .i32 0,ak 0] 199)).frozen? (ag tb 5)=false:=aI K;rw[aV]at R;have P:=af ap;have an:=af K;have al:=af R;have a1:=af aS;clear ai bd aT B J aL ao aE ap T K R aS
 go_wp2_with fail
 generalize((w2.setCell (ag tb 0) (aC g n' c)).alloc (.cells #[ak 0,.int .i32 0,ak 0] 199))=w4 at*;have aM:Hid ((w4.setCell (ag tb 5) (aj w2.heap.size)).heap[tb]? =some (Obj.cells #[aC g n' c,aj bx,aj cn,aj hp,aj lw,aj w2.heap.size,sv] 120 (0,0))):=by
  show _=_;rw[dC w4 tb 5 _ _ _ an.o];rfl
 have aq:Hid (aB (fun k=>k=g\/k=tb) w (w4.setCell (ag tb 5) (aj w2.heap.size))):=((X.o.mono fun _ h=>h.elim).trans P.o).set _ (.inl (.inr rfl));have a7:Hid ((w4.setCell (ag tb 5) (aj w2.heap.size)).ownsRow lo 29 3 (aC g n' c) n' ((l.filter fun q=>decide (q≠(x,y,d))).flatMap bX)):=bn aH.o fun i e=>aG fun U=>aQ (by rw[e,<-U]);have D:Hid ((w4.setCell (ag tb 5) (aj w2.heap.size)).heap[w.heap.size]? =some (Obj.cells #[ae x,ae y,ak d] 29 (0,0))):=(aG (by simp only;omega)).trans (bu P.o Q.o aa);have a2:Hid ((w4.setCell (ag tb 5) (aj w2.heap.size)).heap[w2.heap.size]? =some (Obj.cells #[ak 0,.int .i32 0,ak 0] 199 (0,0))):=(aG (by simp only;omega)).trans al.o;have b2:(w4.setCell (ag tb 5) (aj w2.heap.size)).heap.size=w2.heap.size+1:=by simp[aW]
 clear f2 be aV aH aW bf f4 P an al X am Q a6;generalize w4.setCell (ag tb 5) (aj w2.heap.size)=r at*;have Y:=af (H.o.Vz.kept ((aq.o.drew)) (fun k z A V=>aa));have bi:=ah (w:=r) (ad:=(ag tb 2)) (v:=aj cn) (aI aM.o);have bD:=ah (w:=r) (ad:=(ag w.heap.size 0)) (v:=.int .i64 x) (aI D.o);have bH:=ah (w:=r) (ad:=(ag w.heap.size 1)) (v:=.int .i64 y) (aI D.o);have d5:=ah (w:=r) (ad:=(ag w.heap.size 2)) (v:=.int .u32 d) (aI D.o);refine au (fun W=>∃p:aR r,W=p.W) [5] [(0,false),(1,false),(2,false),(3,true),(4,true)] ⟨⟨_,(aJ _ _).drew⟩,rfl⟩ 1 ?_;refine aF [5] ?_;clear bi bD bH d5
 go_wp2_with fail
 refine(Tf Y.o (x,y,d) C.o).mono ?_;rintro e w6 ⟨rfl,b,a⟩;have aX:=af b;have t:Hid (aB (fun k=>m2<=k/\k<m3) r w6):=((aB.refl _ r).drew).trans a;have aN:=af (bu t.o aM.o aa);have E:=af (bu t.o D.o aa);have a3:=af (bu t.o a2.o aa);have a8:=af (aU a7.o t.o (fun i e=>by have u:g=i:=(by injection e);omega));have ar:Hid (aB (fun k=>(k=g\/k=tb)\/(m2<=k/\k<m3)) w w6):=(aq.o.mono fun k h=>aa).trans (t.o.mono fun k h=>aa);have b3:=a.size;clear b a Y
 go_wp2_with fail
 have Z:=af (H.o.VA.kept ((ar.o.drew)) (fun k z A V=>aa));have bj:=ah (w:=w6) (ad:=(ag tb 3)) (v:=aj hp) (aI aN.o);have bE:=ah (w:=w6) (ad:=(ag w.heap.size 0)) (v:=.int .i64 x) (aI E.o);have bJ:=ah (w:=w6) (ad:=(ag w.heap.size 1)) (v:=.int .i64 y) (aI E.o);have d6:=ah (w:=w6) (ad:=(ag w.heap.size 2)) (v:=.int .u32 d) (aI E.o);refine au (fun W=>∃p:aR w6,W=p.W) [5] [(0,false),(1,false),(2,false),(3,true),(4,true)] ⟨⟨_,(aJ _ _).drew⟩,rfl⟩ 1 ?_;refine aF [5] ?_;clear bj bE bJ d6
 go_wp2_with fail
 refine(U8 Z.o (x,y,d) C.o).mono ?_;rintro e f ⟨rfl,b,a⟩;have aY:=af b;have s:Hid (aB (fun k=>m3<=k/\k<m4) w6 f):=((aB.refl _ w6).drew).trans a;have aO:=af (bu s.o aN.o aa);have G:=af (bu s.o E.o aa);have a4:=af (bu s.o a3.o aa);have a9:=af (aU a8.o s.o (fun i e=>by have u:g=i:=(by injection e);omega));have av:Hid (aB (fun k=>(k=g\/k=tb)\/(m2<=k/\k<m4)) w f):=(ar.o.mono fun k h=>aa).trans (s.o.mono fun k h=>aa);have b4:=a.size;clear b a Z
 go_wp2_with fail
 have ab:=af (H.o.low.kept ((av.o.drew)) (fun k z A V=>aa));have bk:=ah (w:=f) (ad:=(ag tb 4)) (v:=aj lw) (aI aO.o);have bF:=ah (w:=f) (ad:=(ag w.heap.size 0)) (v:=.int .i64 x) (aI G.o);have bK:=ah (w:=f) (ad:=(ag w.heap.size 1)) (v:=.int .i64 y) (aI G.o);have d7:=ah (w:=f) (ad:=(ag w.heap.size 2)) (v:=.int .u32 d) (aI G.o);refine au (fun W=>∃p:aR f,W=p.W) [5] [(0,false),(1,false),(2,false),(3,true),(4,true)] ⟨⟨_,(aJ _ _).drew⟩,rfl⟩ 1 ?_;refine aF [5] ?_;clear bk bF bK d7
 go_wp2_with fail
 refine(U9 ab.o (x,y,d) C.o).mono ?_;rintro e j ⟨rfl,b,a⟩;have aZ:=af b;have n:Hid (aB (fun k=>m4<=k/\k<hi) f j):=((aB.refl _ f).drew).trans a;have aP:=af (bu n.o aO.o aa);have I:=af (bu n.o G.o aa);have a5:=af (bu n.o a4.o aa);have ba:=af (aU a9.o n.o (fun i e=>by have u:g=i:=(by injection e);omega));have aw:Hid (aB (fun k=>(k=g\/k=tb)\/(m2<=k/\k<hi)) w j):=(av.o.mono fun k h=>aa).trans (n.o.mono fun k h=>aa);have b5:=a.size;clear b a ab
 go_wp2_with fail
 have ac:=af (H.o.box.kept ((aw.o.drew)) (fun k z A V=>aa));have bl:=ah (w:=j) (ad:=(ag tb 1)) (v:=aj bx) (aI aP.o);have bG:=ah (w:=j) (ad:=(ag w.heap.size 0)) (v:=.int .i64 x) (aI I.o);have bL:=ah (w:=j) (ad:=(ag w.heap.size 1)) (v:=.int .i64 y) (aI I.o);have d8:=ah (w:=j) (ad:=(ag w.heap.size 2)) (v:=.int .u32 d) (aI I.o);refine au (fun W=>∃p:aR j,W=p.W) [5,6] [(0,false),(1,false),(2,false),(3,true),(4,true)] ⟨⟨_,(aJ _ _).drew⟩,rfl⟩ 2 ?_;refine aF [5,6] ?_;clear bl bG bL d8
 go_wp2_with fail
 refine(QM ac.o (x,y,d) C.o).mono ?_;rintro e O ⟨rfl,b,a⟩;have a0:=af b;have m:Hid (aB (fun k=>m1<=k/\k<m2) j O):=((aB.refl _ j).drew).trans a;have bc:=af (bu m.o aP.o aa);have bM:=af (bu m.o I.o aa);have az:=af (bu m.o a5.o aa);have bb:=af (aU ba.o m.o (fun i e=>by have u:g=i:=(by injection e);omega));have ay:Hid (aB (fun k=>(k=g\/k=tb)\/(m2<=k/\k<hi)\/(m1<=k/\k<m2)) w O):=(aw.o.mono fun k h=>aa).trans (m.o.mono fun k h=>aa);have b6:=a.size;clear b a ac;go_wp2;go_ret;have bz:aB (fun k=>(m3<=k/\k<m4)\/(m4<=k/\k<hi)\/(m1<=k/\k<m2)) w6 O:=(s.o.mono fun k h=>.inl h).trans ((n.o.mono fun k h=>.inr (.inl h)).trans (m.o.mono fun k h=>.inr (.inr h)));have bw:aB (fun k=>(m4<=k/\k<hi)\/(m1<=k/\k<m2)) f O:=(n.o.mono fun k h=>.inl h).trans (m.o.mono fun k h=>.inr h);have bq:=ay.o.size;have bm:=a1.o;subst bm;refine⟨rfl,w2.heap.size,_,⟨bc.o,bb.o,fun k e=>?_,⟨br,bs⟩,a0.o,aX.o.kept bz (fun k _ _ h=>aa),aY.o.kept bw (fun k _ _ h=>aa),aZ.o.kept m.o (fun k _ _ h=>aa),H.o.ord,?_,?_,(fun h=>by cases h),⟨fun k z A=>.inl (H.o.fin.1 k z A),.inr ?_,?_⟩,PU H.o.und.1 _,fun q bp=>H.o.und.2 q (bI.1 bp).1⟩,ay.o.mono fun k hk=>H.o.fin.1 k aa aa⟩
 .have u:g=k:=by injection e
  omega
 .have N:=az.o;exact⟨aI N,aI N,aI N,aI N⟩
 .exact⟨aa,.inr aa⟩
 .have:=(bg.1 az.o).1;omega
 .rintro k (hk|hk)
  .exact cO (H.o.fin.2.2 k hk) bq
  .exact hk.2
end
theorem IY:eU 148:=bP func148 aL rfl
theorem QN:eU 147:=bP func147 aL rfl
theorem Ti {W:World} {V tb:Nat} {a:Option Addr} {c:Nat} {l:List Pt} {v1 u x y z sv:Value} (n:W.cell? (ag V 0)=some (aj tb)) (h:W.heap[tb]? =some (Obj.cells #[.slice a l.length c,v1,u,x,y,z,sv] 120 (0,0))) (s:bV bX 3 W a l) (D:l.length<=20000) (t:Mj l) (hu:lF l=true):
  aK 147 #[aj V] W fun e w'=>e=.returned (.tuple #[])/\∃v d,Below W.heap.size W d/\d.ownsRow W.heap.size 29 3 v (bL l).length ((bL l).flatMap bX)/\w'=d.setCell (ag tb 6) v:=by
 have k:=af (fun W' (q:Below W.heap.size W W')=>U6 a l l.length c W' rfl (s.below q) aa t hu);have f:=af h;have B:=ah n;have C:=ah (w:=W) (ad:=(ag tb 0)) (v:=.slice a l.length c) (aI h);go_enter func147,ntmps147
 go_wp2_with fail
 refine au (fun W'=>∃p:aR W,W'=p.W) [9,10,11] [(0,true),(1,true),(2,false),(3,false),(4,true)] ⟨⟨_,(aJ _ _).drew⟩,rfl⟩ 7 ?_;refine ay 5 rfl fun K m=>?_;refine aY IY rfl _ _ rfl (vals:=#[.slice a l.length c]) rfl (k.o _ (aJ _ _).drew) ?_;rintro e w2 ⟨v,rfl,i,r⟩;obtain⟨E,F,rfl,-,-,-⟩:=bV.aD bq ai i;have b:Below W.heap.size W w2:=(aJ _ _).drew.trans r;refine⟨_,rfl,?_⟩;refine m _ _ (fun _ _=>⟨⟨_,b⟩,rfl⟩) ?_;have HO:=af i;have j:=af b;refine aW [(6,false),(7,false),(8,false)] ⟨⟨_,b⟩,rfl⟩ rfl ?_;refine aF [9,10,11] ?_;have g:=(aP b f.o).trans f.o;have A:w2.cell? (ag tb 6)=some sv:=aI g;have f2:w2.frozen? (ag tb 6)=false:=aI g
 go_wp2_with fail
 go_end0
 exact⟨rfl,_,w2,j.o,HO.o,rfl⟩
section
variable {w:World} {F:Nat->Prop} {tb n0:Nat} {l:List Pt} {lo m0 m1 m2 m3 m4 hi bx cn hp lw ob:Nat} {tl sv:Value} {dn:Bool}
theorem mJ.more {d:Nat->Prop} (h:mJ w F tb n0 l lo m0 m1 m2 m3 m4 hi bx cn hp lw ob tl sv dn) (f:∀k,F k->d k) (i:∀k,d k->k<w.heap.size):mJ w d tb n0 l lo m0 m1 m2 m3 m4 hi bx cn hp lw ob tl sv dn:=
 ⟨h.blk,h.row,h.TT,h.U7,h.box,h.Vz,h.VA,h.low,h.ord,h.VB,h.Xj,fun hd=>by
  have⟨a,c,e,j,m,g⟩:=h.Ha hd;exact⟨a,c,e,j,m,fun x e=>⟨(g x e).1,(g x e).2.1,f _ (g x e).2.2⟩⟩,⟨fun k a b=>f k (h.fin.1 k a b),f _ h.fin.2.1,i⟩,h.und⟩
theorem Va (h:mJ w F tb n0 l lo m0 m1 m2 m3 m4 hi bx cn hp lw ob tl sv dn):
  aK 63 #[aj tb] w fun e w'=>∃a c,e=.returned (.slice a (bL l).length c)/\(bL l).length<=c/\bV bX 3 w' a (bL l)/\
   ∃aL,mJ w' (fun k=>F k\/w.heap.size<=k/\k<w'.heap.size) tb n0 l lo m0 m1 m2 m3 m4 hi bx cn hp lw ob tl aL true/\aB F w w':=by
 have aV:=h.top;have av:l.length<=20000:=bA h.box.Gt.1 h.box.Gt.2;have⟨az,aC⟩:=h.U7;have⟨aW,aX,aY,aZ,a0⟩:=h.ord;have N:=h.Xj;have H:=af h;have n:aB (fun _=>False) w (w.alloc (.cells #[aj tb] 106)):=(aB.refl _ w).alloc _;have I:=bY w (.cells #[aj tb] 106);have a3:(w.alloc (.cells #[aj tb] 106)).heap.size=w.heap.size+1:=ax;have m:=af (bu n h.blk (fun h=>h));have y:=af n;have U:=af I;have aH:(w.alloc (.cells #[aj tb] 106)).cell? (ag tb 5)=some (aj ob):=aI m.o;have aT:=h.fin.2.2 _ h.fin.2.1;have d:=af ((h.kept n (fun _ _ h=>h)).VB);have z:=af (aU h.row n (fun _ _ h=>h));have T:=af (h.kept n (fun _ _ h=>h));cases dn with
 |true=>
  obtain⟨a,c,rfl,au,aw,M⟩:=h.Ha rfl;have W:=af (aw.below ((aJ _ w).alloc (aA _) (.cells #[aj tb] 106)));have a1:(w.alloc (.cells #[aj tb] 106)).cell? (ag tb 6)=some (.slice a (bL l).length c):=aI m.o;have P:=af (EC (ag ob 0) (.func (.func 147) #[] #[aj w.heap.size]) _ d.o.c0);have a2:(w.alloc (.cells #[aj tb] 106)).cell? (ag w.heap.size 0)=some (aj tb):=by rw[eX _ _ _ _ rfl];rfl
  go_enter func63,ntmps63
  go_wp2_with fail
  generalize w.alloc (.cells #[aj tb] 106)=w1 at*;refine P.o.mono ?_;rintro e w2 ⟨rfl,rfl⟩;go_wp2;go_ret;refine⟨a,c,rfl,au,W.o,.slice a (bL l).length c,?_,y.o.mono fun _ h=>h.elim⟩;exact T.o.more (by intro k hk;exact .inl hk) (by rintro k (hk|hk);exact cO (H.o.fin.2.2 k hk) y.o.size;exact hk.2)
 |false=>
  have aE:lF l=true:=by unfold lF;exact oH h.und.1
  obtain⟨aM,tc,rfl,-,-,aR⟩:=bV.aD bq ai z.o;have A:aB (fun k=>k=ob) (w.alloc (.cells #[aj tb] 106)) ((w.alloc (.cells #[aj tb] 106)).setCell (ag ob 1) (.int .i32 1)):=(aB.refl _ _).set _ (.inl rfl);have aS:ob≠tb:=N.1;have am:=bu A m.o aa;have ap:=bu A I aa;have ad:=aU z.o A (fun f e=>by have p:=h.TT f e;have s:=(h.row.lt f e).1;omega);obtain⟨a4,a5,B,-,-,ar⟩:=bV.aD bq ai ad;injection B with B _ aq;subst B aq;have S:=Ti (V:=w.heap.size) (tb:=tb) (ek ap) am ar av h.und.2 aE;have L:ob<(w.alloc (.cells #[aj tb] 106)).heap.size:=aa;have Q:=af (Ak QN (R:=fun C=>∃v b,Below ((w.alloc (.cells #[aj tb] 106)).setCell (ag ob 1) (.int .i32 1)).heap.size ((w.alloc (.cells #[aj tb] 106)).setCell (ag ob 1) (.int .i32 1)) b/\b.ownsRow ((w.alloc (.cells #[aj tb] 106)).setCell (ag ob 1) (.int .i32 1)).heap.size 29 3 v (bL l).length ((bL l).flatMap bX)/\C=b.setCell (ag tb 6) v) ob 0 (aj w.heap.size) _ d.o.c0 d.o.c1 d.o.f0 d.o.f1 (by
   refine S.mono ?_;rintro e C ⟨rfl,v,b,q,i,rfl⟩;have t:(b.setCell (ag tb 6) v).heap[ob]? =((w.alloc (.cells #[aj tb] 106)).setCell (ag ob 1) (.int .i32 1)).heap[ob]? :=(aG (by simp only;omega)).trans (q.block ob (aQ L));refine⟨rfl,⟨v,b,q,i,rfl⟩,(dJ (a:=(ag ob 0)) t).trans ?_,(dJ (a:=(ag ob 1)) t).trans ?_,(qm (a:=(ag ob 0)) t).trans ?_,(qm (a:=(ag ob 1)) t).trans ?_⟩
   .exact(yJ _ (ag ob 1) (ag ob 0) _ ax).trans d.o.c0
   .simp[Bo,d.o.c1]
   .simp[d.o.f0]
   .simp[d.o.f1]))
  have aH:(w.alloc (.cells #[aj tb] 106)).cell? (ag tb 5)=some (aj ob):=aI m.o;go_enter func63,ntmps63
  go_wp2_with fail
  generalize(w.alloc (.cells #[aj tb] 106))=w1 at*;refine Q.o.mono ?_;rintro e w6 ⟨rfl,C,⟨v,b,q,i,rfl⟩,rfl⟩;rw[show(w1.setCell (ag ob 1) (.int .i32 1)).heap.size=w1.heap.size by simp]at i;have r:aB (fun k=>k=ob) w1 b:=((aB.refl (fun k=>k=ob) w1).set (a:=(ag ob 1)) (.int .i32 1) (.inl rfl)).below q;have ae:=bu r m.o aa;have an:=bu r U.o aa;have ac:=aU z.o r (fun f e=>by have p:=H.o.TT f e;have s:=(H.o.row.lt f e).1;omega);have ah:(b.setCell (ag tb 6) v).heap[tb]? =some (Obj.cells #[.slice aM l.length tc,aj bx,aj cn,aj hp,aj lw,aj ob,v] 120 (0,0)):=by
   rw[dC b tb 6 _ _ _ ae];rfl
  have G:aB (fun k=>k=ob\/k=tb) w1 (b.setCell (ag tb 6) v):=(r.mono fun k h=>.inl h).set _ (.inl (.inr rfl));have Z:aB (fun k=>k=ob\/k=tb) w ((((b.setCell (ag tb 6) v).drew).setCell (ag ob 0) (.int .u32 1)).setCell (ag ob (0+1)) (.int .i32 0)):=(((((y.o.mono fun _ h=>h.elim).trans G).drew).set (a:=(ag ob 0)) _ (.inl (.inl rfl))).set (a:=(ag ob (0+1))) _ (.inl (.inl rfl)));have j:aB (fun k=>k=ob) (b.setCell (ag tb 6) v) ((((b.setCell (ag tb 6) v).drew).setCell (ag ob 0) (.int .u32 1)).setCell (ag ob (0+1)) (.int .i32 0)):=((((aB.refl (fun k=>k=ob) _).drew).set (a:=(ag ob 0)) _ (.inl rfl)).set (a:=(ag ob (0+1))) _ (.inl rfl));have al:=bu j ah aa;have ao:=bu j ((aG (by simp only;omega)).trans an) aa;have u:(b.setCell (ag tb 6) v).heap[ob]? =(w1.setCell (ag ob 1) (.int .i32 1)).heap[ob]? :=(aG (by simp only;omega)).trans (q.block ob (aQ L));have aO:(b.setCell (ag tb 6) v).cell? (ag ob 0)=some (ak 0):=((dJ (a:=(ag ob 0)) u).trans ((yJ _ (ag ob 1) (ag ob 0) _ ax).trans d.o.c0));have aP:(b.setCell (ag tb 6) v).cell? (ag ob 1)=some (.int .i32 1):=((dJ (a:=(ag ob 1)) u).trans (by simp[Bo,d.o.c1]));have aN:(b.setCell (ag tb 6) v).frozen? (ag ob 0)=false:=((qm (a:=(ag ob 0)) u).trans (by simp[d.o.f0]));have y1:(b.setCell (ag tb 6) v).frozen? (ag ob 1)=false:=((qm (a:=(ag ob 1)) u).trans (by simp[d.o.f1]));have ab:Hid (TS ((((b.setCell (ag tb 6) v).drew).setCell (ag ob 0) (.int .u32 1)).setCell (ag ob (0+1)) (.int .i32 0)) ob true):=by
   refine⟨?_,?_,?_,?_⟩
   .refine(yJ _ (ag ob (0+1)) (ag ob 0) _ ax).trans ?_;simp[Bo,aO]
   .have:(((b.setCell (ag tb 6) v).drew).setCell (ag ob 0) (.int .u32 1)).cell? (ag ob 1)=some (.int .i32 1):=(yJ _ (ag ob 0) (ag ob 1) _ ax).trans (aQ aP);simp[Bo,this]
   .simpa using aN
   .simpa using y1
  have D:Hid ((((b.setCell (ag tb 6) v).drew).setCell (ag ob 0) (.int .u32 1)).setCell (ag ob (0+1)) (.int .i32 0)|>.ownsRow w1.heap.size 29 3 v (bL l).length ((bL l).flatMap bX)):=aU (aU i ((aB.refl (fun k=>k=tb) b).set (a:=(ag tb 6)) v (.inl rfl)) (fun f e=>by have:=(i.lt f e).1;omega)) j (fun f e=>by have:=(i.lt f e).1;omega);have E:=af al;have Y:=af ao;have g:=af Z;have X:=af (aU ac ((G.mono (fun k h=>h)).trans (j.mono fun k h=>.inl h)|>fun h=>(((aB.refl (fun k=>k=ob\/k=tb) b).set (a:=(ag tb 6)) v (.inl (.inr rfl))).trans (j.mono fun k h=>.inl h))) (fun f e=>by have p:=H.o.TT f e;have s:=(H.o.row.lt f e).1;omega));generalize(((b.setCell (ag tb 6) v).drew).setCell (ag ob 0) (.int .u32 1)).setCell (ag ob (0+1)) (.int .i32 0)=O at*;have u0:O.cell? (ag w.heap.size 0)=some (aj tb):=aI Y.o;have u1:O.cell? (ag tb 6)=some v:=aI E.o;go_wp2;go_ret;obtain⟨a,c,rfl,-,K,J⟩:=bV.aD bq ai D.o;have ay:=g.o.size;have aF:=D.o.lt;refine⟨a,c,rfl,K,J,_,⟨E.o,X.o,H.o.TT,⟨az,aC⟩,H.o.box.kept g.o aa,H.o.Vz.kept g.o aa,H.o.VA.kept g.o aa,H.o.low.kept g.o aa,H.o.ord,ab.o,N,fun _=>⟨a,c,rfl,K,J,fun x M=>?_⟩,⟨fun k p s=>.inl (H.o.fin.1 k p s),.inl H.o.fin.2.1,?_⟩,H.o.und⟩,g.o.mono ?_⟩
  .have p:=aF x.block (by rw[M];rfl);exact⟨aa,aa,.inr aa⟩
  .rintro k (hk|hk)
   .exact cO (H.o.fin.2.2 k hk) ay
   .exact hk.2
  .rintro k (rfl|rfl)
   .exact H.o.fin.2.1
   .exact H.o.tF
end
end
section
open Go.RowKit Go.Maps
attribute [local irreducible] wpQuiet
def Vb (W:World) (base Cb:Nat) (wk:Int) (l:List fB) (e:Ending) (w':World):Prop:=
 ∃(DT:Value) (rR:List Bd) (LC:Int),e=.returned (ae l.length)/\nK w' base Cb DT rR l.length LC/\rT w' rR/\rR.map (·.2.1)=setC (Lib.bitLen l.length) l/\
  (DT.ownBlock=none\/∃b,DT.ownBlock=some b/\W.heap.size<=b)/\aB (fun k=>k=Cb) W w'/\Nw W.heap.size [] rR/\LC=wrap64 (wk+(l.length:Int))
theorem Vd {W:World} {base Cb:Nat} {cv:Value} {ch:List Bd} {N wk:Int} (h:nK W base Cb cv ch N wk) (cl:base<=W.heap.size) (a:Option Addr) (l:List fB) (c:Nat) (bb:M3 W a l) (bR:l.length<=c) (aE:l.length<=10000):
  aK 212 #[aj Cb,.slice a l.length c] W (Vb W base Cb wk l):=by
 have aT:=af (xD h);have H:=af h;have bK:=fP aE ai;have bL:Lib.bitLen 10000=14:=ai;rw[bL]at bK;have aZ:=af bb;have a0:l.length<2^Lib.bitLen l.length:=by
  by_cases a7:l.length=0
  .rw[a7];decide
  .exact(bD _ aa a7).2.2
 have bp:=af a0;clear a0;clear h bb;go_enter func212,ntmps212
 go_wp2_with fail
 refine aT.o.mono ?_;rintro e w2 ⟨rfl,B⟩;have C:=af (H.o.below B);obtain⟨bB,bC,bE,bF⟩:=C.o.cell;have f1:=C.o.frozen 1;have Z:Hid (nK (w2.setCell (ag Cb 1) (aM)) base Cb (aM) [] N wk):=iI.MZ (ch:=ch) C.o.blk C.o.hb C.o.ds (cZ _ _ _ _) (by simp[Value.ownBlock]);obtain⟨d0,d1,d2,d3⟩:=Z.o.cell;have f2:=Z.o.frozen 2;have a3:Hid (nK ((w2.setCell (ag Cb 1) (aM)).setCell (ag Cb 2) (.int .i64 l.length)) base Cb (aM) [] l.length wk):=Z.o.Cr _;have a2:Hid (aB (fun k=>k=Cb) W ((w2.setCell (ag Cb 1) (aM)).setCell (ag Cb 2) (.int .i64 l.length))):=(((aB.refl (fun k=>k=Cb) W).below B).set (a:=(ag Cb 1)) _ (.inl rfl)).set (a:=(ag Cb 2)) _ (.inl rfl);have cj:=H.o.lt;clear aT
 go_upto_block 0 with fail
 go_cut []from 19 to 33 (fun w=>∃v,Hid (nK w base Cb v (List.replicate (Lib.bitLen l.length) fZ) l.length wk)/\Hid (v.ownBlock=none\/∃b,v.ownBlock=some b/\W.heap.size<=b)/\Hid (aB (fun k=>k=Cb) W w))
 case first=>
  go_wp2_with fail
  generalize((w2.setCell (ag Cb 1) (aM)).setCell (ag Cb 2) (.int .i64 l.length))=w3 at*
  go_loopw [5] (fun aL wr=>∃(k m:Nat) (v:Value),aL=.int .i64 m/\m<=10000/\Hid (k+Lib.bitLen m=Lib.bitLen l.length)/\Hid (nK wr base Cb v (List.replicate k fZ) l.length wk)/\Hid (v.ownBlock=none\/∃b,v.ownBlock=some b/\W.heap.size<=b)/\Hid (aB (fun k=>k=Cb) W wr)) (fun aL _=>(intOf aL).toNat)
  case atStart=>exact⟨0,l.length,_,rfl,aE,(by show _=_;omega),a3,.inl rfl,a2⟩
  case round=>
   obtain⟨k,m,v,rfl,bX,aY,f,E,s⟩:=hrel;by_cases AQ:m=0
   .subst AQ;obtain rfl:k=Lib.bitLen l.length:=aY.o
    go_wp2_with fail
    go_meet;exact⟨v,f,E,s⟩
   .have aW:Hid (k+1+Lib.bitLen (m/2)=Lib.bitLen l.length):=by
     have:=Lib.bitLen_half m AQ aa;have:=aY.o;show _=_;omega
    have ah:k+1<=14:=by have:=aW.o;omega
    have J:=f.o.row;rw[iM]at J;have b0:=f.o.ne;have cx:(0:Int)<(m:Int):=aa;obtain⟨aw,ax,ay,az⟩:=f.o.cell;have bt:Hid (∀w6,wr.grownBy w6 v.ownBlock->w6.heap[Cb]? =some (Obj.cells #[.bool true,v,ae l.length,ae wk] 278 (0,0))):=fun w6 ac=>(ac.block Cb f.o.lt (fun e=>f.o.ne e.symm)).trans f.o.blk
    go_wp2_with (at_builtin;refine cB TL base J [aM] rfl (by simp[Value.oneCell']) rfl _ _ rfl rfl _ rfl dE aa (by have:=s.o.size;omega) ?_;intro cE w6 bd ac ba;obtain⟨a6,j,rfl,cp,cq,cr,cs⟩:=aS bd aa;have aJ:=bt.o w6 ac;have cC:w6.cell? (ag Cb 1)=some v:=(aI aJ);have cD:w6.frozen? (ag Cb 1)=false:=(aI aJ))
    have ck:=f.o.lt;have b1:w6.ownsRow base 213 1 (aC a6 (k+1) j) (List.replicate (k+1) (fZ:Bd)).length ((List.replicate (k+1) (fZ:Bd)).map eu):=by
     rw[iM,EA,bJ];exact bd
    have b2:Value.ownBlock (aC a6 (k+1) j)≠some Cb:=by
     rcases ba with h9|h9
     .rw[h9];exact b0
     .rw[h9];simp;omega
    go_roundw
    case rel=>
     refine⟨k+1,m/2,_,by go_num,aa,aW,iI.MZ (ch:=List.replicate k fZ) aJ f.o.hb f.o.ds b1 b2,?_,(s.o.grown ac ?_).set (a:=(ag Cb 1)) _ (.inl rfl)⟩
     .rcases ba with h9|h9
      .rw[h9];exact E
      .exact .inr ⟨_,h9,by have:=s.o.size;simp;omega⟩
     .intro b i;rcases E.o with h9|⟨b4,h9,Q⟩
      .rw[h9]at i;cases i
      .rw[h9]at i;injection i with i;subst i;exact .inr Q
    case measure=>exact bZ
 case rest=>
  obtain⟨v,f,E,s⟩:=hcut;obtain⟨w3,bI⟩:∃w3:World,w3=wc:=⟨_,rfl⟩;subst bI;clear Z a3 a2 bB bC bE bF f1 f2 d0 d1 d2 d3 C B;generalize bM:Lib.bitLen l.length=K at*;obtain⟨x,aF⟩:∃x,x=v.ownBlock:=⟨_,rfl⟩;have a1:Hid (∀W',aB (fun k=>k=Cb\/x=some k) w3 W'->bV lW 4 W' a l):=fun W' R=>((aZ.o.kept (H.o.fG rfl (s.o.mono (fun k h=>.inl h)))).kept (f.o.fG aF R)).OP;have au:=af aF;clear aF;have ao:=f.o;have bu:Hid (rT w3 (List.replicate K fZ)):=EB _ _;have bq:Hid ((List.replicate K (fZ:Bd)).map (·.2.1)=List.replicate K []++[]):=by show _=_;simp
  have bo:Hid (l.length=l.length%2^K):=(FK bp.o).symm;obtain⟨av,P,bh,-,bS,-⟩:=Rd.aD (enc:=eu) ao.row;rw[iM]at bh bS;subst bh;obtain⟨b7,b8,b9,ca⟩:=ao.cell;clear ao
  go_upto_block 2 with fail
  go_cut []from 35 to 64 (fun w=>∃ch1,Hid (nK w base Cb (.slice av K P) ch1 l.length wk)/\Hid (Nw W.heap.size [] ch1)/\Hid (rT w ch1)/\Hid (ch1.map (·.2.1)=setC K l)/\Hid (aB (fun k=>k=Cb\/x=some k) w3 w))
  case first=>
   go_wp2_with fail
   go_loopw [7,6] (fun aH b3 wr=>∃(m:Nat) (ad:Option Addr) (r:List fB) (y:Nat) (ch1:List Bd) (T:List (List fB)),aH=.int .i64 ((m:Int)-1)/\b3=.slice ad r.length y/\m<=K/\r.length<=y/\Hid (r.length=l.length%2^m)/\Hid (∀W',aB (fun k=>k=Cb\/x=some k) w3 W'->bV lW 4 W' ad r)/\
    Hid (nK wr base Cb (.slice av K P) ch1 l.length wk)/\Hid (Nw W.heap.size [] ch1)/\Hid (rT wr ch1)/\Hid (ch1.map (·.2.1)=List.replicate m []++T)/\Hid (setC K l=setC m r++T)/\Hid (aB (fun k=>k=Cb\/x=some k) w3 wr)) (fun aH _ _=>(intOf aH+1).toNat)
   case atStart=>exact⟨K,a,l,c,_,[],by go_num,rfl,aA _,bR,bo,a1,f,Nw.Uq,bu,bq,(by show _=_;simp),aB.refl _ _⟩
   case round=>
    obtain⟨m,ad,r,y,ch1,T,rfl,rfl,bX,bg,X,M,q,L,D,A,Y,t⟩:=hrel;rcases nW m with AQ|AQ
    .subst AQ;have cm:¬(0:Int)<=((0:Nat):Int)-1:=aa
     go_wp2_with fail
     go_meet;exact⟨ch1,q,L,D,(by have d:=A.o;have G:=Y.o;show _=_;rw[d,G];rfl),t⟩
    .obtain⟨k,rfl⟩:∃k,m=k+1:=⟨m-1,aa⟩;have ah:k<14:=aa;have ak:=Ii l.length k;have cw:r.length<=l.length:=by rw[X.o];exact Nat.mod_le _ _
     have bz:=PO k ah;have O:=TP l.length k ah aE;have hp:=ry k ah;have bU:(((k+1:Nat):Int)-1)=(k:Int):=aa;have ct:(0:Int)<=(k:Int):=aa;have aG:ch1.length=K:=by
      have d:=congrArg List.length A.o;have G:=congrArg List.length Y.o;rw[fo,bQ,fo]at G;simp at d;omega
     rw[bU];by_cases i:l.length.testBit k=true
     .rw[i]at O;simp only[gJ]at O;have I:=ak.1 i;rw[<-X.o]at I;have al:2^k<=r.length:=aa;have ar:Hid (setC K l=setC k (r.drop (2^k))++r.take (2^k)::T):=by
       have d:=Y.o;rw[setC,aO al,dW]at d;exact d
      have V:Hid (∀hd:Bd,hd.2.1=r.take (2^k)->(ch1.set k hd).map (·.2.1)=List.replicate k []++r.take (2^k)::T):=fun hd h9=>by
       rw[jg,A.o,h9,Hr]
      have aq:Hid ((r.drop (2^k)).length=l.length%2^k):=by
       show _=_;rw[mg];omega
      clear ak i I;generalize S:2^k=p at*;have ap:=af S;clear S;obtain⟨b,off,bH,bP,-⟩:=(M.o wr t.o).get aa;subst bH;obtain⟨g,b5,ab,cn,co,-,-⟩:=aS q.o.row aa;rw[aG]at ab;injection ab with ab _ bG;subst ab bG;obtain⟨aw,ax,ay,az⟩:=q.o.cell;have U:(r.take p).length=p:=by rw[dO];omega
      have an:=af (Ct (some (ag b off)) (r.take p) p y wr.drew U ((M.o wr.drew t.o.drew).take p) aa);have cz:(0:Int)<=(p:Int)/\(p:Int)<=(r.length:Int):=aa;have cy:(p:Int)<=(y:Int):=aa;have be:((p:Int)!=0)=true:=by simp only[bne_iff_ne,ne_eq];omega
      go_upto_region 14 with fail
      simp only[bz,O,be]
      go_cut []from 52 to 61 (fun w=>∃F,Hid (nK w base Cb (aC g K P) F l.length wk)/\Hid (Nw W.heap.size [] F)/\Hid (rT w F)/\Hid (F.map (·.2.1)=List.replicate k []++r.take p::T)/\Hid (aB (fun k=>k=Cb\/x=some k) w3 w))
      case first=>
       have bi:aK 208 #[.slice (some (ag b off)) p y] wr.drew fun e w6=>∃u j z,e=.returned (.slice u p j)/\Hid (p<=j)/\Hid (∀a,u=some a->W.heap.size<=a.block)/\Hid (M3 w6 u (r.take p))/\Hid (nK w6 base Cb (aC g K P) ch1 l.length wk)/\Hid (Below wr.drew.heap.size wr.drew w6)/\w6.cell? (ag Cb 1)=some (aC g K P)/\w6.cell? (ag g k)=some z/\w6.frozen? (ag g k)=false:=by
        refine an.o.mono ?_;rintro e w6 ⟨cF,rfl,bc,a9⟩;obtain⟨u,j,rfl,cg,a8,bN⟩:=M3.aD bc;have am:=q.o.drew.below a9;obtain⟨cc,a5,cd,ce⟩:=am.cell;have J:=am.row;rw[aG]at J;have aR:=J.cellAt k aa;have a4:=J.frozenAt k;rw[cK (show k<(ch1.map eu).length by simp;omega)]at aR;rw[U]at a8;exact⟨u,j,_,by rw[U],a8,(fun a bO=>by have d:=(bc.lt a.block (by rw[bO];rfl)).1;have G:=t.o.size;have cf:=s.o.size;simp at d;omega),bN,am,a9,a5,aR,a4⟩
       clear an;have cu:(k:Int)<(K:Int):=aa
       go_region_with (go_at_call 208;with_reducible refine bi.mono ?_;rintro e w6 ⟨u,j,z,rfl,bm,bj,bx,aV,aU,a5,aR,a4⟩)
       all_goals go_wp2_with fail
       all_goals go_meet
       all_goals
        have bW:Value.slice u p j=eu (u,r.take p,j):=by unfold eu;simp only;rw[U]
        rw[bW];have bT:x=some g:=au.o;exact⟨ch1.set k (u,r.take p,j),aV.o.MX aG.symm k _,L.o.set bj.o,Ht (D.o.kept (W':=w6) fun b b6 fr i=>aP (W:=wr.drew) aU.o i) (aV.o.fG (W':=w6.setCell (ag g k) (eu (u,r.take p,j))) rfl ((aB.refl _ w6).set (a:=(ag g k)) _ (.inl (.inr rfl)))) bx.o (by show(r.take p).length<=j;rw[U];exact bm.o),V.o _ rfl,(((t.o.drew).below aU.o).set (a:=(ag g k)) _ (.inl (.inr bT)))⟩
      case rest=>
       obtain⟨F,bk,bs,bv,br,aX⟩:=hcut;clear an q D A V t aw ax ay az bP be X
       go_wp2_with (refine wM Hw (M.o _ aX.o) bg p r.length al (aA _) rfl _ _ _ rfl rfl rfl rfl ?_;intro bA bf;simp only[iE]at bf)
       go_roundw
       case rel=>exact⟨k,bA,r.drop p,y-p,F,r.take p::T,rfl,(by rw[mg]),aa,(by rw[mg];omega),(by rw[ap.o];exact aq),(fun W' R=>bf W' (M.o W' R)),bk,bs,bv,br,ar,aX⟩
       case measure=>simp[intOf]
     .have B:l.length.testBit k=false:=aQ i;rw[B]at O;simp only[jC,pq]at O;have I:=ak.2 B;rw[<-X.o]at I;have al:¬2^k<=r.length:=by have:=qL l.length (qK (n:=k) (show 0<2 by decide));omega
      have ar:Hid (setC K l=setC k r++[]::T):=by
       have d:=Y.o;rw[setC,aN al,dW]at d;exact d
      have V:Hid (ch1.map (·.2.1)=List.replicate k []++[]::T):=by
       have d:=A.o;rw[sJ,dW]at d;exact d
      have aq:=af I;clear ak i B I;generalize S:2^k=p at*;have ap:=af S;clear S
      go_wp2_with fail
      go_roundw
      case rel=>exact⟨k,ad,r,y,ch1,[]::T,rfl,rfl,aa,bg,by rw[ap.o];exact aq,M,q,L,D,V,ar,t⟩
      case measure=>simp[intOf]
  case rest=>
   obtain⟨ch1,q,L,D,A,t⟩:=hcut;obtain⟨aw,ax,ay,az⟩:=q.o.cell;have cb:=q.o.frozen 3;have bl:=af (q.o.RN (wrap64 (wk+(l.length:Int))));have bw:Hid (rT (wc.setCell (ag Cb 3) (.int .i64 (wrap64 (wk+(l.length:Int))))) ch1):=D.o.kept (q.o.fG rfl ((aB.refl _ wc).set (a:=(ag Cb 3)) _ (.inl (.inl rfl))));have bn:Hid (aB (fun k=>k=Cb) W (wc.setCell (ag Cb 3) (.int .i64 (wrap64 (wk+(l.length:Int)))))):=by
    have cA:=s.o.size;have d:aB (fun k=>k=Cb\/W.heap.size<=k) W wc:=(s.o.mono (fun k h=>.inl h)).trans (t.o.mono (fun k h=>h.imp id (fun h9=>by
     rcases E.o with Q|⟨b,Q,ci⟩
     .rw[au.o,Q]at h9;cases h9
     .rw[au.o,Q]at h9;injection h9 with h9;omega)))
    have G:aB (fun k=>k=Cb) W wc:=⟨d.os,d.tape,d.output,d.size,fun k R bY=>d.block k R (fun h9=>by rcases h9 with h9|h9;exact bY h9;omega)⟩;exact G.set (a:=(ag Cb 3)) _ (.inl rfl)
   clear s t a1 f aZ;go_wp2;go_ret;exact⟨_,ch1,_,rfl,bl.o,bw.o,by rw[bM];exact A.o,E.o,bn.o,L.o,rfl⟩
end
section
open Go.RowKit Go.Sort Go.Shelf Go.Lib Go.Maps
open Go.ChangeMaps (setBlock)
def Bk (w:World) (F:Nat->Prop) (tb n0:Nat) (l:List Pt):Prop:=∃lo m0 m1 m2 m3 m4 hi bx cn hp lw ob tl sv dn,mJ w F tb n0 l lo m0 m1 m2 m3 m4 hi bx cn hp lw ob tl sv dn
section
variable {w w':World} {F S:Nat->Prop} {tb n0:Nat} {l:List Pt}
theorem Bk.kept (h:Bk w F tb n0 l) (K:aB S w w') (hS:∀k,F k->¬S k):Bk w' F tb n0 l:=by
 have⟨lo,m0,m1,m2,m3,m4,hi,bx,cn,hp,lw,ob,tl,sv,dn,h⟩:=h;exact⟨lo,m0,m1,m2,m3,m4,hi,bx,cn,hp,lw,ob,tl,sv,dn,h.kept K hS⟩
theorem Bk.below (h:Bk w F tb n0 l) (a:Below w.heap.size w w'):Bk w' F tb n0 l:=h.kept (S:=fun _=>False) ((aB.refl _ _).below a) fun _ _ h=>h
theorem Bk.lt (h:Bk w F tb n0 l):∀k,F k->k<w.heap.size:=by
 have⟨lo,m0,m1,m2,m3,m4,hi,bx,cn,hp,lw,ob,tl,sv,dn,h⟩:=h;exact h.fin.2.2
theorem Ve (a:Option Addr) (c:Nat) (l:List Pt) (w:World) (f:bV bX 3 w a l) (g:l.length<=20000) (i:Jw l) (hu:(ids l).Nodup):
  aK 52 #[.slice a l.length c] w fun e w'=>∃tb,e=.returned (aj tb)/\Bk w' (fun k=>w.heap.size<=k/\k<w'.heap.size) tb l.length l/\Below w.heap.size w w':=by
 refine(QL a c l w f g i (by unfold lF;exact oH hu)).mono ?_;rintro e w' ⟨tb,m0,m1,m2,m3,m4,bx,cn,hp,lw,ob,tl,d,h,b⟩;exact⟨tb,d,⟨_,_,_,_,_,_,_,_,_,_,_,_,_,_,_,h⟩,b⟩
theorem V7 (h:Bk w F tb n0 l) (p:Pt) (d:p∈l):
  aK 53 #[aj tb,jb p.1 p.2.1 p.2.2] w fun e w'=>e=.returned (.bool true)/\Bk w' (fun k=>F k\/w.heap.size<=k/\k<w'.heap.size) tb n0 (l.filter fun q=>decide (q≠p))/\aB F w w':=by
 have⟨lo,m0,m1,m2,m3,m4,hi,bx,cn,hp,lw,ob,tl,sv,dn,h⟩:=h;refine(Tg h p.1 p.2.1 p.2.2 d).mono ?_;rintro e w' ⟨c,f,g,a,b⟩;exact⟨c,⟨_,_,_,_,_,_,_,_,_,_,_,_,_,_,_,a⟩,b⟩
theorem Xk (h:Bk w F tb n0 l):
  aK 63 #[aj tb] w fun e w'=>∃a c,e=.returned (.slice a (bL l).length c)/\(bL l).length<=c/\bV bX 3 w' a (bL l)/\Bk w' (fun k=>F k\/w.heap.size<=k/\k<w'.heap.size) tb n0 l/\aB F w w':=by
 have⟨lo,m0,m1,m2,m3,m4,hi,bx,cn,hp,lw,ob,tl,sv,dn,h⟩:=h;refine(Va h).mono ?_;rintro e w' ⟨a,c,g,f,i,j,b,d⟩;exact⟨a,c,g,f,i,⟨_,_,_,_,_,_,_,_,_,_,_,_,_,_,_,b⟩,d⟩
end
def vTr:Option Nat->Value
 |none=>.pointer none
 |some b=>aj b
def l6 (w:World) (mb:Nat) (A:List fB):Prop:=∃D,w.ownsMap prog 29 (plainElem prog 3) mb A.length D/\tV D A
theorem l6.fit {w:World} {mb n:Nat} {A:List fB} {D:DataW Unit} (h:w.ownsMap prog 29 (plainElem prog 3) mb n D) (a:tV D A):l6 w mb A:=by
 refine⟨D,?_,a⟩;rw[<-a.2.1];obtain⟨c,b,d,F,e,rfl⟩:=h;exact⟨c,b,d,F,by simp[Maps.size,length_sorted],rfl⟩
theorem l6.lt {w:World} {mb:Nat} {A:List fB} (h:l6 w mb A):mb<w.heap.size:=by
 obtain⟨D,⟨c,b,a,-⟩,-⟩:=h;exact(bg.1 a).1
theorem l6.same {w w':World} {mb:Nat} {A:List fB} (h:l6 w mb A) (e:w'.heap[mb]? =w.heap[mb]?):l6 w' mb A:=by
 obtain⟨D,⟨b,a,d,r⟩,c⟩:=h;exact⟨D,⟨b,a,e.trans d,r⟩,c⟩
theorem l6.look {w:World} {mb:Nat} {A:List fB} (h:l6 w mb A) {p:Pt} (hp:GU p) (s:(A.map (·.1)).Nodup):
  (∃c∈A,c.1=p/\(Instr.lookup 188 (.map (some mb)) (jb p.1 p.2.1 p.2.2) true).run prog w=.ok (.tuple #[ae c.2,.bool true]) w)\/
  (p∉A.map (·.1)/\(Instr.lookup 188 (.map (some mb)) (jb p.1 p.2.1 p.2.2) true).run prog w=.ok (.tuple #[ae 0,.bool false]) w):=by
 have⟨D,n,j⟩:=h;have⟨v,r,d,f⟩:=n.look_ok (Keyed.of_law Ia) underlying188 (zeroValue3 w) (vY underlying3 ai) (zA hp);rw[(j.2.2 p hp).2]at d;rw[(j.2.2 p hp).1]at f;have l:∀x:Int,plainElem (H:=Unit) prog 3 v=some (DataW.lit (.int .i64 x),r)->v=.int .i64 x:=fun x q=>by
  obtain⟨a,rfl,e,t⟩:=plainElem_int_inv underlying3 q;simp at e;rw[e.1]
 cases b:A.find? fun c=>decide (c.1=p)with
 |none=>
  right;rw[b]at f;have m:=BG.1 b;have i:(A.any fun c=>decide (c.1=p))=false:=FE.2 m;rw[i,l 0 f]at d;exact⟨fun o=>by
   have⟨c,g,e⟩:=dD.1 o;exact m c g (aQ e),d⟩
 |some c=>
  left;rw[b]at f;have g:=List.mem_of_find?_eq_some b;have k:c.1=p:=by simpa using List.find?_some b
  have i:(A.any fun c=>decide (c.1=p))=true:=List.any_eq_true.2 ⟨c,g,aQ k⟩;rw[i,l c.2 f]at d;exact⟨c,g,k,d⟩
theorem l6.size {w:World} {mb:Nat} {A:List fB} (h:l6 w mb A):(Builtin.len_ #[188] 3 #[.map (some mb)]).run prog w=.ok (.int .i64 A.length) w:=by
 have⟨D,a,b⟩:=h;rw[a.len underlying188 3,b.2.1]
abbrev zZ:Value:=.func (.func 52) #[] #[]
abbrev EN:Value:=.func (.func 53) #[] #[]
structure jw (w:World) (X:Nat->Prop) (Hb Cb mb:Nat) (cv tv av lv:Value) (ch:List Bd) (T:List (Option Nat)) (al:List Bool) (fA:List Int) (A:List fB) (N wk:Int):Prop where
 blk:w.heap[Hb]? =some (Obj.cells #[zZ,EN,aj Cb,tv,av,lv,.map (some mb)] 190 (0,0))
 gp:nK w 0 Cb cv ch N wk
 rows:rT w ch
 jX:w.ownsRow 0 106 1 tv T.length (T.map vTr)
 dP:w.ownsRow 0 4 1 av al.length (al.map Value.bool)
 nR:w.ownsRow 0 3 1 lv fA.length (fA.map (Value.int .i64))
 map:l6 w mb A
 jF:X Hb/\X Cb/\X mb/\(∀k,cv.ownBlock=some k->X k)/\(∀k,tv.ownBlock=some k->X k)/\(∀k,av.ownBlock=some k->X k)/\(∀k,lv.ownBlock=some k->X k)
 Ry:∀h∈ch,h.2.1≠[]->∀a,h.1=some a->X a.block
structure ow (w:World) (F:Nat->Nat->Prop) (X:Nat->Prop) (CB:List (List fB)) (T:List (Option Nat)) (al:List Bool):Prop where
 tr:∀(i:Nat) (h:i<CB.length),CB[i]≠[]->∃tb n0,T[i]? =some (some tb)/\n0<=CB[i].length/\Bk w (F i) tb n0 (uk al CB[i])
 off:∀i k,F i k->¬X k
 ap:∀i j k,F i k->F j k->i=j
 lt:∀i k,F i k->k<w.heap.size
section
variable {w w':World} {X S:Nat->Prop} {F:Nat->Nat->Prop} {Hb Cb mb:Nat} {cv tv av lv:Value} {ch:List Bd} {T:List (Option Nat)} {al:List Bool} {fA:List Int} {A:List fB} {N wk:Int} {CB:List (List fB)}
theorem jw.kept (h:jw w X Hb Cb mb cv tv av lv ch T al fA A N wk) (K:aB S w w') (hS:∀k,X k->¬S k):jw w' X Hb Cb mb cv tv av lv ch T al fA A N wk:=
 ⟨bu K h.blk (hS _ h.jF.1),⟨aT _,h.gp.ds,bu K h.gp.blk (hS _ h.jF.2.1),aU h.gp.row K fun a e=>hS _ (h.jF.2.2.2.1 a e)⟩,h.rows.O7 h.Ry K hS,aU h.jX K fun a e=>hS _ (h.jF.2.2.2.2.1 a e),aU h.dP K fun a e=>hS _ (h.jF.2.2.2.2.2.1 a e),aU h.nR K fun a e=>hS _ (h.jF.2.2.2.2.2.2 a e),h.map.same (K.block _ h.map.lt (hS _ h.jF.2.2.1)),h.jF,h.Ry⟩
theorem jw.below (h:jw w X Hb Cb mb cv tv av lv ch T al fA A N wk) (a:Below w.heap.size w w'):jw w' X Hb Cb mb cv tv av lv ch T al fA A N wk:=h.kept (S:=fun _=>False) ((aB.refl _ _).below a) fun _ _ h=>h
theorem jw.cell (h:jw w X Hb Cb mb cv tv av lv ch T al fA A N wk):w.cell? (ag Hb 0)=some zZ/\w.cell? (ag Hb 1)=some EN/\w.cell? (ag Hb 2)=some (aj Cb)/\w.cell? (ag Hb 3)=some tv/\w.cell? (ag Hb 4)=some av/\w.cell? (ag Hb 5)=some lv/\w.cell? (ag Hb 6)=some (.map (some mb)):=by
 have:=h.blk;refine⟨?_,?_,?_,?_,?_,?_,?_⟩<;>simp[World.cell?,this]
theorem jw.frozen (h:jw w X Hb Cb mb cv tv av lv ch T al fA A N wk) (j:Nat):w.frozen? (ag Hb j)=false:=by
 have:=h.blk;simp[World.frozen?,this]
theorem jw.lt (h:jw w X Hb Cb mb cv tv av lv ch T al fA A N wk):Hb<w.heap.size:=(bg.1 h.blk).1
theorem ow.kept (h:ow w F X CB T al) (K:aB S w w') (hS:∀i k,F i k->¬S k):ow w' F X CB T al:=
 ⟨fun i hi e=>by
  have⟨tb,n0,a,b,c⟩:=h.tr i hi e;exact⟨tb,n0,a,b,c.kept K (hS i)⟩,h.off,h.ap,fun i k d=>cO (h.lt i k d) K.size⟩
theorem yx (h:jw w X Hb Cb mb cv tv av lv ch T al fA A N wk):aK 134 #[aj Hb] w fun e w'=>e=.returned (.bool false)/\w'=w:=by
 obtain⟨-,-,a,-⟩:=h.cell;go_enter func134,ntmps134;go_wp2;go_ret;exact⟨rfl,rfl⟩
theorem Vf (h:jw w X Hb Cb mb cv tv av lv ch T al fA A N wk):aK 60 #[aj Hb] w fun e w'=>e=.returned (ae A.length)/\w'=w:=by
 have a:=af (yx h);obtain⟨-,-,-,-,-,-,b⟩:=h.cell;have c:=h.map.size;go_enter func60,ntmps60
 go_wp2_with (go_at_call 134;refine a.o.mono ?_;rintro e w1 ⟨rfl,rfl⟩)
 go_ret;exact⟨rfl,rfl⟩
theorem Og (h:jw w X Hb Cb mb cv tv av lv ch T al fA A N wk):aK 87 #[aj Hb] w (gD w (ae N)):=by
 have b:=af (yx h);have a:=af (O8 h.gp);obtain⟨-,-,d,-⟩:=h.cell;go_enter func87,ntmps87
 go_wp2_with (first|(go_at_call 134;refine b.o.mono ?_;rintro e w1 ⟨rfl,rfl⟩)|(go_at_call 139;refine a.o.mono ?_;rintro e w1 ⟨rfl,c⟩))
 go_ret;exact⟨rfl,c⟩
end
end
section
open Go.RowKit Go.Sort Go.Shelf Go.Lib Go.Maps
theorem dM {W:World} {base:Nat} {e:TypeId} {sz n:Nat} {v:Value} {xs:List Value} (d:W.ownsRow base e sz v n xs) {k:Nat} (b:v.ownBlock=some k):∃a,W.heap[k]? =some (Obj.cells a e (0,0)):=by
 rcases d.2 with⟨rfl,_⟩|⟨g,f,a,rfl,_,c,_⟩
 .cases b
 .simp only[Value.ownBlock,jH]at b;subst b;exact⟨a,c⟩
theorem Dx {P:Program} {ops:Array Oper} {o:Oper} {a:Act} {K:Act->World->Prop} {Q:Exit->Act->World->Prop} {E0:Prop} {f:FuncId} {w:World} {vals:Array Value} {R:Ending->World->Prop} (j:∀args w,(callFunc f args).run P w=.ok (.enter f args) w) (k:o.guard=none) (c:Operand) (args:Array Operand) (q:Array TypeId) (m:o.op=.call {callee:=.value c,args:=args,argTypes:=q}) (g:a.eval c=.func (.func f) #[] #[]) (d:vals=(args.toList.map a.eval).toArray)
  (C:Calls P f vals w R) (h:∀e w',R e w'->∃v,e=.returned v/\K (a.put o.dst v) w'):
  if Region.wanted o (yielded ops a.tmps)=true then Oper.wp P o a w K Q else E0:=by
 have p:Region.wanted o (yielded ops a.tmps)=true:=by simp[Region.wanted,k]
 rw[aO p];unfold Oper.wp;have b:args.map a.eval=vals:=by rw[d,<-FI]
 have i:(execOp a.eval o).run P w=.ok (.enter f vals) w:=by
  simp[execOp,m,resolve,invoke,b,g,Deferred.ofValue,j]
 rw[i,Oper.upon_enter];refine C.mono fun e w' n=>?_;obtain⟨v,rfl,l⟩:=h e w' n;exact l
abbrev rX:TypeId:=190
abbrev wW (Cb mb:Nat) (tv av lv:Value):Array Value:=#[zZ,EN,aj Cb,tv,av,lv,.map (some mb)]
section
variable {w w' w6:World} {X S:Nat->Prop} {F:Nat->Nat->Prop} {Hb Cb mb:Nat} {cv tv av lv:Value} {ch:List Bd} {T:List (Option Nat)} {al:List Bool} {fA:List Int} {A:List fB} {N wk:Int} {CB:List (List fB)}
theorem jw.more {X':Nat->Prop} (h:jw w X Hb Cb mb cv tv av lv ch T al fA A N wk) (b:∀k,X k->X' k):jw w X' Hb Cb mb cv tv av lv ch T al fA A N wk:=
 ⟨h.blk,h.gp,h.rows,h.jX,h.dP,h.nR,h.map,⟨b _ h.jF.1,b _ h.jF.2.1,b _ h.jF.2.2.1,fun k e=>b _ (h.jF.2.2.2.1 k e),fun k e=>b _ (h.jF.2.2.2.2.1 k e),fun k e=>b _ (h.jF.2.2.2.2.2.1 k e),fun k e=>b _ (h.jF.2.2.2.2.2.2 k e)⟩,fun x d c a e=>b _ (h.Ry x d c a e)⟩
theorem jw.ty (h:jw w X Hb Cb mb cv tv av lv ch T al fA A N wk) {t:TypeId} (K:aB S w w') (hS:∀k,S k->k=Hb\/∃cs fr,w.heap[k]? =some (Obj.cells cs t fr)):
  (t≠278/\t≠213->nK w' 0 Cb cv ch N wk)/\(t≠187->rT w' ch)/\(t≠106->w'.ownsRow 0 106 1 tv T.length (T.map vTr))/\
  (t≠4->w'.ownsRow 0 4 1 av al.length (al.map Value.bool))/\(t≠3->w'.ownsRow 0 3 1 lv fA.length (fA.map (Value.int .i64)))/\l6 w' mb A:=by
 have l:∀{b:Nat} {cs:Array Value} {d:TypeId} {fr:Nat×Nat},w.heap[b]? =some (Obj.cells cs d fr)->d≠rX->t≠d->w'.heap[b]? =w.heap[b]? :=fun{b cs d fr} a f g=>K.block b (bg.1 a).1 fun j=>by
  rcases hS b j with rfl|⟨o,r,i⟩
  .exact eD a h.blk f rfl
  .exact eD i a g rfl
 have c:∀{e:TypeId} {sz n:Nat} {v:Value} {xs:List Value},w.ownsRow 0 e sz v n xs->e≠rX->t≠e->w'.ownsRow 0 e sz v n xs:=fun{e sz n v xs} m f g=>bn m fun y q=>by
  have⟨p,s⟩:=dM m q;exact l s f g
 refine⟨fun ht=>⟨aT _,h.gp.ds,(l h.gp.blk ai ht.1).trans h.gp.blk,c h.gp.row ai ht.2⟩,fun ht=>h.rows.kept fun b p fr a=>l a ai ht,fun ht=>c h.jX ai ht,fun ht=>c h.dP ai ht,fun ht=>c h.nR ai ht,h.map.same ?_⟩;refine K.block _ h.map.lt fun j=>?_;obtain⟨D,⟨x,u,a,-⟩,-⟩:=h.map;rcases hS mb j with e|⟨o,r,i⟩
 .rw[e,h.blk]at a;cases a
 .rw[i]at a;cases a
theorem jw.AB (h:jw w X Hb Cb mb cv tv av lv ch T al fA A N wk) {e:TypeId} {n:Nat} {v:Value} {xs:List Value} (d:w.ownsRow 0 e 1 v n xs) (c:e≠rX):v.ownBlock≠some Hb:=fun a=>by
 have⟨f,b⟩:=dM d a;exact eD h.blk b (fun h=>c h.symm) rfl
theorem jw.V8 (h:jw w X Hb Cb mb cv tv av lv ch T al fA A N wk) {v a:Value} (f:v.ownBlock≠some Hb) (d:a.ownBlock=v.ownBlock\/∃b,a.ownBlock=some b/\w.heap.size<=b):a.ownBlock≠some Hb:=by
 rcases d with e|⟨b,e,d⟩
 .rw[e];exact f
 .rw[e];intro c;injection c with c;have:=h.lt;omega
theorem jw.TU (h:jw w X Hb Cb mb cv tv av lv ch T al fA A N wk) (c:w.grownBy w6 tv.ownBlock) {tv':Value} {T':List (Option Nat)} (m:w6.ownsRow 0 106 1 tv' T'.length (T'.map vTr)) (l:tv'.ownBlock≠some Hb):
  jw (w6.setCell (ag Hb 3) tv') (fun k=>X k\/tv'.ownBlock=some k) Hb Cb mb cv tv' av lv ch T' al fA A N wk:=by
 have b:=h.AB h.jX ai;have d:aB (fun k=>k=Hb\/tv.ownBlock=some k) w (w6.setCell (ag Hb 3) tv'):=(((aB.refl (fun k=>k=Hb\/tv.ownBlock=some k) w).grown c fun k e=>.inl (.inr e)).set _ (.inl (.inl rfl)));obtain⟨t1,t2,-,t4,t5,t6⟩:=h.ty (t:=106) d (fun k j=>j.imp id fun e=>by obtain⟨o,i⟩:=dM h.jX e;exact⟨_,_,i⟩);have g:w6.heap[Hb]? =some (Obj.cells (wW Cb mb tv av lv) rX (0,0)):=(c.block Hb h.lt fun e=>b e.symm).trans h.blk;refine⟨?_,t1 ai,t2 ai,bn m fun p e=>aG fun f=>l (by rw[e,<-f]),t4 ai,t5 ai,t6,⟨.inl h.jF.1,.inl h.jF.2.1,.inl h.jF.2.2.1,fun k e=>.inl (h.jF.2.2.2.1 k e),fun k e=>.inr e,fun k e=>.inl (h.jF.2.2.2.2.2.1 k e),fun k e=>.inl (h.jF.2.2.2.2.2.2 k e)⟩,fun x n b a e=>.inl (h.Ry x n b a e)⟩;rw[dC w6 Hb 3 _ _ _ g];rfl
theorem jw.V9 {g n c:Nat} (h:jw w X Hb Cb mb cv (aC g n c) av lv ch T al fA A N wk) (j:Nat) (x:Option Nat):jw (w.setCell (ag g j) (vTr x)) X Hb Cb mb cv (aC g n c) av lv ch (T.set j x) al fA A N wk:=by
 have i:=h.AB h.jX ai;have b:aB (fun k=>k=g) w (w.setCell (ag g j) (vTr x)):=(aB.refl (fun k=>k=g) w).set _ (.inl rfl);obtain⟨t1,t2,-,t4,t5,t6⟩:=h.ty (t:=106) b (fun k f=>.inr (by obtain⟨l,d⟩:=dM h.jX (k:=k) (by rw[f];rfl);exact⟨_,_,d⟩));obtain rfl:n=T.length:=by
  rcases h.jX.2 with⟨e,_⟩|⟨_,_,_,e,_⟩
  .cases e
  .injection e with _ e
 refine⟨(aG (a:=(ag g j)) fun e:g=Hb=>i (by show some g=_;rw[e])).trans h.blk,t1 ai,t2 ai,?_,t4 ai,t5 ai,t6,h.jF,h.Ry⟩;rw[jg,nu];exact(h.jX.stored j (vTr x)).1
theorem jw.Xl {g n c:Nat} (h:jw w X Hb Cb mb cv tv av (aC g n c) ch T al fA A N wk) (j:Nat) (x:Int):jw (w.setCell (ag g j) (.int .i64 x)) X Hb Cb mb cv tv av (aC g n c) ch T al (fA.set j x) A N wk:=by
 have i:=h.AB h.nR ai;have b:aB (fun k=>k=g) w (w.setCell (ag g j) (.int .i64 x)):=(aB.refl (fun k=>k=g) w).set _ (.inl rfl);obtain⟨t1,t2,t3,t4,-,t6⟩:=h.ty (t:=3) b (fun k f=>.inr (by obtain⟨l,d⟩:=dM h.nR (k:=k) (by rw[f];rfl);exact⟨_,_,d⟩));obtain rfl:n=fA.length:=by
  rcases h.nR.2 with⟨e,_⟩|⟨_,_,_,e,_⟩
  .cases e
  .injection e with _ e
 refine⟨(aG (a:=(ag g j)) fun e:g=Hb=>i (by show some g=_;rw[e])).trans h.blk,t1 ai,t2 ai,t3 ai,t4 ai,?_,t6,h.jF,h.Ry⟩;rw[jg,nu];exact(h.nR.stored j (.int .i64 x)).1
theorem jw.Xm {g n c:Nat} (h:jw w X Hb Cb mb cv tv (aC g n c) lv ch T al fA A N wk) (j:Nat) (x:Bool):jw (w.setCell (ag g j) (.bool x)) X Hb Cb mb cv tv (aC g n c) lv ch T (al.set j x) fA A N wk:=by
 have i:=h.AB h.dP ai;have b:aB (fun k=>k=g) w (w.setCell (ag g j) (.bool x)):=(aB.refl (fun k=>k=g) w).set _ (.inl rfl);obtain⟨t1,t2,t3,-,t5,t6⟩:=h.ty (t:=4) b (fun k f=>.inr (by obtain⟨l,d⟩:=dM h.dP (k:=k) (by rw[f];rfl);exact⟨_,_,d⟩));obtain rfl:n=al.length:=by
  rcases h.dP.2 with⟨e,_⟩|⟨_,_,_,e,_⟩
  .cases e
  .injection e with _ e
 refine⟨(aG (a:=(ag g j)) fun e:g=Hb=>i (by show some g=_;rw[e])).trans h.blk,t1 ai,t2 ai,t3 ai,?_,t5 ai,t6,h.jF,h.Ry⟩;rw[jg,nu];exact(h.dP.stored j (.bool x)).1
theorem jw.QO {f:Value} {g:List Bd} {p u:Int} (h:jw w X Hb Cb mb cv tv av lv ch T al fA A N wk) (K:aB (fun k=>k=Cb\/cv.ownBlock=some k) w w') (d:nK w' 0 Cb f g p u) (i:rT w' g) (B:Nw w.heap.size ch g) (c:f.ownBlock=cv.ownBlock\/f.ownBlock=none\/∃b,f.ownBlock=some b/\w.heap.size<=b):
  jw w' (fun k=>X k\/w.heap.size<=k/\(f.ownBlock=some k\/∃h∈g,h.2.1≠[]/\∃a,h.1=some a/\a.block=k)) Hb Cb mb f tv av lv g T al fA A p u:=by
 have t:∀{b:Nat} {cs:Array Value} {j:TypeId} {fr:Nat×Nat},w.heap[b]? =some (Obj.cells cs j fr)->j≠278->j≠213->w'.heap[b]? =w.heap[b]? :=fun{b cs j fr} c l m=>K.block b (bg.1 c).1 fun h9=>by
  rcases h9 with rfl|h9
  .exact eD c h.gp.blk l rfl
  .obtain⟨q,d⟩:=dM h.gp.row h9;exact eD c d m rfl
 have o:∀{e:TypeId} {sz n:Nat} {v:Value} {xs:List Value},w.ownsRow 0 e sz v n xs->e≠278->e≠213->w'.ownsRow 0 e sz v n xs:=fun{e sz n v xs} i l m=>bn i fun F y=>by
  have⟨q,d⟩:=dM i y;exact t d l m
 refine⟨(t h.blk ai ai).trans h.blk,d,i,o h.jX ai ai,o h.dP ai ai,o h.nR ai ai,h.map.same ?_,⟨.inl h.jF.1,.inl h.jF.2.1,.inl h.jF.2.2.1,fun k e=>?_,fun k e=>.inl (h.jF.2.2.2.2.1 k e),fun k e=>.inl (h.jF.2.2.2.2.2.1 k e),fun k e=>.inl (h.jF.2.2.2.2.2.2 k e)⟩,fun x s r a e=>?_⟩
 .refine K.block _ h.map.lt fun h9=>?_;obtain⟨D,⟨E,C,c,-⟩,-⟩:=h.map;rcases h9 with e|e
  .rw[e,h.gp.blk]at c;cases c
  .obtain⟨q,d⟩:=dM h.gp.row e;rw[d]at c;cases c
 .rcases c with e1|e1|⟨b,e1,c⟩
  .exact .inl (h.jF.2.2.2.1 k (by rw[<-e1];exact e))
  .rw[e1]at e;cases e
  .have:b=k:=by rw[e1]at e;injection e
   exact .inr ⟨aa,.inl e⟩
 .rcases B x s with z|h9
  .exact .inl (h.Ry x z r a e)
  .exact .inr ⟨h9 a e,.inr ⟨x,s,r,a,e,rfl⟩⟩
end
end
section
open Go.RowKit Go.Sort Go.Shelf Go.Lib Go.Maps
attribute [local irreducible] wpQuiet
attribute [local go_sem] Oper.dZ
theorem Wd:eY prog 111 106 1 8:=.mk' (z:=.pointer none) underlying111 aL rfl ai
theorem KZ:eU 52:=bP func52 aL rfl
def Dy (Hb:Nat) (w:World):Nat:=match w.cell? (ag Hb 3)with|some (.slice _ n _)=>n|_=>0
section
variable {w w' w6:World} {X S:Nat->Prop} {F:Nat->Nat->Prop} {Hb Cb mb:Nat} {cv tv av lv:Value} {ch:List Bd} {T:List (Option Nat)} {al:List Bool} {fA:List Int} {A:List fB} {N wk:Int}
theorem jw.Dy (h:jw w X Hb Cb mb cv tv av lv ch T al fA A N wk):Dy Hb w=T.length:=by
 obtain⟨a,b,rfl,-,-,-⟩:=Rd.aD (enc:=vTr) h.jX;unfold Proofs.YtkjdbndekceffaaGreat.Dy;rw[h.cell.2.2.2.1]
def AV (T:List (Option Nat)) (i tb:Nat):List (Option Nat):=(T++List.replicate (i+1-T.length) none).set i (some tb)
def We (w:World) (X:Nat->Prop) (Hb Cb mb:Nat) (cv tv av lv:Value) (ch:List Bd) (T:List (Option Nat)) (al:List Bool) (fA:List Int) (A:List fB) (N wk:Int) (l:List fB) (i:Nat) (e:Ending) (w':World):Prop:=
 e=.returned (.tuple #[])/\∃(tv':Value) (tb m:Nat) (Fn:Nat->Prop),jw w' (fun k=>X k\/w.heap.size<=k/\k<m) Hb Cb mb cv tv' av lv ch (AV T i tb) al (iJ fA l i) A N wk/\Bk w' Fn tb (uk al l).length (uk al l)/\(∀k,Fn k->m<=k)/\(w.heap.size<=m/\m<=w'.heap.size)/\
  (tv'.ownBlock=tv.ownBlock\/∃b,tv'.ownBlock=some b/\w.heap.size<=b)/\aB (fun k=>k=Hb\/tv.ownBlock=some k\/lv.ownBlock=some k) w w'
theorem Mo (h:jw w X Hb Cb mb cv tv av lv ch T al fA A N wk) (a:Option Addr) (c:Nat) (l:List fB) (i:Nat) (bs:M3 w a l) (hi:i<=20) (cP:T.length<=100) (c9:l.length<=5000) (bw:∀c∈l,∃k:Nat,c.2=k/\k<al.length) (bv:fA.length=al.length) (cR:al.length<=10000) (bF:Jw (uk al l)) (hu:(ids (uk al l)).Nodup) (bn:∀k,X k->k<w.heap.size):
  aK 136 #[aj Hb,ae i,.slice a l.length c] w (We w X Hb Cb mb cv tv av lv ch T al fA A N wk l i):=by
 have H:=af h;have bW:Hid (∀W',aB (fun k=>k=Hb\/tv.ownBlock=some k\/lv.ownBlock=some k) w W'->bV lW 4 W' a l):=fun W' K=>(bs.kept fun b bj fr hb=>K.block b (bg.1 hb).1 (by
  rintro(rfl|e|e)
  .exact eD hb h.blk ai rfl
  .obtain⟨bj,aY⟩:=dM h.jX e;exact eD hb aY ai rfl
  .obtain⟨bj,aY⟩:=dM h.nR e;exact eD hb aY ai rfl)).OP
 have bS:=af bw;have b4:=af bF;have b3:=af hu;have a9:=af bv;have b5:=af bn;have cD:Hid (∀m,tv.ownBlock=some m->m<w.heap.size):=fun m e=>(h.jX.lt m e).2;have bR:Hid (∀m,lv.ownBlock=some m->m<w.heap.size):=fun m e=>(h.nR.lt m e).2;clear h bs bw bF hu bv bn;go_enter func136,ntmps136
 go_upto_block 0 with fail
 go_cut []from 10 to 26 (fun D=>∃tv':Value,Hid (jw D (fun b=>X b\/w.heap.size<=b/\b<D.heap.size) Hb Cb mb cv tv' av lv ch (T++List.replicate (i+1-T.length) none) al fA A N wk)/\Hid (tv'.ownBlock=tv.ownBlock\/∃b,tv'.ownBlock=some b/\w.heap.size<=b)/\Hid (aB (fun b=>b=Hb\/tv.ownBlock=some b) w D))
 case first=>
  go_wp2_with fail
  go_loopw [] (fun wr=>∃(k:Nat) (tv':Value),k<=i+1-T.length/\Hid (jw wr (fun b=>X b\/w.heap.size<=b/\b<wr.heap.size) Hb Cb mb cv tv' av lv ch (T++List.replicate k none) al fA A N wk)/\Hid (tv'.ownBlock=tv.ownBlock\/∃b,tv'.ownBlock=some b/\w.heap.size<=b)/\Hid (aB (fun b=>b=Hb\/tv.ownBlock=some b) w wr)) (fun wr=>i+1-Dy Hb wr)
  case atStart=>exact⟨0,tv,aT _,af (by rw[List.replicate_zero,je];exact H.o.more fun k hk=>.inl hk),.inl rfl,aB.refl _ _⟩
  case round=>
   obtain⟨k,tv',hk,d,E,B⟩:=hrel;obtain⟨cw,tc,F,-,dc,-⟩:=Rd.aD (enc:=vTr) d.o.jX;obtain⟨-,-,-,aw,-⟩:=d.o.cell;have cA:=af d.o.Dy;have bu:(T++List.replicate k (none:Option Nat)).length=T.length+k:=ax;by_cases c7:T.length+k<=i
   .have bD:=d.o.jX;have bO:Hid (∀z,wr.grownBy z tv'.ownBlock->z.heap[Hb]? =some (Obj.cells (wW Cb mb tv' av lv) rX (0,0))):=fun z u=>(u.block Hb d.o.lt fun e=>d.o.AB d.o.jX ai e.symm).trans d.o.blk;have cE:=B.o.size;rw[bu]at bD F;subst F
    go_wp2_with (at_builtin;go_loud (refine cB Wd 0 bD [.pointer none] rfl (by simp[Value.oneCell']) rfl _ _ rfl rfl _ rfl dE aa (aT _) ?_;intro cx z ac u aW;obtain⟨M,az,rfl,cT,cU,cV,cW⟩:=aS ac aa;have bG:=bO.o z u;have dh:z.cell? (ag Hb 3)=some (.slice cw (T.length+k) tc):=(aI bG);have di:z.frozen? (ag Hb 3)=false:=(aI bG)))
    have cq:z.ownsRow 0 106 1 (aC M (T.length+k+1) az) (T++List.replicate (k+1) none).length ((T++List.replicate (k+1) none).map vTr):=by
     rw[bQ,iM,<-vW,sJ,<-dW,bJ (l₁:=T++_)];exact ac
    have aV:=gy aW;have br:=d.o.TU u cq (d.o.V8 (d.o.AB d.o.jX ai) aV);have c1:=u.size;have bo:Value.ownBlock (aC M (T.length+k+1) az)=tv.ownBlock\/∃b,Value.ownBlock (aC M (T.length+k+1) az)=some b/\w.heap.size<=b:=by
     rcases aV with f|⟨b,f,aQ⟩
     .rw[f];exact E.o
     .exact .inr ⟨b,f,aa⟩
    have a5:=af br;have a4:=af bo;clear aV aW br bo;go_roundw
    case rel=>
     refine⟨k+1,_,aa,a5.o.more ?_,a4,(B.o.grown u ?_).set (a:=(ag Hb 3)) _ (.inl (.inl rfl))⟩
     .rintro b ((hb|hb)|hb)
      .exact .inl hb
      .exact .inr ⟨hb.1,aH⟩
      .have aE:M=b:=by injection hb
       rcases a4.o with f|⟨be,f,aQ⟩
       .exact .inl (H.o.jF.2.2.2.2.1 b (f.symm.trans hb))
       .have cM:M=be:=by injection f
        exact .inr ⟨aa,aH⟩
     .intro b hb;rcases E.o with f|⟨be,f,aQ⟩
      .exact .inl (.inr (f.symm.trans hb))
      .rw[f]at hb;injection hb with hb;exact .inr aa
    case measure=>
     rw[a5.o.Dy,d.o.Dy];simp;omega
   .have e:k=i+1-T.length:=aa;subst e;have cL:¬((T.length+(i+1-T.length):Nat):Int)<=(i:Int):=aa;rw[bu]at F;subst F
    go_wp2_with fail
    go_meet;exact⟨_,d,E,B⟩
 case rest=>
  obtain⟨tv',d,E,B⟩:=hcut;obtain⟨w1,cf⟩:∃w1:World,w1=wc:=⟨_,rfl⟩;subst cf;have cQ:(T++List.replicate (i+1-T.length) (none:Option Nat)).length=max T.length (i+1):=aH;have b2:Hid (∀tb,(T++List.replicate (i+1-T.length) (none:Option Nat)).set i (some tb)=AV T i tb):=fun tb=>rfl;generalize T++List.replicate (i+1-T.length) (none:Option Nat)=ab at*;have cr:=B.o.size
  go_upto_block 2 with fail
  go_cut [7,9,29]from 30 to 54 (fun pv cN an D=>∃y:Value,y=pv/\Hid (jw D (fun b=>X b\/w.heap.size<=b/\b<w1.heap.size) Hb Cb mb cv tv' av lv ch ab al (iJ fA l i) A N wk)/\Hid (D.ownsRow w1.heap.size 29 3 y (uk al l).length ((uk al l).flatMap bX))/\Hid (aB (fun b=>lv.ownBlock=some b) w1 D))
  case first=>
   go_wp2_with fail
   go_loopw [29,7] (fun an pv wr=>∃(j:Nat) (y:Value),an=.int .i64 j/\y=pv/\j<=l.length/\Hid (jw wr (fun b=>X b\/w.heap.size<=b/\b<w1.heap.size) Hb Cb mb cv tv' av lv ch ab al (iJ fA (l.take j) i) A N wk)/\Hid (wr.ownsRow w1.heap.size 29 3 y (uk al (l.take j)).length ((uk al (l.take j)).flatMap bX))/\Hid (aB (fun b=>lv.ownBlock=some b) w1 wr)) (fun an _ _=>l.length-(intOf an).toNat)
   case atStart=>exact⟨0,_,rfl,rfl,aT _,d,cZ _ _ _ _,aB.refl _ _⟩
   case round=>
    obtain⟨j,y,rfl,rfl,c3,I,HO,U⟩:=hrel;have db:=U.o.size;by_cases C:j<l.length
    .obtain⟨cG,de,cb,cS,P⟩:=(bW.o wr ((B.o.mono fun k h=>h.imp id .inl).trans (U.o.mono fun k h=>.inr (.inr h)))).get aa;have a0:=P j C 0 aa;have x1:=P j C 1 aa;have x2:=P j C 2 aa;have a1:=P j C 3 aa;simp only[lW,eG,eQ,df]at a0 x1 x2 a1;obtain⟨q,am,bx⟩:=bS.o l[j] (bC C);have co:(iJ fA (l.take j) i).length=al.length:=by rw[nO];exact a9.o
     obtain⟨gl,lc,bk,-,cY,-,-⟩:=aS I.o.nR aa;rw[co]at bk;obtain⟨cH,b6,cc,-,-,bz⟩:=Rd.aD I.o.dP;obtain⟨lb,lo,cd,c6,bt⟩:=bz.get aa;have a2:=bt q bx;have L:Hid (uk al (l.take (j+1))=uk al (l.take j)++(if al[q]=true then[(l[j]).1]else[])):=by
      show _=_;unfold uk;rw[gT C,kW,bJ];congr 1;unfold dx;rw[lT,am];simp only[iD,cK bx];cases al[q]<;>simp
     have bb:Hid (iJ fA (l.take (j+1)) i=(iJ fA (l.take j) i).set q i):=by
      show _=_;rw[gT C,Il,am,iD]
     have c5:(uk al (l.take j)).length<=5000:=by
      unfold uk;rw[bK];have O:=fq (dx al) (l.take j);have aP:(l.take j).length<=l.length:=by rw[dO];omega
      omega
     rw[am]at a1;clear P bt bz am;generalize uk al (l.take j)=cF at*;generalize cn:iJ fA (l.take j) i=bd at*;have cp:bd.length=al.length:=by rw[<-cn,nO];exact a9.o
     generalize al[q]=bf at*;generalize l[j]=x at*;obtain⟨⟨s,t,r⟩,dg⟩:=x;simp only at a0 x1 x2 L;subst cb cd cc bk;have c0:=bR.o gl rfl;have da:(q:Int)<(al.length:Int):=aa;have c4:(j:Int)<(l.length:Int):=aa;have S:Below wr.heap.size wr (wr.alloc (.cells #[ae s,ae t,ak r,ae q] 187)):=(aJ _ _).alloc (aA _) _;have aZ:(wr.alloc (.cells #[ae s,ae t,ak r,ae q] 187)).heap[wr.heap.size]? =some (.cells #[ae s,ae t,ak r,ae q] 187 (0,0)):=bY _ _;have ct:(wr.alloc (.cells #[ae s,ae t,ak r,ae q] 187)).heap.size=wr.heap.size+1:=ax;have a3:=(S.cell (p:=(ag lb (lo+q))) (iF wr _ a2)).trans a2;have J:=af (I.o.below S);have ar:=af (HO.o.alloc (.cells #[ae s,ae t,ak r,ae q] 187));have a7:Hid (aB (fun b=>Value.ownBlock (aC gl al.length lc)=some b) w1 (wr.alloc (.cells #[ae s,ae t,ak r,ae q] 187))):=U.o.below S
     go_wp2_with fail
     generalize(wr.alloc (.cells #[ae s,ae t,ak r,ae q] 187))=n at*;clear a0 x1 x2 a1 a2 S;obtain⟨-,-,-,-,-,bi,-⟩:=J.o.cell;have ck:=ah bi;have aM:=ah (w:=n) (ad:=(ag wr.heap.size 3)) (v:=.int .i64 q) (ek aZ);have Q:=J.o.nR;rw[cp]at Q;have bM:=Q.cellAt q aa;rw[cK (by rw[bK];omega)]at bM;have ci:=Q.frozenAt q;have cC:=af (Q.lt gl rfl).2;clear Q;refine au (fun W=>∃p:aR n,W=p.W) [7,8] [(0,false),(1,false),(2,false),(3,true),(4,false),(5,true),(6,false)] ⟨⟨_,(aJ _ _).drew⟩,rfl⟩ 2 ?_;refine aF [7,8] ?_;clear ck aM bi;have bc:=af (J.o.Xl q i);have ao:(n.setCell (ag gl q) (.int .i64 i)).heap[wr.heap.size]? =some (.cells #[ae s,ae t,ak r,ae q] 187 (0,0)):=(aG (a:=(ag gl q)) (fun e:gl=wr.heap.size=>aa)).trans aZ;have Z:aB (fun k=>k=gl) n (n.setCell (ag gl q) (.int .i64 i)):=(aB.refl (fun k=>k=gl) n).set _ (.inl rfl);have cy:(n.setCell (ag gl q) (.int .i64 i)).cell? (ag lb (lo+q))=some (.bool bf):=(dJ (Z.block lb (iF _ _ a3) (by
      intro e;obtain⟨cI,O⟩:=dM J.o.dP (k:=lb) rfl;obtain⟨cJ,aP⟩:=dM J.o.nR (k:=gl) rfl;exact eD O aP ai e))).trans a3
     have bU:=af (aU ar.o Z (fun m e (h:m=gl)=>by have:=(ar.o.lt m e).1;omega));have V:Hid (aB (fun b=>Value.ownBlock (aC gl al.length lc)=some b) w1 (n.setCell (ag gl q) (.int .i64 i))):=a7.o.trans (Z.mono fun k h=>by rw[h];rfl);have cu:(n.setCell (ag gl q) (.int .i64 i)).heap.size=n.heap.size:=ax;have b1:Hid (w1.heap.size<=(n.setCell (ag gl q) (.int .i64 i)).heap.size):=by show _<=_;omega
     clear aZ Z a3 cu ct
     go_wp2_with fail
     generalize n.setCell (ag gl q) (.int .i64 i)=g at*;clear bM ci ar a7;obtain⟨-,-,-,-,b7,-,-⟩:=bc.o.cell;have b8:g.cell? (ag wr.heap.size 0)=some (ae s):=ek ao;have b9:g.cell? (ag wr.heap.size 1)=some (ae t):=ek ao;have ca:g.cell? (ag wr.heap.size 2)=some (ak r):=ek ao;have aE:g.cell? (ag wr.heap.size 3)=some (ae q):=ek ao;have ba:=af (bc.o.below ((aJ _ _).drew).drew);have a8:Hid (aB (fun b=>Value.ownBlock (aC gl al.length lc)=some b) w1 g.drew.drew):=V.o.drew.drew;have Y:=af ((bU.o.aX 1).aX 1);have cm:=ah (w:=g.drew) b7;have cl:=ah (w:=g.drew) aE;have cs:=ah (w:=g.drew) cy;refine au (fun W=>∃p:aR g.drew,W=p.W) [] [(0,false),(1,false),(2,false),(3,true),(4,false),(5,true),(6,false),(7,true)] ⟨⟨_,(aJ _ _).drew⟩,rfl⟩ 0 ?_;refine jo aL ?_;clear cm cl cs;cases bf
     .rw[aN ai,je]at L;go_wp2;go_roundw
      case rel=>exact⟨j+1,_,by go_num,rfl,aa,by rw[bb.o];exact ba,by rw[L.o];exact Y,a8⟩
      case measure=>exact bZ
     .rw[aO rfl]at L;have f0:g.drew.drew.cell? (ag wr.heap.size 0)=some (ae s):=b8;have f1:g.drew.drew.cell? (ag wr.heap.size 1)=some (ae t):=b9;have f2:g.drew.drew.cell? (ag wr.heap.size 2)=some (ak r):=ca
      go_wp2_with (at_builtin;go_loud (refine cB zL w1.heap.size Y.o [.int .i64 s,.int .i64 t,.int .u32 r] rfl (by simp[Value.oneCell']) rfl _ _ rfl rfl _ (by first|rfl|(show aC g.heap.size 1 1=_;simp)) dE aa b1.o ?_;intro cx w6 ac u aW))
      have bP:Hid (aB (fun b=>Value.ownBlock (aC gl al.length lc)=some b) w1 w6):=a8.o.grown u (fun b hb=>.inr (Y.o.lt b hb).1);have b0:Hid (jw w6 (fun b=>X b\/w.heap.size<=b/\b<w1.heap.size) Hb Cb mb cv tv' (.slice (some (ag lb lo)) al.length b6) (aC gl al.length lc) ch ab al (bd.set q i) A N wk):=ba.o.kept ((aB.refl (fun b=>y.ownBlock=some b) g.drew.drew).grown u fun b hb=>.inl hb) (fun k hk e=>by
       have O:=(Y.o.lt k e).1;rcases hk with hk|hk
       .have:=b5.o k hk;omega
       .omega)
      go_roundw
      case rel=>exact⟨j+1,_,by go_num,rfl,aa,by rw[bb.o];exact b0,by rw[L.o,bQ,gZ];exact ac,bP⟩
      case measure=>exact bZ
    .obtain rfl:j=l.length:=aa;rw[iE]at I HO;have cX:¬(l.length:Int)<(l.length:Int):=aa
     go_wp2_with fail
     go_meet;exact⟨_,rfl,I,HO,U⟩
  case rest=>
   obtain⟨y,rfl,ap,bT,a6⟩:=hcut;obtain⟨w2,cg⟩:∃w2:World,w2=wc:=⟨_,rfl⟩;subst cg;have bE:=a6.o.size;obtain⟨G,tc,F,-,c2,-,-⟩:=aS ap.o.jX aa;subst F;obtain⟨bH,bI,ce,-,-,bB⟩:=bV.aD bq ai bT.o;subst ce;have c8:(uk al l).length<=5000:=by
    unfold uk;rw[bK];have O:=fq (dx al) l;omega
   have CB:=af (fun p:aR w2=>Ve bH bI (uk al l) p.W (bB.below p.h) aa b4.o b3.o);obtain⟨bh,-,-,aw,-,-,-⟩:=ap.o.cell;have cj:=ah bh;have aM:=ah aw;clear bh aw;have dd:(i:Int)<(ab.length:Int):=aa
   go_wp2_with fail
   refine au (fun W=>∃p:aR w2,W=p.W) [11,12] [(0,false),(1,false),(2,false),(3,true),(4,false),(5,false),(6,false),(7,false),(8,true),(9,false)] ⟨⟨_,(aJ _ _).drew⟩,rfl⟩ 3 ?_;clear cj aM;refine ay 10 rfl fun K bm=>?_;refine Dx KZ rfl _ _ _ rfl rfl (vals:=#[.slice bH (uk al l).length bI]) rfl (CB.o ⟨_,(aJ _ _).drew⟩) ?_;rintro e bL ⟨tb,rfl,bl,bp⟩;have R:Below w2.heap.size w2 bL:=(aJ _ _).drew.trans bp;refine⟨_,rfl,?_⟩;refine bm _ _ (fun _ _=>⟨⟨_,R⟩,rfl⟩) ?_;clear bm K;have bN:=af bl;have aq:=af (ap.o.below R);have cz:=aq.o.jX.cellAt i aa;rw[cK (by rw[bK];omega)]at cz;have cO:=aq.o.jX.frozenAt i;have V:=af R;clear bl bp R CB bB;refine aF [11,12] ?_;go_wp2
   go_end0
   have hP:=aq.o.V9 i (some tb);rw[b2.o]at hP;refine⟨rfl,_,tb,w1.heap.size,_,hP,bN.o.kept ((aB.refl (fun k=>k=G) bL).set (a:=(ag G i)) _ (.inl rfl)) (fun k hk h=>?_),fun k hk=>bA bE hk.1,⟨cr,by have:=V.o.size;simp;omega⟩,E.o,?_⟩
   .have O:=(d.o.jX.lt G rfl).2;have aP:=bA bE hk.1;omega
   .refine(((B.o.mono fun k h=>h.imp id .inl).trans (a6.o.mono fun k h=>.inr (.inr h))).below V.o).set (a:=(ag G i)) _ ?_;rcases E.o with f|⟨b,f,aQ⟩
    .exact .inl (.inr (.inl f.symm))
    .have aE:G=b:=by injection f
     exact .inr (show w.heap.size<=G by omega)
end
end
section
open Go.RowKit Go.Sort Go.Shelf Go.Lib Go.Maps
attribute [local irreducible] wpQuiet
def eB (CB:List (List fB)) (m:Nat):List Nat:=((List.range CB.length).drop m).reverse.filter fun i=>!(CB.getD i []).isEmpty
theorem Oh (CB:List (List fB)):eB CB CB.length=[]:=by
 unfold eB;rw[o8 ax];rfl
theorem K3 (CB:List (List fB)) (k:Nat) (h:k<CB.length):eB CB k=eB CB (k+1)++if CB[k]=[]then[]else[k]:=by
 unfold eB;rw[ky (aQ h),BM,kW];congr 1;rw[yS,lT,jA,cK h,ic];by_cases e:CB[k]=[]
 .simp[e]
 .simp[e]
theorem z8 (CB:List (List fB)) (m:Nat):(eB CB m).length<=CB.length:=by
 unfold eB;refine bA (fq _ _) ?_;simp
def TV (T:List (Option Nat)) (k:Nat):Value:=vTr (T.getD k none)
section
variable {w w':World} {X S:Nat->Prop} {F:Nat->Nat->Prop} {Hb Cb mb:Nat} {cv tv av lv:Value} {ch:List Bd} {T:List (Option Nat)} {al:List Bool} {fA:List Int} {A:List fB} {N wk:Int}
theorem QP (h:jw w X Hb Cb mb cv tv av lv ch T al fA A N wk) (E:oP (ch.map (·.2.1)) al A N) (ab:∀(i:Nat) (hi:i<(ch.map (·.2.1)).length),(ch.map (·.2.1))[i]≠[]->i<T.length):
  aK 61 #[aj Hb] w fun e w'=>∃v,e=.returned v/\w'.ownsRow w.heap.size 106 1 v (eB (ch.map (·.2.1)) 0).length ((eB (ch.map (·.2.1)) 0).map (TV T))/\Below w.heap.size w w':=by
 have H:=af h;have P:=af E;have M:=af ab;have aw:ch.length<=13:=by have:=E.levels.1;simpa using this
 have I:=af (yx h);have G:=af (zu h.gp aa);obtain⟨-,-,S,-⟩:=h.cell;have O:Hid (∀m,(eB (ch.map (·.2.1)) m).length<=13):=fun m=>by have:=z8 (ch.map (·.2.1)) m;rw[bK]at this;show _<=_;omega
 go_enter func61,ntmps61
 go_wp2_with (first|(go_at_call 134;refine I.o.mono ?_;rintro e w1 ⟨rfl,x⟩;have W:=x.symm;clear x;subst W)|(go_at_call 141;refine G.o.mono ?_;rintro e w2 ⟨rfl,C⟩;have K:=af C;clear C))
 go_loopw [4,3] (fun q ao wr=>∃(m:Nat) (lw:Value),q=.int .i64 ((m:Int)-1)/\lw=ao/\m<=ch.length/\Hid (wr.ownsRow w.heap.size 106 1 lw (eB (ch.map (·.2.1)) m).length ((eB (ch.map (·.2.1)) m).map (TV T)))/\Hid (Below w.heap.size w wr)) (fun q _ _=>(intOf q+1).toNat)
 case atStart=>exact⟨ch.length,_,by go_num,rfl,aA _,by have:=Oh (ch.map (·.2.1));rw[bK]at this;rw[this];exact cZ _ _ _ _,K⟩
 case round=>
  obtain⟨m,lw,rfl,rfl,aF,HO,c⟩:=hrel;rcases nW m with AQ|AQ
  .subst AQ
   go_wp2_with fail
   go_ret;exact⟨_,rfl,HO.o,c.o⟩
  .obtain⟨k,rfl⟩:∃k,m=k+1:=⟨m-1,aa⟩;have ad:(((k+1:Nat):Int)-1)=(k:Int):=aa;rw[ad];have aC:(0:Int)<=(k:Int):=aa;have n:k<(ch.map (·.2.1)).length:=by rw[bK];omega
   have a:=af (K3 (ch.map (·.2.1)) k n);have B:=M.o k n;rw[gq]at a B;have ae:k<ch.length:=aa;have aI:ch[k].2.1.length<=5000:=by
    have:=P.o.few k n;rwa [gq]at this
   have d:=af (H.o.below c.o);have CB:=af (zw d.o.gp d.o.rows aa k ae aa);obtain⟨-,-,S,-⟩:=d.o.cell;generalize ch[k].2.1=lk at*;have aE:=O.o (k+1);generalize eB (ch.map (·.2.1)) (k+1)=L at*;obtain⟨F,Y⟩:∃F:World,F=wr:=⟨_,rfl⟩;subst Y;have ak:=c.o.size
   go_wp2_with fail
   refine CB.o.mono ?_;rintro e w3 ⟨aL,rfl,ai,f⟩;have aH:=f.size;have r:Hid (Below w.heap.size w w3):=c.o.trans (f.mono ak);have l:=af (az HO.o f);obtain⟨aq,ar,V,-,-,-⟩:=M3.aD ai;subst V;have j:=af (d.o.below f);by_cases g:lk=[]
   .subst g;rw[aO rfl,je]at a;have am:¬(0:Int)<((([]:List fB).length:Nat):Int):=ax;go_wp2;go_roundw
    case rel=>exact⟨k,_,by go_num,rfl,aa,by rw[a.o];exact l,r⟩
    case measure=>simp[intOf]
   .rw[aN g]at a;have D:=B g;have aG:0<lk.length:=Bv.2 g;have am:(0:Int)<((lk.length:Nat):Int):=aa;obtain⟨Z,tc,u,-,ay,-,-⟩:=aS j.o.jX aa;have ap:w3.cell? (ag Z k)=some (TV T k):=by
     have y:=j.o.jX;rw[u]at y;have z:=y.cellAt k aa;rw[ib,cK D]at z;unfold TV;rw[jA,cK D];exact z
    have Q:Hid (∃p,TV T k=.pointer p):=by
     unfold TV vTr;split<;>exact⟨_,rfl⟩
    have⟨an,t⟩:=Q.o;have J:=af t;obtain⟨-,-,-,U,-⟩:=j.o.cell;rw[u]at U;rw[t]at ap;have aB:(k:Int)<(T.length:Int):=aa;have s:Hid (w.heap.size<=w3.heap.size):=by show _<=_;omega
    go_wp2_with (at_builtin;refine cB Wd w.heap.size l.o [.pointer an] rfl (by simp[Value.oneCell']) rfl _ _ rfl rfl _ rfl dE aa s.o ?_;intro aJ w6 ah ac au)
    have R:Below w.heap.size w w6:=r.o.grown ac (by have:=s.o;omega) (fun b e=>(l.o.lt b e).1);go_roundw
    case rel=>exact⟨k,_,by go_num,rfl,aa,by rw[a.o,bQ,bJ,mG,qG,J.o];exact ah,R⟩
    case measure=>simp[intOf]
end
end
section
open Go.RowKit Go.Sort Go.Shelf Go.Lib Go.Maps
attribute [local irreducible] wpQuiet
attribute [local go_sem] Oper.dZ
def lg (al:List Bool) (CB:List (List fB)) (m:Nat):List fB:=((CB.drop m).reverse.flatten).filter (dx al)
theorem Oi (al:List Bool) (CB:List (List fB)):lg al CB CB.length=[]:=by unfold lg;rw[List.drop_length];rfl
theorem K4 (al:List Bool) (CB:List (List fB)) (k:Nat) (h:k<CB.length):lg al CB k=lg al CB (k+1)++CB[k].filter (dx al):=by
 unfold lg;rw[ky h,BM,lN,kW];simp
theorem EO (al:List Bool) (CB:List (List fB)) (m:Nat):(lg al CB m).length<=CB.flatten.length:=by
 unfold lg;refine bA (fq _ _) ?_;rw[((vP (CB.drop m)).flatten).length_eq];have a:(CB.take m).flatten++(CB.drop m).flatten=CB.flatten:=by rw[<-lN,jd]
 have:=congrArg List.length a;rw[bQ]at this;omega
section
variable {w w':World} {X S:Nat->Prop} {F:Nat->Nat->Prop} {Hb Cb mb:Nat} {cv tv av lv:Value} {ch:List Bd} {T:List (Option Nat)} {al:List Bool} {fA:List Int} {A:List fB} {N wk:Int} {A':List fB}
theorem QQ (h:jw w X Hb Cb mb cv tv av lv ch T al fA A N wk) (V:oP (ch.map (·.2.1)) al A' N):
  aK 213 #[aj Hb] w fun e w'=>∃v,e=.returned v/\w'.ownsRow w.heap.size 187 4 v (lg al (ch.map (·.2.1)) 0).length ((lg al (ch.map (·.2.1)) 0).flatMap lW)/\Below w.heap.size w w':=by
 have H:=af h;have ax:=af V;have U:=V.levels;have bx:ch.length<=13:=by have:=U.1;simpa using this
 have aZ:Hid (∀m,(lg al (ch.map (·.2.1)) m).length<=5000):=fun m=>bA (EO _ _ _) U.2.1;have aV:=af (zu h.gp aa);obtain⟨-,-,aB,-⟩:=h.cell;clear h V U;go_enter func213,ntmps213
 go_wp2_with (go_at_call 141;refine aV.o.mono ?_;rintro e w2 ⟨rfl,aG⟩;have aW:=af aG;clear aG)
 go_loopw [4,3] (fun W ab wr=>∃(m:Nat) (lw:Value),W=.int .i64 ((m:Int)-1)/\lw=ab/\m<=ch.length/\Hid (wr.ownsRow w.heap.size 187 4 lw (lg al (ch.map (·.2.1)) m).length ((lg al (ch.map (·.2.1)) m).flatMap lW))/\Hid (Below w.heap.size w wr)) (fun W _ _=>(intOf W+1).toNat)
 case atStart=>exact⟨ch.length,_,by go_num,rfl,aA _,by have:=Oi al (ch.map (·.2.1));rw[bK]at this;rw[this];exact cZ _ _ _ _,aW⟩
 case round=>
  obtain⟨m,lw,rfl,rfl,bJ,HO,u⟩:=hrel;rcases nW m with AQ|AQ
  .subst AQ;have bz:¬(0:Int)<=((0:Nat):Int)-1:=aa
   go_wp2_with fail
   go_ret;exact⟨_,rfl,HO.o,u.o⟩
  .obtain⟨k,rfl⟩:∃k,m=k+1:=⟨m-1,aa⟩;have bj:(((k+1:Nat):Int)-1)=(k:Int):=aa;rw[bj];have bG:(0:Int)<=(k:Int):=aa;have aI:k<(ch.map (·.2.1)).length:=by rw[bK];omega
   have aw:=af (K4 al (ch.map (·.2.1)) k aI);have aM:k<ch.length:=aa;have bN:ch[k].2.1.length<=5000:=by
    have:=ax.o.few k aI;rwa [gq]at this
   have a0:Hid (∀x∈ch[k].2.1,∃k:Nat,x.2=(k:Int)/\k<al.length):=fun x bm=>ax.o.num (qz.2 ⟨_,dD.2 ⟨_,bC aM,rfl⟩,bm⟩);have O:=af (H.o.below u.o);have CB:=af (zw O.o.gp O.o.rows aa k aM aa);obtain⟨-,-,aB,-⟩:=O.o.cell;rw[gq]at aw;generalize ch[k].2.1=lk at*;have bI:=aZ.o (k+1);generalize lg al (ch.map (·.2.1)) (k+1)=L at*;obtain⟨F,bd⟩:∃F:World,F=wr:=⟨_,rfl⟩;subst bd;have bl:=u.o.size
   go_wp2_with fail
   refine CB.o.mono ?_;rintro e w3 ⟨bp,rfl,B,z⟩;have bM:=z.size;have aY:Hid (Below w.heap.size w w3):=u.o.trans (z.mono bl);have a1:=af (az HO.o z);have a4:Hid (∀a,bp.ownBlock=some a->lw.ownBlock≠some a):=fun a e i=>by
    have aF:=(B.lt a e).1;have be:=(HO.o.lt a i).2;omega
   have a2:=af B;obtain⟨ay,s,S,-,-,-⟩:=M3.aD B;subst S;clear B z CB aB
   go_wp2_with fail
   go_loopw [24,3] (fun Y ab wr=>∃(j:Nat) (D:Value),Y=.int .i64 j/\D=ab/\j<=lk.length/\Hid (wr.ownsRow w.heap.size 187 4 D (L++(lk.take j).filter (dx al)).length ((L++(lk.take j).filter (dx al)).flatMap lW))/\Hid (wr.ownsRow F.heap.size 187 4 (.slice ay lk.length s) lk.length (lk.flatMap lW))/\Hid (∀a,Value.ownBlock (.slice ay lk.length s)=some a->D.ownBlock≠some a)/\Hid (Below w.heap.size w wr)) (fun Y _ _=>lk.length-(intOf Y).toNat)
   case atStart=>exact⟨0,_,rfl,rfl,aT _,by rw[lh,FO,je];exact a1,a2,a4,aY⟩
   case round=>
    obtain⟨j,D,rfl,rfl,bD,I,aq,K,y⟩:=hrel;have aU:=y.o.size;by_cases n:j<lk.length
    .obtain⟨bt,bu,R,-,-,aS⟩:=M3.aD aq.o;injection R with R _ S;subst R S;obtain⟨Q,Z,ba,bw,t⟩:=aS.OP.get aa;have ac:=t j n 0 aa;have x1:=t j n 1 aa;have x2:=t j n 2 aa;have ad:=t j n 3 aa;simp only[lW,eG,eQ,df]at ac x1 x2 ad;obtain⟨q,C,aQ⟩:=a0.o lk[j] (bC n);have P:=H.o.below y.o;obtain⟨la,lc,bc,-,-,aR⟩:=Rd.aD P.dP;obtain⟨lb,lo,bb,bH,aP⟩:=aR.get aa;have am:=aP q aQ;obtain⟨-,-,-,-,an,-⟩:=P.cell;have r:Hid (L++(lk.take (j+1)).filter (dx al)=(L++(lk.take j).filter (dx al))++(if al[q]=true then[lk[j]]else[])):=by
      show _=_;rw[gT n,kW,<-dW];congr 1;unfold dx;rw[lT,C];simp only[iD,cK aQ];cases al[q]<;>simp
     have bF:(L++(lk.take j).filter (dx al)).length<=5000+5000:=by
      rw[bQ];have aF:=fq (dx al) (lk.take j);have be:(lk.take j).length<=lk.length:=by rw[dO];omega
      omega
     rw[C]at ad;have M:=af C;clear t aP C aR aS P;generalize L++(lk.take j).filter (dx al)=bs at*;generalize al[q]=a7 at*;generalize lk[j]=x at*;obtain⟨⟨f,g,d⟩,bO⟩:=x;simp only at ac x1 x2 r M;obtain rfl:=M.o;clear M;subst ba bb bc;have bE:(j:Int)<(lk.length:Int):=aa;have bL:(q:Int)<(al.length:Int):=aa;have G:Below wr.heap.size wr (wr.alloc (.cells #[ae f,ae g,ak d,ae q] 187)):=(aJ _ _).alloc (aA _) _;have E:(wr.alloc (.cells #[ae f,ae g,ak d,ae q] 187)).heap[wr.heap.size]? =some (.cells #[ae f,ae g,ak d,ae q] 187 (0,0)):=bY _ _;have ap:Hid (w.heap.size<=(wr.alloc (.cells #[ae f,ae g,ak d,ae q] 187)).heap.size):=by show _<=_;simp;omega
     have bq:=(G.cell (p:=(ag lb (lo+q))) (iF wr _ am)).trans am;have br:=(G.cell (p:=(ag Hb 4)) (iF wr _ an)).trans an;have ar:=af (I.o.alloc (.cells #[ae f,ae g,ak d,ae q] 187));have J:=af (aq.o.alloc (.cells #[ae f,ae g,ak d,ae q] 187));have ao:=af (y.o.alloc aU (.cells #[ae f,ae g,ak d,ae q] 187));clear aU
     go_wp2_with fail
     generalize(wr.alloc (.cells #[ae f,ae g,ak d,ae q] 187))=c at*;clear ac x1 x2 ad G am an;have a8:c.cell? (ag wr.heap.size 0)=some (ae f):=ek E;have a9:c.cell? (ag wr.heap.size 1)=some (ae g):=ek E;have i:c.cell? (ag wr.heap.size 2)=some (ak d):=ek E;have aE:c.cell? (ag wr.heap.size 3)=some (ae q):=ek E;have bg:=ah (w:=c) br;have bf:=ah (w:=c) aE;have bn:=ah (w:=c) bq;refine lq [(0,false),(1,false),(2,false),(3,true),(4,false),(5,true),(6,false),(7,true)] 0 ?_;refine jo aL ?_;clear bg bf bn;cases a7
     .rw[aN ai,je]at r;go_wp2;go_roundw
      case rel=>exact⟨j+1,_,by go_num,rfl,aa,by rw[r.o];exact ar.o.aX 1,J.o.aX 1,K,ao.o.drew⟩
      case measure=>exact bZ
     .rw[aO rfl]at r;have au:=af (ar.o.aX 1);have f0:c.drew.cell? (ag wr.heap.size 0)=some (ae f):=a8;have f1:c.drew.cell? (ag wr.heap.size 1)=some (ae g):=a9;have f2:c.drew.cell? (ag wr.heap.size 2)=some (ak d):=i;have f3:c.drew.cell? (ag wr.heap.size 3)=some (ae q):=aE
      go_wp2_with (at_builtin;go_loud (refine cB Hw w.heap.size au.o [.int .i64 f,.int .i64 g,.int .u32 d,.int .i64 q] rfl (by simp[Value.oneCell']) rfl _ _ rfl rfl _ (by first|rfl|(show aC c.heap.size 1 1=_;simp)) dE aa ap.o ?_;intro bo w6 bk aH bi))
      have a6:Below w.heap.size w w6:=ao.o.drew.grown aH (by have:=ap.o;exact this) (fun b e=>(au.o.lt b e).1);have a3:Hid (w6.ownsRow F.heap.size 187 4 (.slice (some (ag Q Z)) lk.length s) lk.length (lk.flatMap lW)):=by
       refine(J.o.aX 1).kept aH ?_;rcases JD (Value.ownBlock (.slice (some (ag Q Z)) lk.length s))with l|⟨a,l⟩
       .exact .inl l
       .exact .inr (fun e=>K.o a l (e.symm.trans l))
      have a5:Hid (∀a,Value.ownBlock (.slice (some (ag Q Z)) lk.length s)=some a->bo.ownBlock≠some a):=fun a e i=>by
       have aF:=(J.o.lt a e).2;rcases gy bi with l|⟨b,l,bh⟩
       .exact K.o a e (l.symm.trans i)
       .rw[l]at i;injection i with i;have bv:c.heap.size<=b:=bh;omega
      go_roundw
      case rel=>exact⟨j+1,_,by go_num,rfl,aa,by rw[r.o,bQ,gZ];exact bk,a3,a5,a6⟩
      case measure=>exact bZ
    .obtain rfl:j=lk.length:=aa;rw[iE,<-aw.o]at I;have bB:¬(lk.length:Int)<(lk.length:Int):=aa;go_wp2;go_roundw
     case rel=>exact⟨k,_,by go_num,rfl,aa,I,y⟩
     case measure=>simp[intOf]
end
end
end Go.Proofs.YtkjdbndekceffaaGreat
