/- Made small by a program. -/
import Derived.Test.YtkjdbndekceffaaGreatW14
set_option linter.unusedSimpArgs false
set_option linter.unusedVariables false
set_option maxRecDepth 100000
set_option maxHeartbeats 16000000
namespace Go.Proofs.YtkjdbndekceffaaGreat
open Tryz
section
open Go.RowKit Go.Sort Go.Shelf Go.Lib Go.Maps
attribute [local irreducible] wpQuiet
attribute [local go_sem] Oper.fw
section
variable {w:World} {F:Nat->Prop} {tb n0:Nat} {l:List Pt} {lo m0 m1 m2 m3 m4 hi bx cn hp lw ob:Nat} {tl sv:Value} {dn:Bool}
theorem l9.top (h:l9 w F tb n0 l lo m0 m1 m2 m3 m4 hi bx cn hp lw ob tl sv dn):hi<=w.heap.size:=by
 have a:=h.ord;have b:=h.TN;have c:=h.fin.2.2 (hi-1) (h.fin.1 (hi-1) (by have:=h.row;omega) aa);omega
theorem RB (h:l9 w F tb n0 l lo m0 m1 m2 m3 m4 hi bx cn hp lw ob tl sv dn) (x y d:Int) (M:(x,y,d)∈l):
  aK 53 #[aj tb,iZ x y d] w fun e w'=>e=.returned (.bool true)/\
   ∃bA bC,l9 w' (fun k=>F k\/w.heap.size<=k/\k<w'.heap.size) tb n0 (l.filter fun q=>decide (q≠(x,y,d))) lo m0 m1 m2 m3 m4 hi bx cn hp lw bA bC sv false/\ay F w w':=by
 have bT:=h.top;have bR:l.length<=20000:=bB h.box.Fx.1 h.box.Fx.2;have bu:∃g c,tl=az g l.length c:=by
  rcases h.row.2 with⟨rfl,bv⟩|⟨g,bi,bN,rfl,_⟩
  .have bO:=h.row.1;have:l=[]:=gV bv;rw[this]at M;cases M
  .exact⟨g,bi,rfl⟩
 obtain⟨g,c,rfl⟩:=bu;have bP:=h.Sk g rfl;have bQ:=(h.row.lt g rfl).1;obtain⟨bs,bt⟩:=h.TN;obtain⟨bU,bW,bY,bZ,b0⟩:=h.ord;have bo:=Fg h.und.1;have H:=af h;have C:=af M;have L:ay (fun _=>False) w (w.alloc (.cells #[ae x,ae y,au d] 29)):=(ay.refl _ w).alloc _;have aD:=bV w (.cells #[ae x,ae y,au d] 29);have b1:(w.alloc (.cells #[ae x,ae y,au d] 29)).heap.size=w.heap.size+1:=aA;have S:=bq L h.blk (fun h=>h);have aE:=aR h.row L (fun _ _ h=>h);have ai:=af (OC (x,y,d) w.heap.size g c l.length lo l _ (by rw[eB _ _ _ _ rfl];rfl) (by rw[eB _ _ _ _ rfl];rfl) (by rw[eB _ _ _ _ rfl];rfl) aE rfl aa aa bo);have bf:(w.alloc (.cells #[ae x,ae y,au d] 29)).cell? (ag tb 0)=some (az g l.length c):=aF S;have al:=af S;have Q:=af aD;have X:=af L;clear h M S aD aE L;go_enter func53,ntmps53
 go_wp2_with fail
 generalize w.alloc (.cells #[ae x,ae y,au d] 29)=w1 at*;refine ai.o.mono ?_;rintro e w2 ⟨n',rfl,aT,aU,B⟩;have J:=bq B al.o aa;have aQ:(az g n' c).ownBlock≠some tb:=fun e=>by
  have u:g=tb:=by injection e
  omega
 have a8:=af (bq B Q.o aa);have bS:=B.size;have f2:w2.frozen? (ag tb 0)=false:=aF J;have bg:w2.cell? (ag tb 0)=some (az g l.length c):=aF J;have aL:(w2.setCell (ag tb 0) (az g n' c)).heap[tb]? =some (Obj.cells #[az g n' c,aj bx,aj cn,aj hp,aj lw,aj ob,sv] 120 (0,0)):=by
  rw[di w2 tb 0 _ _ _ J];rfl
 have an:ay (fun k=>k=g\/k=tb) w1 (w2.setCell (ag tb 0) (az g n' c)):=(B.mono fun k h=>.inl h).set _ (.inl (.inr rfl));have aV:(w2.setCell (ag tb 0) (az g n' c)).heap.size=w2.heap.size:=aA;have aG:(w2.setCell (ag tb 0) (az g n' c)).ownsRow lo 29 3 (az g n' c) n' ((l.filter fun q=>decide (q≠(x,y,d))).flatMap dw):=aX aU fun i e=>aC fun U=>aQ (by rw[e,<-U]);have ao:=an.alloc (.cells #[au 0,.int .i32 0,au 0] 199);have R:=bV (w2.setCell (ag tb 0) (az g n' c)) (.cells #[au 0,.int .i32 0,au 0] 199);have T:ay (fun _=>False) (w2.setCell (ag tb 0) (az g n' c)) ((w2.setCell (ag tb 0) (az g n' c)).alloc (.cells #[au 0,.int .i32 0,au 0] 199)):=(ay.refl _ _).alloc _;have K:=bq T aL (fun h=>h);have aH:=af (aR aG T (fun _ _ h=>h));have aW:((w2.setCell (ag tb 0) (az g n' c)).alloc (.cells #[au 0,.int .i32 0,au 0] 199)).heap.size=w2.heap.size+1:=aA;have bh:((w2.setCell (ag tb 0) (az g n' c)).alloc (.cells #[au 0,.int .i32 0,au 0] 199)).cell? (ag tb 5)=some (aj ob):=aF K;have f4:((w2.setCell (ag tb 0) (az g n' c)).alloc (.cells #[au 0,.int .i32 0,au 0] 199)).frozen? (ag tb 5)=false:=aF K;rw[aV]at R;have P:=af ao;have am:=af K;have ak:=af R;have a3:=af aT;clear ai bf aU B J aL an aG ao T K R aT
 go_wp2_with fail
 generalize((w2.setCell (ag tb 0) (az g n' c)).alloc (.cells #[au 0,.int .i32 0,au 0] 199))=w4 at*;have aM:Hid ((w4.setCell (ag tb 5) (aj w2.heap.size)).heap[tb]? =some (Obj.cells #[az g n' c,aj bx,aj cn,aj hp,aj lw,aj w2.heap.size,sv] 120 (0,0))):=by
  show _=_;rw[di w4 tb 5 _ _ _ am.o];rfl
 have ap:Hid (ay (fun k=>k=g\/k=tb) w (w4.setCell (ag tb 5) (aj w2.heap.size))):=((X.o.mono fun _ h=>h.elim).trans P.o).set _ (.inl (.inr rfl));have a9:Hid ((w4.setCell (ag tb 5) (aj w2.heap.size)).ownsRow lo 29 3 (az g n' c) n' ((l.filter fun q=>decide (q≠(x,y,d))).flatMap dw)):=aX aH.o fun i e=>aC fun U=>aQ (by rw[e,<-U]);have D:Hid ((w4.setCell (ag tb 5) (aj w2.heap.size)).heap[w.heap.size]? =some (Obj.cells #[ae x,ae y,au d] 29 (0,0))):=(aC (by simp only;omega)).trans (bq P.o Q.o aa);have a4:Hid ((w4.setCell (ag tb 5) (aj w2.heap.size)).heap[w2.heap.size]? =some (Obj.cells #[au 0,.int .i32 0,au 0] 199 (0,0))):=(aC (by simp only;omega)).trans ak.o;have b2:(w4.setCell (ag tb 5) (aj w2.heap.size)).heap.size=w2.heap.size+1:=by simp[aW]
 clear f2 bg aV aH aW bh f4 P am ak X al Q a8;generalize w4.setCell (ag tb 5) (aj w2.heap.size)=r at*;have Y:=af (H.o.UX.kept ((ap.o.drew)) (fun k z A V=>aa));have bj:=ah (w:=r) (ad:=(ag tb 2)) (v:=aj cn) (aF aM.o);have bD:=ah (w:=r) (ad:=(ag w.heap.size 0)) (v:=.int .i64 x) (aF D.o);have bI:=ah (w:=r) (ad:=(ag w.heap.size 1)) (v:=.int .i64 y) (aF D.o);have d5:=ah (w:=r) (ad:=(ag w.heap.size 2)) (v:=.int .u32 d) (aF D.o);refine ax (fun W=>∃p:aS r,W=p.W) [5] [(0,false),(1,false),(2,false),(3,true),(4,true)] ⟨⟨_,(aJ _ _).drew⟩,rfl⟩ 1 ?_;refine aI [5] ?_;clear bj bD bI d5
 go_wp2_with fail
 refine(RA Y.o (x,y,d) C.o).mono ?_;rintro e w6 ⟨rfl,b,a⟩;have aY:=af b;have t:Hid (ay (fun k=>m2<=k/\k<m3) r w6):=((ay.refl _ r).drew).trans a;have aN:=af (bq t.o aM.o aa);have E:=af (bq t.o D.o aa);have a5:=af (bq t.o a4.o aa);have ba:=af (aR a9.o t.o (fun i e=>by have u:g=i:=(by injection e);omega));have aq:Hid (ay (fun k=>(k=g\/k=tb)\/(m2<=k/\k<m3)) w w6):=(ap.o.mono fun k h=>aa).trans (t.o.mono fun k h=>aa);have b3:=a.size;clear b a Y
 go_wp2_with fail
 have Z:=af (H.o.Un.kept ((aq.o.drew)) (fun k z A V=>aa));have bk:=ah (w:=w6) (ad:=(ag tb 3)) (v:=aj hp) (aF aN.o);have bE:=ah (w:=w6) (ad:=(ag w.heap.size 0)) (v:=.int .i64 x) (aF E.o);have bJ:=ah (w:=w6) (ad:=(ag w.heap.size 1)) (v:=.int .i64 y) (aF E.o);have d6:=ah (w:=w6) (ad:=(ag w.heap.size 2)) (v:=.int .u32 d) (aF E.o);refine ax (fun W=>∃p:aS w6,W=p.W) [5] [(0,false),(1,false),(2,false),(3,true),(4,true)] ⟨⟨_,(aJ _ _).drew⟩,rfl⟩ 1 ?_;refine aI [5] ?_;clear bk bE bJ d6
 go_wp2_with fail
 refine(TP Z.o (x,y,d) C.o).mono ?_;rintro e f ⟨rfl,b,a⟩;have a0:=af b;have s:Hid (ay (fun k=>m3<=k/\k<m4) w6 f):=((ay.refl _ w6).drew).trans a;have aO:=af (bq s.o aN.o aa);have G:=af (bq s.o E.o aa);have a6:=af (bq s.o a5.o aa);have bb:=af (aR ba.o s.o (fun i e=>by have u:g=i:=(by injection e);omega));have ar:Hid (ay (fun k=>(k=g\/k=tb)\/(m2<=k/\k<m4)) w f):=(aq.o.mono fun k h=>aa).trans (s.o.mono fun k h=>aa);have b4:=a.size;clear b a Z
 go_wp2_with fail
 have ab:=af (H.o.low.kept ((ar.o.drew)) (fun k z A V=>aa));have bl:=ah (w:=f) (ad:=(ag tb 4)) (v:=aj lw) (aF aO.o);have bF:=ah (w:=f) (ad:=(ag w.heap.size 0)) (v:=.int .i64 x) (aF G.o);have bK:=ah (w:=f) (ad:=(ag w.heap.size 1)) (v:=.int .i64 y) (aF G.o);have d7:=ah (w:=f) (ad:=(ag w.heap.size 2)) (v:=.int .u32 d) (aF G.o);refine ax (fun W=>∃p:aS f,W=p.W) [5] [(0,false),(1,false),(2,false),(3,true),(4,true)] ⟨⟨_,(aJ _ _).drew⟩,rfl⟩ 1 ?_;refine aI [5] ?_;clear bl bF bK d7
 go_wp2_with fail
 refine(TQ ab.o (x,y,d) C.o).mono ?_;rintro e j ⟨rfl,b,a⟩;have a1:=af b;have n:Hid (ay (fun k=>m4<=k/\k<hi) f j):=((ay.refl _ f).drew).trans a;have aP:=af (bq n.o aO.o aa);have I:=af (bq n.o G.o aa);have a7:=af (bq n.o a6.o aa);have bc:=af (aR bb.o n.o (fun i e=>by have u:g=i:=(by injection e);omega));have av:Hid (ay (fun k=>(k=g\/k=tb)\/(m2<=k/\k<hi)) w j):=(ar.o.mono fun k h=>aa).trans (n.o.mono fun k h=>aa);have b5:=a.size;clear b a ab
 go_wp2_with fail
 have ac:=af (H.o.box.kept ((av.o.drew)) (fun k z A V=>aa));have bm:=ah (w:=j) (ad:=(ag tb 1)) (v:=aj bx) (aF aP.o);have bH:=ah (w:=j) (ad:=(ag w.heap.size 0)) (v:=.int .i64 x) (aF I.o);have bL:=ah (w:=j) (ad:=(ag w.heap.size 1)) (v:=.int .i64 y) (aF I.o);have d8:=ah (w:=j) (ad:=(ag w.heap.size 2)) (v:=.int .u32 d) (aF I.o);refine ax (fun W=>∃p:aS j,W=p.W) [5,6] [(0,false),(1,false),(2,false),(3,true),(4,true)] ⟨⟨_,(aJ _ _).drew⟩,rfl⟩ 2 ?_;refine aI [5,6] ?_;clear bm bH bL d8
 go_wp2_with fail
 refine(PG ac.o (x,y,d) C.o).mono ?_;rintro e O ⟨rfl,b,a⟩;have a2:=af b;have m:Hid (ay (fun k=>m1<=k/\k<m2) j O):=((ay.refl _ j).drew).trans a;have be:=af (bq m.o aP.o aa);have bM:=af (bq m.o I.o aa);have aB:=af (bq m.o a7.o aa);have bd:=af (aR bc.o m.o (fun i e=>by have u:g=i:=(by injection e);omega));have aw:Hid (ay (fun k=>(k=g\/k=tb)\/(m2<=k/\k<hi)\/(m1<=k/\k<m2)) w O):=(av.o.mono fun k h=>aa).trans (m.o.mono fun k h=>aa);have b6:=a.size;clear b a ac;go_wp2;go_ret;have bz:ay (fun k=>(m3<=k/\k<m4)\/(m4<=k/\k<hi)\/(m1<=k/\k<m2)) w6 O:=(s.o.mono fun k h=>.inl h).trans ((n.o.mono fun k h=>.inr (.inl h)).trans (m.o.mono fun k h=>.inr (.inr h)));have bw:ay (fun k=>(m4<=k/\k<hi)\/(m1<=k/\k<m2)) f O:=(n.o.mono fun k h=>.inl h).trans (m.o.mono fun k h=>.inr h);have br:=aw.o.size;have bn:=a3.o;subst bn;refine⟨rfl,w2.heap.size,_,⟨be.o,bd.o,fun k e=>?_,⟨bs,bt⟩,a2.o,aY.o.kept bz (fun k _ _ h=>aa),a0.o.kept bw (fun k _ _ h=>aa),a1.o.kept m.o (fun k _ _ h=>aa),H.o.ord,?_,?_,(fun h=>by cases h),⟨fun k z A=>.inl (H.o.fin.1 k z A),.inr ?_,?_⟩,OD H.o.und.1 _,fun q bp=>H.o.und.2 q (bG.1 bp).1⟩,aw.o.mono fun k hk=>H.o.fin.1 k aa aa⟩
 .have u:g=k:=by injection e
  omega
 .have N:=aB.o;exact⟨aF N,aF N,aF N,aF N⟩
 .exact⟨aa,.inr aa⟩
 .have:=(aZ.1 aB.o).1;omega
 .rintro k (hk|hk)
  .exact bX (H.o.fin.2.2 k hk) br
  .exact hk.2
end
theorem Hr:fV 148:=bY func148 aM rfl
theorem PH:fV 147:=bY func147 aM rfl
theorem RD {W:World} {V tb:Nat} {a:Option Addr} {c:Nat} {l:List Pt} {v1 u x y z sv:Value} (n:W.cell? (ag V 0)=some (aj tb)) (h:W.heap[tb]? =some (Obj.cells #[.slice a l.length c,v1,u,x,y,z,sv] 120 (0,0))) (s:bW dw 3 W a l) (D:l.length<=20000) (t:KW l) (hu:lF l=true):
  aK 147 #[aj V] W fun e w'=>e=.returned (.tuple #[])/\∃v d,Below W.heap.size W d/\d.ownsRow W.heap.size 29 3 v (bN l).length ((bN l).flatMap dw)/\w'=d.setCell (ag tb 6) v:=by
 have k:=af (fun W' (q:Below W.heap.size W W')=>TM a l l.length c W' rfl (s.below q) aa t hu);have f:=af h;have B:=ah n;have C:=ah (w:=W) (ad:=(ag tb 0)) (v:=.slice a l.length c) (aF h);go_enter func147,ntmps147
 go_wp2_with fail
 refine ax (fun W'=>∃p:aS W,W'=p.W) [9,10,11] [(0,true),(1,true),(2,false),(3,false),(4,true)] ⟨⟨_,(aJ _ _).drew⟩,rfl⟩ 7 ?_;refine aH 5 rfl fun K m=>?_;refine bf Hr rfl _ _ rfl (vals:=#[.slice a l.length c]) rfl (k.o _ (aJ _ _).drew) ?_;rintro e w2 ⟨v,rfl,i,r⟩;obtain⟨E,F,rfl,-,-,-⟩:=bW.aD bg ai i;have b:Below W.heap.size W w2:=(aJ _ _).drew.trans r;refine⟨_,rfl,?_⟩;refine m _ _ (fun _ _=>⟨⟨_,b⟩,rfl⟩) ?_;have HO:=af i;have j:=af b;refine bz [(6,false),(7,false),(8,false)] ⟨⟨_,b⟩,rfl⟩ rfl ?_;refine aI [9,10,11] ?_;have g:=(aP b f.o).trans f.o;have A:w2.cell? (ag tb 6)=some sv:=aF g;have f2:w2.frozen? (ag tb 6)=false:=aF g
 go_wp2_with fail
 go_end0
 exact⟨rfl,_,w2,j.o,HO.o,rfl⟩
section
variable {w:World} {F:Nat->Prop} {tb n0:Nat} {l:List Pt} {lo m0 m1 m2 m3 m4 hi bx cn hp lw ob:Nat} {tl sv:Value} {dn:Bool}
theorem l9.more {d:Nat->Prop} (h:l9 w F tb n0 l lo m0 m1 m2 m3 m4 hi bx cn hp lw ob tl sv dn) (f:∀k,F k->d k) (i:∀k,d k->k<w.heap.size):l9 w d tb n0 l lo m0 m1 m2 m3 m4 hi bx cn hp lw ob tl sv dn:=
 ⟨h.blk,h.row,h.Sk,h.TN,h.box,h.UX,h.Un,h.low,h.ord,h.Uo,h.VO,fun hd=>by
  have⟨a,c,e,j,m,g⟩:=h.F8 hd;exact⟨a,c,e,j,m,fun x e=>⟨(g x e).1,(g x e).2.1,f _ (g x e).2.2⟩⟩,⟨fun k a b=>f k (h.fin.1 k a b),f _ h.fin.2.1,i⟩,h.und⟩
theorem TR (h:l9 w F tb n0 l lo m0 m1 m2 m3 m4 hi bx cn hp lw ob tl sv dn):
  aK 63 #[aj tb] w fun e w'=>∃a c,e=.returned (.slice a (bN l).length c)/\(bN l).length<=c/\bW dw 3 w' a (bN l)/\
   ∃aL,l9 w' (fun k=>F k\/w.heap.size<=k/\k<w'.heap.size) tb n0 l lo m0 m1 m2 m3 m4 hi bx cn hp lw ob tl aL true/\ay F w w':=by
 have aV:=h.top;have av:l.length<=20000:=bB h.box.Fx.1 h.box.Fx.2;have⟨az,aE⟩:=h.TN;have⟨aW,aX,aY,aZ,a0⟩:=h.ord;have N:=h.VO;have H:=af h;have n:ay (fun _=>False) w (w.alloc (.cells #[aj tb] 106)):=(ay.refl _ w).alloc _;have I:=bV w (.cells #[aj tb] 106);have a3:(w.alloc (.cells #[aj tb] 106)).heap.size=w.heap.size+1:=aA;have m:=af (bq n h.blk (fun h=>h));have y:=af n;have U:=af I;have aI:(w.alloc (.cells #[aj tb] 106)).cell? (ag tb 5)=some (aj ob):=aF m.o;have aU:=h.fin.2.2 _ h.fin.2.1;have d:=af ((h.kept n (fun _ _ h=>h)).Uo);have z:=af (aR h.row n (fun _ _ h=>h));have T:=af (h.kept n (fun _ _ h=>h));cases dn with
 |true=>
  obtain⟨a,c,rfl,ar,aw,M⟩:=h.F8 rfl;have W:=af (aw.below ((aJ _ w).alloc (aB _) (.cells #[aj tb] 106)));have a1:(w.alloc (.cells #[aj tb] 106)).cell? (ag tb 6)=some (.slice a (bN l).length c):=aF m.o;have P:=af (DJ (ag ob 0) (.func (.func 147) #[] #[aj w.heap.size]) _ d.o.c0);have a2:(w.alloc (.cells #[aj tb] 106)).cell? (ag w.heap.size 0)=some (aj tb):=by rw[eB _ _ _ _ rfl];rfl
  go_enter func63,ntmps63
  go_wp2_with fail
  generalize w.alloc (.cells #[aj tb] 106)=w1 at*;refine P.o.mono ?_;rintro e w2 ⟨rfl,rfl⟩;go_wp2;go_ret;refine⟨a,c,rfl,ar,W.o,.slice a (bN l).length c,?_,y.o.mono fun _ h=>h.elim⟩;exact T.o.more (by intro k hk;exact .inl hk) (by rintro k (hk|hk);exact bX (H.o.fin.2.2 k hk) y.o.size;exact hk.2)
 |false=>
  have aG:lF l=true:=by unfold lF;exact pV h.und.1
  obtain⟨aM,tc,rfl,-,-,aS⟩:=bW.aD bg ai z.o;have A:ay (fun k=>k=ob) (w.alloc (.cells #[aj tb] 106)) ((w.alloc (.cells #[aj tb] 106)).setCell (ag ob 1) (.int .i32 1)):=(ay.refl _ _).set _ (.inl rfl);have aT:ob≠tb:=N.1;have al:=bq A m.o aa;have ao:=bq A I aa;have ad:=aR z.o A (fun f e=>by have p:=h.Sk f e;have s:=(h.row.lt f e).1;omega);obtain⟨a4,a5,B,-,-,aq⟩:=bW.aD bg ai ad;injection B with B _ ap;subst B ap;have S:=RD (V:=w.heap.size) (tb:=tb) (eP ao) al aq av h.und.2 aG;have L:ob<(w.alloc (.cells #[aj tb] 106)).heap.size:=aa;have Q:=af (zw PH (R:=fun C=>∃v b,Below ((w.alloc (.cells #[aj tb] 106)).setCell (ag ob 1) (.int .i32 1)).heap.size ((w.alloc (.cells #[aj tb] 106)).setCell (ag ob 1) (.int .i32 1)) b/\b.ownsRow ((w.alloc (.cells #[aj tb] 106)).setCell (ag ob 1) (.int .i32 1)).heap.size 29 3 v (bN l).length ((bN l).flatMap dw)/\C=b.setCell (ag tb 6) v) ob 0 (aj w.heap.size) _ d.o.c0 d.o.c1 d.o.f0 d.o.f1 (by
   refine S.mono ?_;rintro e C ⟨rfl,v,b,q,i,rfl⟩;have t:(b.setCell (ag tb 6) v).heap[ob]? =((w.alloc (.cells #[aj tb] 106)).setCell (ag ob 1) (.int .i32 1)).heap[ob]? :=(aC (by simp only;omega)).trans (q.block ob (aQ L));refine⟨rfl,⟨v,b,q,i,rfl⟩,(dC (a:=(ag ob 0)) t).trans ?_,(dC (a:=(ag ob 1)) t).trans ?_,(pz (a:=(ag ob 0)) t).trans ?_,(pz (a:=(ag ob 1)) t).trans ?_⟩
   .exact(xL _ (ag ob 1) (ag ob 0) _ aA).trans d.o.c0
   .simp[Ak,d.o.c1]
   .simp[d.o.f0]
   .simp[d.o.f1]))
  have aI:(w.alloc (.cells #[aj tb] 106)).cell? (ag tb 5)=some (aj ob):=aF m.o;go_enter func63,ntmps63
  go_wp2_with fail
  generalize(w.alloc (.cells #[aj tb] 106))=w1 at*;refine Q.o.mono ?_;rintro e w6 ⟨rfl,C,⟨v,b,q,i,rfl⟩,rfl⟩;rw[show(w1.setCell (ag ob 1) (.int .i32 1)).heap.size=w1.heap.size by simp]at i;have r:ay (fun k=>k=ob) w1 b:=((ay.refl (fun k=>k=ob) w1).set (a:=(ag ob 1)) (.int .i32 1) (.inl rfl)).below q;have ae:=bq r m.o aa;have am:=bq r U.o aa;have ac:=aR z.o r (fun f e=>by have p:=H.o.Sk f e;have s:=(H.o.row.lt f e).1;omega);have ah:(b.setCell (ag tb 6) v).heap[tb]? =some (Obj.cells #[.slice aM l.length tc,aj bx,aj cn,aj hp,aj lw,aj ob,v] 120 (0,0)):=by
   rw[di b tb 6 _ _ _ ae];rfl
  have G:ay (fun k=>k=ob\/k=tb) w1 (b.setCell (ag tb 6) v):=(r.mono fun k h=>.inl h).set _ (.inl (.inr rfl));have Z:ay (fun k=>k=ob\/k=tb) w ((((b.setCell (ag tb 6) v).drew).setCell (ag ob 0) (.int .u32 1)).setCell (ag ob (0+1)) (.int .i32 0)):=(((((y.o.mono fun _ h=>h.elim).trans G).drew).set (a:=(ag ob 0)) _ (.inl (.inl rfl))).set (a:=(ag ob (0+1))) _ (.inl (.inl rfl)));have j:ay (fun k=>k=ob) (b.setCell (ag tb 6) v) ((((b.setCell (ag tb 6) v).drew).setCell (ag ob 0) (.int .u32 1)).setCell (ag ob (0+1)) (.int .i32 0)):=((((ay.refl (fun k=>k=ob) _).drew).set (a:=(ag ob 0)) _ (.inl rfl)).set (a:=(ag ob (0+1))) _ (.inl rfl));have ak:=bq j ah aa;have an:=bq j ((aC (by simp only;omega)).trans am) aa;have u:(b.setCell (ag tb 6) v).heap[ob]? =(w1.setCell (ag ob 1) (.int .i32 1)).heap[ob]? :=(aC (by simp only;omega)).trans (q.block ob (aQ L));have aO:(b.setCell (ag tb 6) v).cell? (ag ob 0)=some (au 0):=((dC (a:=(ag ob 0)) u).trans ((xL _ (ag ob 1) (ag ob 0) _ aA).trans d.o.c0));have aP:(b.setCell (ag tb 6) v).cell? (ag ob 1)=some (.int .i32 1):=((dC (a:=(ag ob 1)) u).trans (by simp[Ak,d.o.c1]));have aN:(b.setCell (ag tb 6) v).frozen? (ag ob 0)=false:=((pz (a:=(ag ob 0)) u).trans (by simp[d.o.f0]));have y1:(b.setCell (ag tb 6) v).frozen? (ag ob 1)=false:=((pz (a:=(ag ob 1)) u).trans (by simp[d.o.f1]));have ab:Hid (Sj ((((b.setCell (ag tb 6) v).drew).setCell (ag ob 0) (.int .u32 1)).setCell (ag ob (0+1)) (.int .i32 0)) ob true):=by
   refine⟨?_,?_,?_,?_⟩
   .refine(xL _ (ag ob (0+1)) (ag ob 0) _ aA).trans ?_;simp[Ak,aO]
   .have:(((b.setCell (ag tb 6) v).drew).setCell (ag ob 0) (.int .u32 1)).cell? (ag ob 1)=some (.int .i32 1):=(xL _ (ag ob 0) (ag ob 1) _ aA).trans (aQ aP);simp[Ak,this]
   .simpa using aN
   .simpa using y1
  have D:Hid ((((b.setCell (ag tb 6) v).drew).setCell (ag ob 0) (.int .u32 1)).setCell (ag ob (0+1)) (.int .i32 0)|>.ownsRow w1.heap.size 29 3 v (bN l).length ((bN l).flatMap dw)):=aR (aR i ((ay.refl (fun k=>k=tb) b).set (a:=(ag tb 6)) v (.inl rfl)) (fun f e=>by have:=(i.lt f e).1;omega)) j (fun f e=>by have:=(i.lt f e).1;omega);have E:=af ak;have Y:=af an;have g:=af Z;have X:=af (aR ac ((G.mono (fun k h=>h)).trans (j.mono fun k h=>.inl h)|>fun h=>(((ay.refl (fun k=>k=ob\/k=tb) b).set (a:=(ag tb 6)) v (.inl (.inr rfl))).trans (j.mono fun k h=>.inl h))) (fun f e=>by have p:=H.o.Sk f e;have s:=(H.o.row.lt f e).1;omega));generalize(((b.setCell (ag tb 6) v).drew).setCell (ag ob 0) (.int .u32 1)).setCell (ag ob (0+1)) (.int .i32 0)=O at*;have u0:O.cell? (ag w.heap.size 0)=some (aj tb):=aF Y.o;have u1:O.cell? (ag tb 6)=some v:=aF E.o;go_wp2;go_ret;obtain⟨a,c,rfl,-,K,J⟩:=bW.aD bg ai D.o;have ax:=g.o.size;have aH:=D.o.lt;refine⟨a,c,rfl,K,J,_,⟨E.o,X.o,H.o.Sk,⟨az,aE⟩,H.o.box.kept g.o aa,H.o.UX.kept g.o aa,H.o.Un.kept g.o aa,H.o.low.kept g.o aa,H.o.ord,ab.o,N,fun _=>⟨a,c,rfl,K,J,fun x M=>?_⟩,⟨fun k p s=>.inl (H.o.fin.1 k p s),.inl H.o.fin.2.1,?_⟩,H.o.und⟩,g.o.mono ?_⟩
  .have p:=aH x.block (by rw[M];rfl);exact⟨aa,aa,.inr aa⟩
  .rintro k (hk|hk)
   .exact bX (H.o.fin.2.2 k hk) ax
   .exact hk.2
  .rintro k (rfl|rfl)
   .exact H.o.fin.2.1
   .exact H.o.tF
end
end
section
open Go.RowKit Go.Maps
attribute [local irreducible] wpQuiet
def TS (W:World) (base Cb:Nat) (wk:Int) (l:List eU) (e:Ending) (w':World):Prop:=
 ∃(CS:Value) (qW:List Ac) (Ko:Int),e=.returned (ae l.length)/\mY w' base Cb CS qW l.length Ko/\qX w' qW/\qW.map (·.2.1)=setC (Lib.bitLen l.length) l/\
  (CS.ownBlock=none\/∃b,CS.ownBlock=some b/\W.heap.size<=b)/\ay (fun k=>k=Cb) W w'/\Nw W.heap.size [] qW/\Ko=wrap64 (wk+(l.length:Int))
theorem TT {W:World} {base Cb:Nat} {cv:Value} {ch:List Ac} {N wk:Int} (h:mY W base Cb cv ch N wk) (cl:base<=W.heap.size) (a:Option Addr) (l:List eU) (c:Nat) (bb:LH W a l) (bR:l.length<=c) (aE:l.length<=10000):
  aK 212 #[aj Cb,.slice a l.length c] W (TS W base Cb wk l):=by
 have aS:=af (wI h);have H:=af h;have bJ:=fC aE ai;have bK:Lib.bitLen 10000=14:=ai;rw[bK]at bJ;have aZ:=af bb;have a0:l.length<2^Lib.bitLen l.length:=by
  by_cases a7:l.length=0
  .rw[a7];decide
  .exact(bC _ aa a7).2.2
 have bp:=af a0;clear a0;clear h bb;go_enter func212,ntmps212
 go_wp2_with fail
 refine aS.o.mono ?_;rintro e w2 ⟨rfl,B⟩;have C:=af (H.o.below B);obtain⟨bB,bD,bE,bF⟩:=C.o.cell;have f1:=C.o.frozen 1;have Z:Hid (mY (w2.setCell (ag Cb 1) (aL)) base Cb (aL) [] N wk):=il.LF (ch:=ch) C.o.blk C.o.hb C.o.ds (dA _ _ _ _) (by simp[Value.ownBlock]);obtain⟨d0,d1,d2,d3⟩:=Z.o.cell;have f2:=Z.o.frozen 2;have a3:Hid (mY ((w2.setCell (ag Cb 1) (aL)).setCell (ag Cb 2) (.int .i64 l.length)) base Cb (aL) [] l.length wk):=Z.o.Br _;have a2:Hid (ay (fun k=>k=Cb) W ((w2.setCell (ag Cb 1) (aL)).setCell (ag Cb 2) (.int .i64 l.length))):=(((ay.refl (fun k=>k=Cb) W).below B).set (a:=(ag Cb 1)) _ (.inl rfl)).set (a:=(ag Cb 2)) _ (.inl rfl);have cj:=H.o.lt;clear aS
 go_upto_block 0 with fail
 go_cut []from 19 to 33 (fun w=>∃v,Hid (mY w base Cb v (List.replicate (Lib.bitLen l.length) fJ) l.length wk)/\Hid (v.ownBlock=none\/∃b,v.ownBlock=some b/\W.heap.size<=b)/\Hid (ay (fun k=>k=Cb) W w))
 case first=>
  go_wp2_with fail
  generalize((w2.setCell (ag Cb 1) (aL)).setCell (ag Cb 2) (.int .i64 l.length))=w3 at*
  go_loopw [5] (fun aM wr=>∃(k m:Nat) (v:Value),aM=.int .i64 m/\m<=10000/\Hid (k+Lib.bitLen m=Lib.bitLen l.length)/\Hid (mY wr base Cb v (List.replicate k fJ) l.length wk)/\Hid (v.ownBlock=none\/∃b,v.ownBlock=some b/\W.heap.size<=b)/\Hid (ay (fun k=>k=Cb) W wr)) (fun aM _=>(intOf aM).toNat)
  case atStart=>exact⟨0,l.length,_,rfl,aE,(by show _=_;omega),a3,.inl rfl,a2⟩
  case round=>
   obtain⟨k,m,v,rfl,bX,aY,f,E,s⟩:=hrel;by_cases zQ:m=0
   .subst zQ;obtain rfl:k=Lib.bitLen l.length:=aY.o
    go_wp2_with fail
    go_meet;exact⟨v,f,E,s⟩
   .have aW:Hid (k+1+Lib.bitLen (m/2)=Lib.bitLen l.length):=by
     have:=Lib.bitLen_half m zQ aa;have:=aY.o;show _=_;omega
    have ah:k+1<=14:=by have:=aW.o;omega
    have J:=f.o.row;rw[iA]at J;have b0:=f.o.ne;have cy:(0:Int)<(m:Int):=aa;obtain⟨aw,ax,aA,aC⟩:=f.o.cell;have bt:Hid (∀w6,wr.grownBy w6 v.ownBlock->w6.heap[Cb]? =some (Obj.cells #[.bool true,v,ae l.length,ae wk] 278 (0,0))):=fun w6 ac=>(ac.block Cb f.o.lt (fun e=>f.o.ne e.symm)).trans f.o.blk
    go_wp2_with (at_builtin;refine cu Sa base J [aL] rfl (by simp[Value.oneCell']) rfl _ _ rfl rfl _ rfl dJ aa (by have:=s.o.size;omega) ?_;intro cE w6 bd ac ba;obtain⟨a6,j,rfl,cp,cq,cr,cs⟩:=aU bd aa;have aJ:=bt.o w6 ac;have cC:w6.cell? (ag Cb 1)=some v:=(aF aJ);have cD:w6.frozen? (ag Cb 1)=false:=(aF aJ))
    have ck:=f.o.lt;have b1:w6.ownsRow base 213 1 (az a6 (k+1) j) (List.replicate (k+1) (fJ:Ac)).length ((List.replicate (k+1) (fJ:Ac)).map dU):=by
     rw[iA,DF,bL];exact bd
    have b2:Value.ownBlock (az a6 (k+1) j)≠some Cb:=by
     rcases ba with h9|h9
     .rw[h9];exact b0
     .rw[h9];simp;omega
    go_roundw
    case rel=>
     refine⟨k+1,m/2,_,by go_num,aa,aW,il.LF (ch:=List.replicate k fJ) aJ f.o.hb f.o.ds b1 b2,?_,(s.o.grown ac ?_).set (a:=(ag Cb 1)) _ (.inl rfl)⟩
     .rcases ba with h9|h9
      .rw[h9];exact E
      .exact .inr ⟨_,h9,by have:=s.o.size;simp;omega⟩
     .intro b i;rcases E.o with h9|⟨b4,h9,Q⟩
      .rw[h9]at i;cases i
      .rw[h9]at i;injection i with i;subst i;exact .inr Q
    case measure=>exact eO
 case rest=>
  obtain⟨v,f,E,s⟩:=hcut;obtain⟨w3,bI⟩:∃w3:World,w3=wc:=⟨_,rfl⟩;subst bI;clear Z a3 a2 bB bD bE bF f1 f2 d0 d1 d2 d3 C B;generalize bM:Lib.bitLen l.length=K at*;obtain⟨x,aG⟩:∃x,x=v.ownBlock:=⟨_,rfl⟩;have a1:Hid (∀W',ay (fun k=>k=Cb\/x=some k) w3 W'->bW ll 4 W' a l):=fun W' R=>((aZ.o.kept (H.o.fe rfl (s.o.mono (fun k h=>.inl h)))).kept (f.o.fe aG R)).Nv;have au:=af aG;clear aG;have ao:=f.o;have bu:Hid (qX w3 (List.replicate K fJ)):=DI _ _;have bq:Hid ((List.replicate K (fJ:Ac)).map (·.2.1)=List.replicate K []++[]):=by show _=_;simp
  have bo:Hid (l.length=l.length%2^K):=(EB bp.o).symm;obtain⟨av,P,bh,-,bS,-⟩:=Rd.aD (enc:=dU) ao.row;rw[iA]at bh bS;subst bh;obtain⟨b7,b8,b9,ca⟩:=ao.cell;clear ao
  go_upto_block 2 with fail
  go_cut []from 35 to 64 (fun w=>∃ch1,Hid (mY w base Cb (.slice av K P) ch1 l.length wk)/\Hid (Nw W.heap.size [] ch1)/\Hid (qX w ch1)/\Hid (ch1.map (·.2.1)=setC K l)/\Hid (ay (fun k=>k=Cb\/x=some k) w3 w))
  case first=>
   go_wp2_with fail
   go_loopw [7,6] (fun aI b3 wr=>∃(m:Nat) (ad:Option Addr) (r:List eU) (y:Nat) (ch1:List Ac) (T:List (List eU)),aI=.int .i64 ((m:Int)-1)/\b3=.slice ad r.length y/\m<=K/\r.length<=y/\Hid (r.length=l.length%2^m)/\Hid (∀W',ay (fun k=>k=Cb\/x=some k) w3 W'->bW ll 4 W' ad r)/\
    Hid (mY wr base Cb (.slice av K P) ch1 l.length wk)/\Hid (Nw W.heap.size [] ch1)/\Hid (qX wr ch1)/\Hid (ch1.map (·.2.1)=List.replicate m []++T)/\Hid (setC K l=setC m r++T)/\Hid (ay (fun k=>k=Cb\/x=some k) w3 wr)) (fun aI _ _=>(intOf aI+1).toNat)
   case atStart=>exact⟨K,a,l,c,_,[],by go_num,rfl,aB _,bR,bo,a1,f,Nw.SL,bu,bq,(by show _=_;simp),ay.refl _ _⟩
   case round=>
    obtain⟨m,ad,r,y,ch1,T,rfl,rfl,bX,bg,X,M,q,L,D,A,Y,t⟩:=hrel;rcases nG m with zQ|zQ
    .subst zQ;have cm:¬(0:Int)<=((0:Nat):Int)-1:=aa
     go_wp2_with fail
     go_meet;exact⟨ch1,q,L,D,(by have d:=A.o;have G:=Y.o;show _=_;rw[d,G];rfl),t⟩
    .obtain⟨k,rfl⟩:∃k,m=k+1:=⟨m-1,aa⟩;have ah:k<14:=aa;have ak:=GD l.length k;have cx:r.length<=l.length:=by rw[X.o];exact Nat.mod_le _ _
     have bz:=Oy k ah;have O:=Sd l.length k ah aE;have hp:=qE k ah;have bU:(((k+1:Nat):Int)-1)=(k:Int):=aa;have ct:(0:Int)<=(k:Int):=aa;have aH:ch1.length=K:=by
      have d:=congrArg List.length A.o;have G:=congrArg List.length Y.o;rw[eF,bQ,eF]at G;simp at d;omega
     rw[bU];by_cases i:l.length.testBit k=true
     .rw[i]at O;simp only[gG]at O;have I:=ak.1 i;rw[<-X.o]at I;have al:2^k<=r.length:=aa;have ar:Hid (setC K l=setC k (r.drop (2^k))++r.take (2^k)::T):=by
       have d:=Y.o;rw[setC,aO al,dY]at d;exact d
      have V:Hid (∀hd:Ac,hd.2.1=r.take (2^k)->(ch1.set k hd).map (·.2.1)=List.replicate k []++r.take (2^k)::T):=fun hd h9=>by
       rw[kL,A.o,h9,Gi]
      have aq:Hid ((r.drop (2^k)).length=l.length%2^k):=by
       show _=_;rw[mQ];omega
      clear ak i I;generalize S:2^k=p at*;have ap:=af S;clear S;obtain⟨b,off,bH,bP,-⟩:=(M.o wr t.o).get aa;subst bH;obtain⟨g,b5,ab,cn,co,-,-⟩:=aU q.o.row aa;rw[aH]at ab;injection ab with ab _ bG;subst ab bG;obtain⟨aw,ax,aA,aC⟩:=q.o.cell;have U:(r.take p).length=p:=by rw[eQ];omega
      have an:=af (Bu (some (ag b off)) (r.take p) p y wr.drew U ((M.o wr.drew t.o.drew).take p) aa);have cA:(0:Int)<=(p:Int)/\(p:Int)<=(r.length:Int):=aa;have cz:(p:Int)<=(y:Int):=aa;have be:((p:Int)!=0)=true:=by simp only[bne_iff_ne,ne_eq];omega
      go_upto_region 14 with fail
      simp only[bz,O,be]
      go_cut []from 52 to 61 (fun w=>∃F,Hid (mY w base Cb (az g K P) F l.length wk)/\Hid (Nw W.heap.size [] F)/\Hid (qX w F)/\Hid (F.map (·.2.1)=List.replicate k []++r.take p::T)/\Hid (ay (fun k=>k=Cb\/x=some k) w3 w))
      case first=>
       have bi:aK 208 #[.slice (some (ag b off)) p y] wr.drew fun e w6=>∃u j z,e=.returned (.slice u p j)/\Hid (p<=j)/\Hid (∀a,u=some a->W.heap.size<=a.block)/\Hid (LH w6 u (r.take p))/\Hid (mY w6 base Cb (az g K P) ch1 l.length wk)/\Hid (Below wr.drew.heap.size wr.drew w6)/\w6.cell? (ag Cb 1)=some (az g K P)/\w6.cell? (ag g k)=some z/\w6.frozen? (ag g k)=false:=by
        refine an.o.mono ?_;rintro e w6 ⟨cF,rfl,bc,a9⟩;obtain⟨u,j,rfl,cg,a8,bN⟩:=LH.aD bc;have am:=q.o.drew.below a9;obtain⟨cc,a5,cd,ce⟩:=am.cell;have J:=am.row;rw[aH]at J;have aR:=J.cellAt k aa;have a4:=J.frozenAt k;rw[bZ (show k<(ch1.map dU).length by simp;omega)]at aR;rw[U]at a8;exact⟨u,j,_,by rw[U],a8,(fun a bO=>by have d:=(bc.lt a.block (by rw[bO];rfl)).1;have G:=t.o.size;have cf:=s.o.size;simp at d;omega),bN,am,a9,a5,aR,a4⟩
       clear an;have cw:(k:Int)<(K:Int):=aa
       go_region_with (go_at_call 208;with_reducible refine bi.mono ?_;rintro e w6 ⟨u,j,z,rfl,bm,bj,bx,aV,aT,a5,aR,a4⟩)
       all_goals go_wp2_with fail
       all_goals go_meet
       all_goals
        have bV:Value.slice u p j=dU (u,r.take p,j):=by unfold dU;simp only;rw[U]
        rw[bV];have bT:x=some g:=au.o;exact⟨ch1.set k (u,r.take p,j),aV.o.LD aH.symm k _,L.o.set bj.o,Gj (D.o.kept (W':=w6) fun b b6 fr i=>aP (W:=wr.drew) aT.o i) (aV.o.fe (W':=w6.setCell (ag g k) (dU (u,r.take p,j))) rfl ((ay.refl _ w6).set (a:=(ag g k)) _ (.inl (.inr rfl)))) bx.o (by show(r.take p).length<=j;rw[U];exact bm.o),V.o _ rfl,(((t.o.drew).below aT.o).set (a:=(ag g k)) _ (.inl (.inr bT)))⟩
      case rest=>
       obtain⟨F,bk,bs,bv,br,aX⟩:=hcut;clear an q D A V t aw ax aA aC bP be X
       go_wp2_with (refine vM Gm (M.o _ aX.o) bg p r.length al (aB _) rfl _ _ _ rfl rfl rfl rfl ?_;intro bA bf;simp only[jL]at bf)
       go_roundw
       case rel=>exact⟨k,bA,r.drop p,y-p,F,r.take p::T,rfl,(by rw[mQ]),aa,(by rw[mQ];omega),(by rw[ap.o];exact aq),(fun W' R=>bf W' (M.o W' R)),bk,bs,bv,br,ar,aX⟩
       case measure=>simp[intOf]
     .have B:l.length.testBit k=false:=aQ i;rw[B]at O;simp only[jw,qV]at O;have I:=ak.2 B;rw[<-X.o]at I;have al:¬2^k<=r.length:=by have:=qc l.length (qa (n:=k) (show 0<2 by decide));omega
      have ar:Hid (setC K l=setC k r++[]::T):=by
       have d:=Y.o;rw[setC,aN al,dY]at d;exact d
      have V:Hid (ch1.map (·.2.1)=List.replicate k []++[]::T):=by
       have d:=A.o;rw[rA,dY]at d;exact d
      have aq:=af I;clear ak i B I;generalize S:2^k=p at*;have ap:=af S;clear S
      go_wp2_with fail
      go_roundw
      case rel=>exact⟨k,ad,r,y,ch1,[]::T,rfl,rfl,aa,bg,by rw[ap.o];exact aq,M,q,L,D,V,ar,t⟩
      case measure=>simp[intOf]
  case rest=>
   obtain⟨ch1,q,L,D,A,t⟩:=hcut;obtain⟨aw,ax,aA,aC⟩:=q.o.cell;have cb:=q.o.frozen 3;have bl:=af (q.o.QD (wrap64 (wk+(l.length:Int))));have bw:Hid (qX (wc.setCell (ag Cb 3) (.int .i64 (wrap64 (wk+(l.length:Int))))) ch1):=D.o.kept (q.o.fe rfl ((ay.refl _ wc).set (a:=(ag Cb 3)) _ (.inl (.inl rfl))));have bn:Hid (ay (fun k=>k=Cb) W (wc.setCell (ag Cb 3) (.int .i64 (wrap64 (wk+(l.length:Int)))))):=by
    have cB:=s.o.size;have d:ay (fun k=>k=Cb\/W.heap.size<=k) W wc:=(s.o.mono (fun k h=>.inl h)).trans (t.o.mono (fun k h=>h.imp id (fun h9=>by
     rcases E.o with Q|⟨b,Q,ci⟩
     .rw[au.o,Q]at h9;cases h9
     .rw[au.o,Q]at h9;injection h9 with h9;omega)))
    have G:ay (fun k=>k=Cb) W wc:=⟨d.os,d.tape,d.output,d.size,fun k R bY=>d.block k R (fun h9=>by rcases h9 with h9|h9;exact bY h9;omega)⟩;exact G.set (a:=(ag Cb 3)) _ (.inl rfl)
   clear s t a1 f aZ;go_wp2;go_ret;exact⟨_,ch1,_,rfl,bl.o,bw.o,by rw[bM];exact A.o,E.o,bn.o,L.o,rfl⟩
end
section
open Go.RowKit Go.Sort Go.Shelf Go.Lib Go.Maps
open Go.ChangeMaps (setBlock)
def Bk (w:World) (F:Nat->Prop) (tb n0:Nat) (l:List Pt):Prop:=∃lo m0 m1 m2 m3 m4 hi bx cn hp lw ob tl sv dn,l9 w F tb n0 l lo m0 m1 m2 m3 m4 hi bx cn hp lw ob tl sv dn
section
variable {w w':World} {F S:Nat->Prop} {tb n0:Nat} {l:List Pt}
theorem Bk.kept (h:Bk w F tb n0 l) (K:ay S w w') (hS:∀k,F k->¬S k):Bk w' F tb n0 l:=by
 have⟨lo,m0,m1,m2,m3,m4,hi,bx,cn,hp,lw,ob,tl,sv,dn,h⟩:=h;exact⟨lo,m0,m1,m2,m3,m4,hi,bx,cn,hp,lw,ob,tl,sv,dn,h.kept K hS⟩
theorem Bk.below (h:Bk w F tb n0 l) (a:Below w.heap.size w w'):Bk w' F tb n0 l:=h.kept (S:=fun _=>False) ((ay.refl _ _).below a) fun _ _ h=>h
theorem Bk.lt (h:Bk w F tb n0 l):∀k,F k->k<w.heap.size:=by
 have⟨lo,m0,m1,m2,m3,m4,hi,bx,cn,hp,lw,ob,tl,sv,dn,h⟩:=h;exact h.fin.2.2
theorem TU (a:Option Addr) (c:Nat) (l:List Pt) (w:World) (f:bW dw 3 w a l) (g:l.length<=20000) (i:Il l) (hu:(ids l).Nodup):
  aK 52 #[.slice a l.length c] w fun e w'=>∃tb,e=.returned (aj tb)/\Bk w' (fun k=>w.heap.size<=k/\k<w'.heap.size) tb l.length l/\Below w.heap.size w w':=by
 refine(PE a c l w f g i (by unfold lF;exact pV hu)).mono ?_;rintro e w' ⟨tb,m0,m1,m2,m3,m4,bx,cn,hp,lw,ob,tl,d,h,b⟩;exact⟨tb,d,⟨_,_,_,_,_,_,_,_,_,_,_,_,_,_,_,h⟩,b⟩
theorem UY (h:Bk w F tb n0 l) (p:Pt) (d:p∈l):
  aK 53 #[aj tb,iZ p.1 p.2.1 p.2.2] w fun e w'=>e=.returned (.bool true)/\Bk w' (fun k=>F k\/w.heap.size<=k/\k<w'.heap.size) tb n0 (l.filter fun q=>decide (q≠p))/\ay F w w':=by
 have⟨lo,m0,m1,m2,m3,m4,hi,bx,cn,hp,lw,ob,tl,sv,dn,h⟩:=h;refine(RB h p.1 p.2.1 p.2.2 d).mono ?_;rintro e w' ⟨c,f,g,a,b⟩;exact⟨c,⟨_,_,_,_,_,_,_,_,_,_,_,_,_,_,_,a⟩,b⟩
theorem VP (h:Bk w F tb n0 l):
  aK 63 #[aj tb] w fun e w'=>∃a c,e=.returned (.slice a (bN l).length c)/\(bN l).length<=c/\bW dw 3 w' a (bN l)/\Bk w' (fun k=>F k\/w.heap.size<=k/\k<w'.heap.size) tb n0 l/\ay F w w':=by
 have⟨lo,m0,m1,m2,m3,m4,hi,bx,cn,hp,lw,ob,tl,sv,dn,h⟩:=h;refine(TR h).mono ?_;rintro e w' ⟨a,c,g,f,i,j,b,d⟩;exact⟨a,c,g,f,i,⟨_,_,_,_,_,_,_,_,_,_,_,_,_,_,_,b⟩,d⟩
end
def vTr:Option Nat->Value
 |none=>.pointer none
 |some b=>aj b
def lD (w:World) (mb:Nat) (A:List eU):Prop:=∃D,w.ownsMap prog 29 (plainElem prog 3) mb A.length D/\su D A
theorem lD.fit {w:World} {mb n:Nat} {A:List eU} {D:DataW Unit} (h:w.ownsMap prog 29 (plainElem prog 3) mb n D) (a:su D A):lD w mb A:=by
 refine⟨D,?_,a⟩;rw[<-a.2.1];obtain⟨c,b,d,F,e,rfl⟩:=h;exact⟨c,b,d,F,by simp[Maps.size,length_sorted],rfl⟩
theorem lD.lt {w:World} {mb:Nat} {A:List eU} (h:lD w mb A):mb<w.heap.size:=by
 obtain⟨D,⟨c,b,a,-⟩,-⟩:=h;exact(aZ.1 a).1
theorem lD.same {w w':World} {mb:Nat} {A:List eU} (h:lD w mb A) (e:w'.heap[mb]? =w.heap[mb]?):lD w' mb A:=by
 obtain⟨D,⟨b,a,d,r⟩,c⟩:=h;exact⟨D,⟨b,a,e.trans d,r⟩,c⟩
theorem lD.look {w:World} {mb:Nat} {A:List eU} (h:lD w mb A) {p:Pt} (hp:BB p) (s:(A.map (·.1)).Nodup):
  (∃c∈A,c.1=p/\(Instr.lookup 188 (.map (some mb)) (iZ p.1 p.2.1 p.2.2) true).run prog w=.ok (.tuple #[ae c.2,.bool true]) w)\/
  (p∉A.map (·.1)/\(Instr.lookup 188 (.map (some mb)) (iZ p.1 p.2.1 p.2.2) true).run prog w=.ok (.tuple #[ae 0,.bool false]) w):=by
 have⟨D,n,j⟩:=h;have⟨v,r,d,f⟩:=n.look_ok (Keyed.of_law Gw) underlying188 (zeroValue3 w) (ve underlying3 ai) (yH hp);rw[(j.2.2 p hp).2]at d;rw[(j.2.2 p hp).1]at f;have l:∀x:Int,plainElem (H:=Unit) prog 3 v=some (DataW.lit (.int .i64 x),r)->v=.int .i64 x:=fun x q=>by
  obtain⟨a,rfl,e,t⟩:=plainElem_int_inv underlying3 q;simp at e;rw[e.1]
 cases b:A.find? fun c=>decide (c.1=p)with
 |none=>
  right;rw[b]at f;have m:=AJ.1 b;have i:(A.any fun c=>decide (c.1=p))=false:=Ex.2 m;rw[i,l 0 f]at d;exact⟨fun o=>by
   have⟨c,g,e⟩:=dm.1 o;exact m c g (aQ e),d⟩
 |some c=>
  left;rw[b]at f;have g:=List.mem_of_find?_eq_some b;have k:c.1=p:=by simpa using List.find?_some b
  have i:(A.any fun c=>decide (c.1=p))=true:=List.any_eq_true.2 ⟨c,g,aQ k⟩;rw[i,l c.2 f]at d;exact⟨c,g,k,d⟩
theorem lD.size {w:World} {mb:Nat} {A:List eU} (h:lD w mb A):(Builtin.len_ #[188] 3 #[.map (some mb)]).run prog w=.ok (.int .i64 A.length) w:=by
 have⟨D,a,b⟩:=h;rw[a.len underlying188 3,b.2.1]
abbrev zf:Value:=.func (.func 52) #[] #[]
abbrev D5:Value:=.func (.func 53) #[] #[]
structure jb (w:World) (X:Nat->Prop) (Hb Cb mb:Nat) (cv tv av lv:Value) (ch:List Ac) (T:List (Option Nat)) (al:List Bool) (eY:List Int) (A:List eU) (N wk:Int):Prop where
 blk:w.heap[Hb]? =some (Obj.cells #[zf,D5,aj Cb,tv,av,lv,.map (some mb)] 190 (0,0))
 fM:mY w 0 Cb cv ch N wk
 rows:qX w ch
 jC:w.ownsRow 0 106 1 tv T.length (T.map vTr)
 dK:w.ownsRow 0 4 1 av al.length (al.map Value.bool)
 nz:w.ownsRow 0 3 1 lv eY.length (eY.map (Value.int .i64))
 map:lD w mb A
 jh:X Hb/\X Cb/\X mb/\(∀k,cv.ownBlock=some k->X k)/\(∀k,tv.ownBlock=some k->X k)/\(∀k,av.ownBlock=some k->X k)/\(∀k,lv.ownBlock=some k->X k)
 Qq:∀h∈ch,h.2.1≠[]->∀a,h.1=some a->X a.block
structure nR (w:World) (F:Nat->Nat->Prop) (X:Nat->Prop) (CB:List (List eU)) (T:List (Option Nat)) (al:List Bool):Prop where
 tr:∀(i:Nat) (h:i<CB.length),CB[i]≠[]->∃tb n0,T[i]? =some (some tb)/\n0<=CB[i].length/\Bk w (F i) tb n0 (sJ al CB[i])
 off:∀i k,F i k->¬X k
 ap:∀i j k,F i k->F j k->i=j
 lt:∀i k,F i k->k<w.heap.size
section
variable {w w':World} {X S:Nat->Prop} {F:Nat->Nat->Prop} {Hb Cb mb:Nat} {cv tv av lv:Value} {ch:List Ac} {T:List (Option Nat)} {al:List Bool} {eY:List Int} {A:List eU} {N wk:Int} {CB:List (List eU)}
theorem jb.kept (h:jb w X Hb Cb mb cv tv av lv ch T al eY A N wk) (K:ay S w w') (hS:∀k,X k->¬S k):jb w' X Hb Cb mb cv tv av lv ch T al eY A N wk:=
 ⟨bq K h.blk (hS _ h.jh.1),⟨aY _,h.fM.ds,bq K h.fM.blk (hS _ h.jh.2.1),aR h.fM.row K fun a e=>hS _ (h.jh.2.2.2.1 a e)⟩,h.rows.NP h.Qq K hS,aR h.jC K fun a e=>hS _ (h.jh.2.2.2.2.1 a e),aR h.dK K fun a e=>hS _ (h.jh.2.2.2.2.2.1 a e),aR h.nz K fun a e=>hS _ (h.jh.2.2.2.2.2.2 a e),h.map.same (K.block _ h.map.lt (hS _ h.jh.2.2.1)),h.jh,h.Qq⟩
theorem jb.below (h:jb w X Hb Cb mb cv tv av lv ch T al eY A N wk) (a:Below w.heap.size w w'):jb w' X Hb Cb mb cv tv av lv ch T al eY A N wk:=h.kept (S:=fun _=>False) ((ay.refl _ _).below a) fun _ _ h=>h
theorem jb.cell (h:jb w X Hb Cb mb cv tv av lv ch T al eY A N wk):w.cell? (ag Hb 0)=some zf/\w.cell? (ag Hb 1)=some D5/\w.cell? (ag Hb 2)=some (aj Cb)/\w.cell? (ag Hb 3)=some tv/\w.cell? (ag Hb 4)=some av/\w.cell? (ag Hb 5)=some lv/\w.cell? (ag Hb 6)=some (.map (some mb)):=by
 have:=h.blk;refine⟨?_,?_,?_,?_,?_,?_,?_⟩<;>simp[World.cell?,this]
theorem jb.frozen (h:jb w X Hb Cb mb cv tv av lv ch T al eY A N wk) (j:Nat):w.frozen? (ag Hb j)=false:=by
 have:=h.blk;simp[World.frozen?,this]
theorem jb.lt (h:jb w X Hb Cb mb cv tv av lv ch T al eY A N wk):Hb<w.heap.size:=(aZ.1 h.blk).1
theorem nR.kept (h:nR w F X CB T al) (K:ay S w w') (hS:∀i k,F i k->¬S k):nR w' F X CB T al:=
 ⟨fun i hi e=>by
  have⟨tb,n0,a,b,c⟩:=h.tr i hi e;exact⟨tb,n0,a,b,c.kept K (hS i)⟩,h.off,h.ap,fun i k d=>bX (h.lt i k d) K.size⟩
theorem Ah (h:jb w X Hb Cb mb cv tv av lv ch T al eY A N wk):aK 134 #[aj Hb] w fun e w'=>e=.returned (.bool false)/\w'=w:=by
 obtain⟨-,-,a,-⟩:=h.cell;go_enter func134,ntmps134;go_wp2;go_ret;exact⟨rfl,rfl⟩
theorem MZ (h:jb w X Hb Cb mb cv tv av lv ch T al eY A N wk):aK 87 #[aj Hb] w (gm w (ae N)):=by
 have b:=af (Ah h);have a:=af (NQ h.fM);obtain⟨-,-,d,-⟩:=h.cell;go_enter func87,ntmps87
 go_wp2_with (first|(go_at_call 134;refine b.o.mono ?_;rintro e w1 ⟨rfl,rfl⟩)|(go_at_call 139;refine a.o.mono ?_;rintro e w1 ⟨rfl,c⟩))
 go_ret;exact⟨rfl,c⟩
end
end
section
open Go.RowKit Go.Sort Go.Shelf Go.Lib Go.Maps
theorem dG {W:World} {base:Nat} {e:TypeId} {sz n:Nat} {v:Value} {xs:List Value} (d:W.ownsRow base e sz v n xs) {k:Nat} (b:v.ownBlock=some k):∃a,W.heap[k]? =some (Obj.cells a e (0,0)):=by
 rcases d.2 with⟨rfl,_⟩|⟨g,f,a,rfl,_,c,_⟩
 .cases b
 .simp only[Value.ownBlock,jl]at b;subst b;exact⟨a,c⟩
theorem Cy {P:Program} {ops:Array Oper} {o:Oper} {a:Act} {K:Act->World->Prop} {Q:Exit->Act->World->Prop} {E0:Prop} {f:FuncId} {w:World} {vals:Array Value} {R:Ending->World->Prop} (j:∀args w,(callFunc f args).run P w=.ok (.enter f args) w) (k:o.guard=none) (c:Operand) (args:Array Operand) (q:Array TypeId) (m:o.op=.call {callee:=.value c,args:=args,argTypes:=q}) (g:a.eval c=.func (.func f) #[] #[]) (d:vals=(args.toList.map a.eval).toArray)
  (C:Calls P f vals w R) (h:∀e w',R e w'->∃v,e=.returned v/\K (a.put o.dst v) w'):
  if Region.wanted o (yielded ops a.tmps)=true then Oper.wp P o a w K Q else E0:=by
 have p:Region.wanted o (yielded ops a.tmps)=true:=by simp[Region.wanted,k]
 rw[aO p];unfold Oper.wp;have b:args.map a.eval=vals:=by rw[d,<-Ez]
 have i:(execOp a.eval o).run P w=.ok (.enter f vals) w:=by
  simp[execOp,m,resolve,invoke,b,g,Deferred.ofValue,j]
 rw[i,Oper.upon_enter];refine C.mono fun e w' n=>?_;obtain⟨v,rfl,l⟩:=h e w' n;exact l
abbrev q9:TypeId:=190
abbrev vW (Cb mb:Nat) (tv av lv:Value):Array Value:=#[zf,D5,aj Cb,tv,av,lv,.map (some mb)]
section
variable {w w' w6:World} {X S:Nat->Prop} {F:Nat->Nat->Prop} {Hb Cb mb:Nat} {cv tv av lv:Value} {ch:List Ac} {T:List (Option Nat)} {al:List Bool} {eY:List Int} {A:List eU} {N wk:Int} {CB:List (List eU)}
theorem jb.more {X':Nat->Prop} (h:jb w X Hb Cb mb cv tv av lv ch T al eY A N wk) (b:∀k,X k->X' k):jb w X' Hb Cb mb cv tv av lv ch T al eY A N wk:=
 ⟨h.blk,h.fM,h.rows,h.jC,h.dK,h.nz,h.map,⟨b _ h.jh.1,b _ h.jh.2.1,b _ h.jh.2.2.1,fun k e=>b _ (h.jh.2.2.2.1 k e),fun k e=>b _ (h.jh.2.2.2.2.1 k e),fun k e=>b _ (h.jh.2.2.2.2.2.1 k e),fun k e=>b _ (h.jh.2.2.2.2.2.2 k e)⟩,fun x d c a e=>b _ (h.Qq x d c a e)⟩
theorem jb.ty (h:jb w X Hb Cb mb cv tv av lv ch T al eY A N wk) {t:TypeId} (K:ay S w w') (hS:∀k,S k->k=Hb\/∃cs fr,w.heap[k]? =some (Obj.cells cs t fr)):
  (t≠278/\t≠213->mY w' 0 Cb cv ch N wk)/\(t≠187->qX w' ch)/\(t≠106->w'.ownsRow 0 106 1 tv T.length (T.map vTr))/\
  (t≠4->w'.ownsRow 0 4 1 av al.length (al.map Value.bool))/\(t≠3->w'.ownsRow 0 3 1 lv eY.length (eY.map (Value.int .i64)))/\lD w' mb A:=by
 have l:∀{b:Nat} {cs:Array Value} {d:TypeId} {fr:Nat×Nat},w.heap[b]? =some (Obj.cells cs d fr)->d≠q9->t≠d->w'.heap[b]? =w.heap[b]? :=fun{b cs d fr} a f g=>K.block b (aZ.1 a).1 fun j=>by
  rcases hS b j with rfl|⟨o,r,i⟩
  .exact dW a h.blk f rfl
  .exact dW i a g rfl
 have c:∀{e:TypeId} {sz n:Nat} {v:Value} {xs:List Value},w.ownsRow 0 e sz v n xs->e≠q9->t≠e->w'.ownsRow 0 e sz v n xs:=fun{e sz n v xs} m f g=>aX m fun y q=>by
  have⟨p,s⟩:=dG m q;exact l s f g
 refine⟨fun ht=>⟨aY _,h.fM.ds,(l h.fM.blk ai ht.1).trans h.fM.blk,c h.fM.row ai ht.2⟩,fun ht=>h.rows.kept fun b p fr a=>l a ai ht,fun ht=>c h.jC ai ht,fun ht=>c h.dK ai ht,fun ht=>c h.nz ai ht,h.map.same ?_⟩;refine K.block _ h.map.lt fun j=>?_;obtain⟨D,⟨x,u,a,-⟩,-⟩:=h.map;rcases hS mb j with e|⟨o,r,i⟩
 .rw[e,h.blk]at a;cases a
 .rw[i]at a;cases a
theorem jb.zJ (h:jb w X Hb Cb mb cv tv av lv ch T al eY A N wk) {e:TypeId} {n:Nat} {v:Value} {xs:List Value} (d:w.ownsRow 0 e 1 v n xs) (c:e≠q9):v.ownBlock≠some Hb:=fun a=>by
 have⟨f,b⟩:=dG d a;exact dW h.blk b (fun h=>c h.symm) rfl
theorem jb.UZ (h:jb w X Hb Cb mb cv tv av lv ch T al eY A N wk) {v a:Value} (f:v.ownBlock≠some Hb) (d:a.ownBlock=v.ownBlock\/∃b,a.ownBlock=some b/\w.heap.size<=b):a.ownBlock≠some Hb:=by
 rcases d with e|⟨b,e,d⟩
 .rw[e];exact f
 .rw[e];intro c;injection c with c;have:=h.lt;omega
theorem jb.Sl (h:jb w X Hb Cb mb cv tv av lv ch T al eY A N wk) (c:w.grownBy w6 tv.ownBlock) {tv':Value} {T':List (Option Nat)} (m:w6.ownsRow 0 106 1 tv' T'.length (T'.map vTr)) (l:tv'.ownBlock≠some Hb):
  jb (w6.setCell (ag Hb 3) tv') (fun k=>X k\/tv'.ownBlock=some k) Hb Cb mb cv tv' av lv ch T' al eY A N wk:=by
 have b:=h.zJ h.jC ai;have d:ay (fun k=>k=Hb\/tv.ownBlock=some k) w (w6.setCell (ag Hb 3) tv'):=(((ay.refl (fun k=>k=Hb\/tv.ownBlock=some k) w).grown c fun k e=>.inl (.inr e)).set _ (.inl (.inl rfl)));obtain⟨t1,t2,-,t4,t5,t6⟩:=h.ty (t:=106) d (fun k j=>j.imp id fun e=>by obtain⟨o,i⟩:=dG h.jC e;exact⟨_,_,i⟩);have g:w6.heap[Hb]? =some (Obj.cells (vW Cb mb tv av lv) q9 (0,0)):=(c.block Hb h.lt fun e=>b e.symm).trans h.blk;refine⟨?_,t1 ai,t2 ai,aX m fun p e=>aC fun f=>l (by rw[e,<-f]),t4 ai,t5 ai,t6,⟨.inl h.jh.1,.inl h.jh.2.1,.inl h.jh.2.2.1,fun k e=>.inl (h.jh.2.2.2.1 k e),fun k e=>.inr e,fun k e=>.inl (h.jh.2.2.2.2.2.1 k e),fun k e=>.inl (h.jh.2.2.2.2.2.2 k e)⟩,fun x n b a e=>.inl (h.Qq x n b a e)⟩;rw[di w6 Hb 3 _ _ _ g];rfl
theorem jb.U0 {g n c:Nat} (h:jb w X Hb Cb mb cv (az g n c) av lv ch T al eY A N wk) (j:Nat) (x:Option Nat):jb (w.setCell (ag g j) (vTr x)) X Hb Cb mb cv (az g n c) av lv ch (T.set j x) al eY A N wk:=by
 have i:=h.zJ h.jC ai;have b:ay (fun k=>k=g) w (w.setCell (ag g j) (vTr x)):=(ay.refl (fun k=>k=g) w).set _ (.inl rfl);obtain⟨t1,t2,-,t4,t5,t6⟩:=h.ty (t:=106) b (fun k f=>.inr (by obtain⟨l,d⟩:=dG h.jC (k:=k) (by rw[f];rfl);exact⟨_,_,d⟩));obtain rfl:n=T.length:=by
  rcases h.jC.2 with⟨e,_⟩|⟨_,_,_,e,_⟩
  .cases e
  .injection e with _ e
 refine⟨(aC (a:=(ag g j)) fun e:g=Hb=>i (by show some g=_;rw[e])).trans h.blk,t1 ai,t2 ai,?_,t4 ai,t5 ai,t6,h.jh,h.Qq⟩;rw[kL,kJ];exact(h.jC.stored j (vTr x)).1
theorem jb.VQ {g n c:Nat} (h:jb w X Hb Cb mb cv tv av (az g n c) ch T al eY A N wk) (j:Nat) (x:Int):jb (w.setCell (ag g j) (.int .i64 x)) X Hb Cb mb cv tv av (az g n c) ch T al (eY.set j x) A N wk:=by
 have i:=h.zJ h.nz ai;have b:ay (fun k=>k=g) w (w.setCell (ag g j) (.int .i64 x)):=(ay.refl (fun k=>k=g) w).set _ (.inl rfl);obtain⟨t1,t2,t3,t4,-,t6⟩:=h.ty (t:=3) b (fun k f=>.inr (by obtain⟨l,d⟩:=dG h.nz (k:=k) (by rw[f];rfl);exact⟨_,_,d⟩));obtain rfl:n=eY.length:=by
  rcases h.nz.2 with⟨e,_⟩|⟨_,_,_,e,_⟩
  .cases e
  .injection e with _ e
 refine⟨(aC (a:=(ag g j)) fun e:g=Hb=>i (by show some g=_;rw[e])).trans h.blk,t1 ai,t2 ai,t3 ai,t4 ai,?_,t6,h.jh,h.Qq⟩;rw[kL,kJ];exact(h.nz.stored j (.int .i64 x)).1
theorem jb.VR {g n c:Nat} (h:jb w X Hb Cb mb cv tv (az g n c) lv ch T al eY A N wk) (j:Nat) (x:Bool):jb (w.setCell (ag g j) (.bool x)) X Hb Cb mb cv tv (az g n c) lv ch T (al.set j x) eY A N wk:=by
 have i:=h.zJ h.dK ai;have b:ay (fun k=>k=g) w (w.setCell (ag g j) (.bool x)):=(ay.refl (fun k=>k=g) w).set _ (.inl rfl);obtain⟨t1,t2,t3,-,t5,t6⟩:=h.ty (t:=4) b (fun k f=>.inr (by obtain⟨l,d⟩:=dG h.dK (k:=k) (by rw[f];rfl);exact⟨_,_,d⟩));obtain rfl:n=al.length:=by
  rcases h.dK.2 with⟨e,_⟩|⟨_,_,_,e,_⟩
  .cases e
  .injection e with _ e
 refine⟨(aC (a:=(ag g j)) fun e:g=Hb=>i (by show some g=_;rw[e])).trans h.blk,t1 ai,t2 ai,t3 ai,?_,t5 ai,t6,h.jh,h.Qq⟩;rw[kL,kJ];exact(h.dK.stored j (.bool x)).1
theorem jb.PI {f:Value} {g:List Ac} {p u:Int} (h:jb w X Hb Cb mb cv tv av lv ch T al eY A N wk) (K:ay (fun k=>k=Cb\/cv.ownBlock=some k) w w') (d:mY w' 0 Cb f g p u) (i:qX w' g) (B:Nw w.heap.size ch g) (c:f.ownBlock=cv.ownBlock\/f.ownBlock=none\/∃b,f.ownBlock=some b/\w.heap.size<=b):
  jb w' (fun k=>X k\/w.heap.size<=k/\(f.ownBlock=some k\/∃h∈g,h.2.1≠[]/\∃a,h.1=some a/\a.block=k)) Hb Cb mb f tv av lv g T al eY A p u:=by
 have t:∀{b:Nat} {cs:Array Value} {j:TypeId} {fr:Nat×Nat},w.heap[b]? =some (Obj.cells cs j fr)->j≠278->j≠213->w'.heap[b]? =w.heap[b]? :=fun{b cs j fr} c l m=>K.block b (aZ.1 c).1 fun h9=>by
  rcases h9 with rfl|h9
  .exact dW c h.fM.blk l rfl
  .obtain⟨q,d⟩:=dG h.fM.row h9;exact dW c d m rfl
 have o:∀{e:TypeId} {sz n:Nat} {v:Value} {xs:List Value},w.ownsRow 0 e sz v n xs->e≠278->e≠213->w'.ownsRow 0 e sz v n xs:=fun{e sz n v xs} i l m=>aX i fun F y=>by
  have⟨q,d⟩:=dG i y;exact t d l m
 refine⟨(t h.blk ai ai).trans h.blk,d,i,o h.jC ai ai,o h.dK ai ai,o h.nz ai ai,h.map.same ?_,⟨.inl h.jh.1,.inl h.jh.2.1,.inl h.jh.2.2.1,fun k e=>?_,fun k e=>.inl (h.jh.2.2.2.2.1 k e),fun k e=>.inl (h.jh.2.2.2.2.2.1 k e),fun k e=>.inl (h.jh.2.2.2.2.2.2 k e)⟩,fun x s r a e=>?_⟩
 .refine K.block _ h.map.lt fun h9=>?_;obtain⟨D,⟨E,C,c,-⟩,-⟩:=h.map;rcases h9 with e|e
  .rw[e,h.fM.blk]at c;cases c
  .obtain⟨q,d⟩:=dG h.fM.row e;rw[d]at c;cases c
 .rcases c with e1|e1|⟨b,e1,c⟩
  .exact .inl (h.jh.2.2.2.1 k (by rw[<-e1];exact e))
  .rw[e1]at e;cases e
  .have:b=k:=by rw[e1]at e;injection e
   exact .inr ⟨aa,.inl e⟩
 .rcases B x s with z|h9
  .exact .inl (h.Qq x z r a e)
  .exact .inr ⟨h9 a e,.inr ⟨x,s,r,a,e,rfl⟩⟩
end
end
section
open Go.RowKit Go.Sort Go.Shelf Go.Lib Go.Maps
attribute [local irreducible] wpQuiet
attribute [local go_sem] Oper.fw
theorem U1:eH prog 111 106 1 8:=.mk' (z:=.pointer none) underlying111 aM rfl ai
theorem JU:fV 52:=bY func52 aM rfl
def Cz (Hb:Nat) (w:World):Nat:=match w.cell? (ag Hb 3)with|some (.slice _ n _)=>n|_=>0
section
variable {w w' w6:World} {X S:Nat->Prop} {F:Nat->Nat->Prop} {Hb Cb mb:Nat} {cv tv av lv:Value} {ch:List Ac} {T:List (Option Nat)} {al:List Bool} {eY:List Int} {A:List eU} {N wk:Int}
theorem jb.Cz (h:jb w X Hb Cb mb cv tv av lv ch T al eY A N wk):Cz Hb w=T.length:=by
 obtain⟨a,b,rfl,-,-,-⟩:=Rd.aD (enc:=vTr) h.jC;unfold Proofs.YtkjdbndekceffaaGreat.Cz;rw[h.cell.2.2.2.1]
def zT (T:List (Option Nat)) (i tb:Nat):List (Option Nat):=(T++List.replicate (i+1-T.length) none).set i (some tb)
def U2 (w:World) (X:Nat->Prop) (Hb Cb mb:Nat) (cv tv av lv:Value) (ch:List Ac) (T:List (Option Nat)) (al:List Bool) (eY:List Int) (A:List eU) (N wk:Int) (l:List eU) (i:Nat) (e:Ending) (w':World):Prop:=
 e=.returned (.tuple #[])/\∃(tv':Value) (tb m:Nat) (Fn:Nat->Prop),jb w' (fun k=>X k\/w.heap.size<=k/\k<m) Hb Cb mb cv tv' av lv ch (zT T i tb) al (iq eY l i) A N wk/\Bk w' Fn tb (sJ al l).length (sJ al l)/\(∀k,Fn k->m<=k)/\(w.heap.size<=m/\m<=w'.heap.size)/\
  (tv'.ownBlock=tv.ownBlock\/∃b,tv'.ownBlock=some b/\w.heap.size<=b)/\ay (fun k=>k=Hb\/tv.ownBlock=some k\/lv.ownBlock=some k) w w'
theorem K3 (h:jb w X Hb Cb mb cv tv av lv ch T al eY A N wk) (a:Option Addr) (c:Nat) (l:List eU) (i:Nat) (br:LH w a l) (hi:i<=20) (cN:T.length<=100) (c7:l.length<=5000) (bw:∀c∈l,∃k:Nat,c.2=k/\k<al.length) (bv:eY.length=al.length) (cQ:al.length<=10000) (bE:Il (sJ al l)) (hu:(ids (sJ al l)).Nodup) (bn:∀k,X k->k<w.heap.size):
  aK 136 #[aj Hb,ae i,.slice a l.length c] w (U2 w X Hb Cb mb cv tv av lv ch T al eY A N wk l i):=by
 have H:=af h;have bX:Hid (∀W',ay (fun k=>k=Hb\/tv.ownBlock=some k\/lv.ownBlock=some k) w W'->bW ll 4 W' a l):=fun W' K=>(br.kept fun b bj fr hb=>K.block b (aZ.1 hb).1 (by
  rintro(rfl|e|e)
  .exact dW hb h.blk ai rfl
  .obtain⟨bj,aW⟩:=dG h.jC e;exact dW hb aW ai rfl
  .obtain⟨bj,aW⟩:=dG h.nz e;exact dW hb aW ai rfl)).Nv
 have bR:=af bw;have b3:=af bE;have b2:=af hu;have a9:=af bv;have b4:=af bn;have cC:Hid (∀m,tv.ownBlock=some m->m<w.heap.size):=fun m e=>(h.jC.lt m e).2;have bP:Hid (∀m,lv.ownBlock=some m->m<w.heap.size):=fun m e=>(h.nz.lt m e).2;clear h br bw bE hu bv bn;go_enter func136,ntmps136
 go_upto_block 0 with fail
 go_cut []from 10 to 26 (fun D=>∃tv':Value,Hid (jb D (fun b=>X b\/w.heap.size<=b/\b<D.heap.size) Hb Cb mb cv tv' av lv ch (T++List.replicate (i+1-T.length) none) al eY A N wk)/\Hid (tv'.ownBlock=tv.ownBlock\/∃b,tv'.ownBlock=some b/\w.heap.size<=b)/\Hid (ay (fun b=>b=Hb\/tv.ownBlock=some b) w D))
 case first=>
  go_wp2_with fail
  go_loopw [] (fun wr=>∃(k:Nat) (tv':Value),k<=i+1-T.length/\Hid (jb wr (fun b=>X b\/w.heap.size<=b/\b<wr.heap.size) Hb Cb mb cv tv' av lv ch (T++List.replicate k none) al eY A N wk)/\Hid (tv'.ownBlock=tv.ownBlock\/∃b,tv'.ownBlock=some b/\w.heap.size<=b)/\Hid (ay (fun b=>b=Hb\/tv.ownBlock=some b) w wr)) (fun wr=>i+1-Cz Hb wr)
  case atStart=>exact⟨0,tv,aY _,af (by rw[List.replicate_zero,iO];exact H.o.more fun k hk=>.inl hk),.inl rfl,ay.refl _ _⟩
  case round=>
   obtain⟨k,tv',hk,d,E,B⟩:=hrel;obtain⟨cw,tc,F,-,da,-⟩:=Rd.aD (enc:=vTr) d.o.jC;obtain⟨-,-,-,ar,-⟩:=d.o.cell;have cA:=af d.o.Cz;have bt:(T++List.replicate k (none:Option Nat)).length=T.length+k:=aA;by_cases c5:T.length+k<=i
   .have bC:=d.o.jC;have bN:Hid (∀z,wr.grownBy z tv'.ownBlock->z.heap[Hb]? =some (Obj.cells (vW Cb mb tv' av lv) q9 (0,0))):=fun z u=>(u.block Hb d.o.lt fun e=>d.o.zJ d.o.jC ai e.symm).trans d.o.blk;have cD:=B.o.size;rw[bt]at bC F;subst F
    go_wp2_with (at_builtin;go_loud (refine cu U1 0 bC [.pointer none] rfl (by simp[Value.oneCell']) rfl _ _ rfl rfl _ rfl dJ aa (aY _) ?_;intro cx z ac u aV;obtain⟨M,aw,rfl,cS,cT,cU,cV⟩:=aU ac aa;have bG:=bN.o z u;have de:z.cell? (ag Hb 3)=some (.slice cw (T.length+k) tc):=(aF bG);have df:z.frozen? (ag Hb 3)=false:=(aF bG)))
    have cp:z.ownsRow 0 106 1 (az M (T.length+k+1) aw) (T++List.replicate (k+1) none).length ((T++List.replicate (k+1) none).map vTr):=by
     rw[bQ,iA,<-uY,rA,<-dY,bL (l₁:=T++_)];exact ac
    have aT:=gJ aV;have bq:=d.o.Sl u cp (d.o.UZ (d.o.zJ d.o.jC ai) aT);have cZ:=u.size;have bo:Value.ownBlock (az M (T.length+k+1) aw)=tv.ownBlock\/∃b,Value.ownBlock (az M (T.length+k+1) aw)=some b/\w.heap.size<=b:=by
     rcases aT with f|⟨b,f,aQ⟩
     .rw[f];exact E.o
     .exact .inr ⟨b,f,aa⟩
    have a5:=af bq;have a4:=af bo;clear aT aV bq bo;go_roundw
    case rel=>
     refine⟨k+1,_,aa,a5.o.more ?_,a4,(B.o.grown u ?_).set (a:=(ag Hb 3)) _ (.inl (.inl rfl))⟩
     .rintro b ((hb|hb)|hb)
      .exact .inl hb
      .exact .inr ⟨hb.1,aG⟩
      .have aE:M=b:=by injection hb
       rcases a4.o with f|⟨be,f,aQ⟩
       .exact .inl (H.o.jh.2.2.2.2.1 b (f.symm.trans hb))
       .have cK:M=be:=by injection f
        exact .inr ⟨aa,aG⟩
     .intro b hb;rcases E.o with f|⟨be,f,aQ⟩
      .exact .inl (.inr (f.symm.trans hb))
      .rw[f]at hb;injection hb with hb;exact .inr aa
    case measure=>
     rw[a5.o.Cz,d.o.Cz];simp;omega
   .have e:k=i+1-T.length:=aa;subst e;have cJ:¬((T.length+(i+1-T.length):Nat):Int)<=(i:Int):=aa;rw[bt]at F;subst F
    go_wp2_with fail
    go_meet;exact⟨_,d,E,B⟩
 case rest=>
  obtain⟨tv',d,E,B⟩:=hcut;obtain⟨w1,ce⟩:∃w1:World,w1=wc:=⟨_,rfl⟩;subst ce;have cP:(T++List.replicate (i+1-T.length) (none:Option Nat)).length=max T.length (i+1):=aG;have b1:Hid (∀tb,(T++List.replicate (i+1-T.length) (none:Option Nat)).set i (some tb)=zT T i tb):=fun tb=>rfl;generalize T++List.replicate (i+1-T.length) (none:Option Nat)=ab at*;have cq:=B.o.size
  go_upto_block 2 with fail
  go_cut [7,9,29]from 30 to 54 (fun pv cL am D=>∃y:Value,y=pv/\Hid (jb D (fun b=>X b\/w.heap.size<=b/\b<w1.heap.size) Hb Cb mb cv tv' av lv ch ab al (iq eY l i) A N wk)/\Hid (D.ownsRow w1.heap.size 29 3 y (sJ al l).length ((sJ al l).flatMap dw))/\Hid (ay (fun b=>lv.ownBlock=some b) w1 D))
  case first=>
   go_wp2_with fail
   go_loopw [29,7] (fun am pv wr=>∃(j:Nat) (y:Value),am=.int .i64 j/\y=pv/\j<=l.length/\Hid (jb wr (fun b=>X b\/w.heap.size<=b/\b<w1.heap.size) Hb Cb mb cv tv' av lv ch ab al (iq eY (l.take j) i) A N wk)/\Hid (wr.ownsRow w1.heap.size 29 3 y (sJ al (l.take j)).length ((sJ al (l.take j)).flatMap dw))/\Hid (ay (fun b=>lv.ownBlock=some b) w1 wr)) (fun am _ _=>l.length-(intOf am).toNat)
   case atStart=>exact⟨0,_,rfl,rfl,aY _,d,dA _ _ _ _,ay.refl _ _⟩
   case round=>
    obtain⟨j,y,rfl,rfl,c1,I,HO,U⟩:=hrel;have c9:=U.o.size;by_cases C:j<l.length
    .obtain⟨cF,dc,ca,cR,P⟩:=(bX.o wr ((B.o.mono fun k h=>h.imp id .inl).trans (U.o.mono fun k h=>.inr (.inr h)))).get aa;have a0:=P j C 0 aa;have x1:=P j C 1 aa;have x2:=P j C 2 aa;have a1:=P j C 3 aa;simp only[ll,fI,dz,dI]at a0 x1 x2 a1;obtain⟨q,ak,bx⟩:=bR.o l[j] (bF C);have cn:(iq eY (l.take j) i).length=al.length:=by rw[nk];exact a9.o
     obtain⟨gl,lc,bk,-,cX,-,-⟩:=aU I.o.nz aa;rw[cn]at bk;obtain⟨cG,b5,cb,-,-,bz⟩:=Rd.aD I.o.dK;obtain⟨lb,lo,cc,c4,bs⟩:=bz.get aa;have a2:=bs q bx;have L:Hid (sJ al (l.take (j+1))=sJ al (l.take j)++(if al[q]=true then[(l[j]).1]else[])):=by
      show _=_;unfold sJ;rw[ik C,mI,bL];congr 1;unfold cO;rw[l5,ak];simp only[ib,bZ bx];cases al[q]<;>simp
     have bb:Hid (iq eY (l.take (j+1)) i=(iq eY (l.take j) i).set q i):=by
      show _=_;rw[ik C,GK,ak,ib]
     have c3:(sJ al (l.take j)).length<=5000:=by
      unfold sJ;rw[bU];have O:=gD (cO al) (l.take j);have aP:(l.take j).length<=l.length:=by rw[eQ];omega
      omega
     rw[ak]at a1;clear P bs bz ak;generalize sJ al (l.take j)=cE at*;generalize cm:iq eY (l.take j) i=bd at*;have co:bd.length=al.length:=by rw[<-cm,nk];exact a9.o
     generalize al[q]=bf at*;generalize l[j]=x at*;obtain⟨⟨s,t,r⟩,dd⟩:=x;simp only at a0 x1 x2 L;subst ca cc cb bk;have cY:=bP.o gl rfl;have c8:(q:Int)<(al.length:Int):=aa;have c2:(j:Int)<(l.length:Int):=aa;have S:Below wr.heap.size wr (wr.alloc (.cells #[ae s,ae t,au r,ae q] 187)):=(aJ _ _).alloc (aB _) _;have aX:(wr.alloc (.cells #[ae s,ae t,au r,ae q] 187)).heap[wr.heap.size]? =some (.cells #[ae s,ae t,au r,ae q] 187 (0,0)):=bV _ _;have cs:(wr.alloc (.cells #[ae s,ae t,au r,ae q] 187)).heap.size=wr.heap.size+1:=aA;have a3:=(S.cell (p:=(ag lb (lo+q))) (gX wr _ a2)).trans a2;have J:=af (I.o.below S);have aq:=af (HO.o.alloc (.cells #[ae s,ae t,au r,ae q] 187));have a7:Hid (ay (fun b=>Value.ownBlock (az gl al.length lc)=some b) w1 (wr.alloc (.cells #[ae s,ae t,au r,ae q] 187))):=U.o.below S
     go_wp2_with fail
     generalize(wr.alloc (.cells #[ae s,ae t,au r,ae q] 187))=n at*;clear a0 x1 x2 a1 a2 S;obtain⟨-,-,-,-,-,bi,-⟩:=J.o.cell;have cj:=ah bi;have aL:=ah (w:=n) (ad:=(ag wr.heap.size 3)) (v:=.int .i64 q) (eP aX);have Q:=J.o.nz;rw[co]at Q;have bK:=Q.cellAt q aa;rw[bZ (by rw[bU];omega)]at bK;have cg:=Q.frozenAt q;have cB:=af (Q.lt gl rfl).2;clear Q;refine ax (fun W=>∃p:aS n,W=p.W) [7,8] [(0,false),(1,false),(2,false),(3,true),(4,false),(5,true),(6,false)] ⟨⟨_,(aJ _ _).drew⟩,rfl⟩ 2 ?_;refine aI [7,8] ?_;clear cj aL bi;have bc:=af (J.o.VQ q i);have an:(n.setCell (ag gl q) (.int .i64 i)).heap[wr.heap.size]? =some (.cells #[ae s,ae t,au r,ae q] 187 (0,0)):=(aC (a:=(ag gl q)) (fun e:gl=wr.heap.size=>aa)).trans aX;have Z:ay (fun k=>k=gl) n (n.setCell (ag gl q) (.int .i64 i)):=(ay.refl (fun k=>k=gl) n).set _ (.inl rfl);have cy:(n.setCell (ag gl q) (.int .i64 i)).cell? (ag lb (lo+q))=some (.bool bf):=(dC (Z.block lb (gX _ _ a3) (by
      intro e;obtain⟨cH,O⟩:=dG J.o.dK (k:=lb) rfl;obtain⟨cI,aP⟩:=dG J.o.nz (k:=gl) rfl;exact dW O aP ai e))).trans a3
     have bT:=af (aR aq.o Z (fun m e (h:m=gl)=>by have:=(aq.o.lt m e).1;omega));have V:Hid (ay (fun b=>Value.ownBlock (az gl al.length lc)=some b) w1 (n.setCell (ag gl q) (.int .i64 i))):=a7.o.trans (Z.mono fun k h=>by rw[h];rfl);have ct:(n.setCell (ag gl q) (.int .i64 i)).heap.size=n.heap.size:=aA;have b0:Hid (w1.heap.size<=(n.setCell (ag gl q) (.int .i64 i)).heap.size):=by show _<=_;omega
     clear aX Z a3 ct cs
     go_wp2_with fail
     generalize n.setCell (ag gl q) (.int .i64 i)=g at*;clear bK cg aq a7;obtain⟨-,-,-,-,b6,-,-⟩:=bc.o.cell;have b7:g.cell? (ag wr.heap.size 0)=some (ae s):=eP an;have b8:g.cell? (ag wr.heap.size 1)=some (ae t):=eP an;have b9:g.cell? (ag wr.heap.size 2)=some (au r):=eP an;have aE:g.cell? (ag wr.heap.size 3)=some (ae q):=eP an;have ba:=af (bc.o.below ((aJ _ _).drew).drew);have a8:Hid (ay (fun b=>Value.ownBlock (az gl al.length lc)=some b) w1 g.drew.drew):=V.o.drew.drew;have Y:=af ((bT.o.bu 1).bu 1);have cl:=ah (w:=g.drew) b6;have ck:=ah (w:=g.drew) aE;have cr:=ah (w:=g.drew) cy;refine ax (fun W=>∃p:aS g.drew,W=p.W) [] [(0,false),(1,false),(2,false),(3,true),(4,false),(5,true),(6,false),(7,true)] ⟨⟨_,(aJ _ _).drew⟩,rfl⟩ 0 ?_;refine lh aM ?_;clear cl ck cr;cases bf
     .rw[aN ai,iO]at L;go_wp2;go_roundw
      case rel=>exact⟨j+1,_,by go_num,rfl,aa,by rw[bb.o];exact ba,by rw[L.o];exact Y,a8⟩
      case measure=>exact eO
     .rw[aO rfl]at L;have f0:g.drew.drew.cell? (ag wr.heap.size 0)=some (ae s):=b7;have f1:g.drew.drew.cell? (ag wr.heap.size 1)=some (ae t):=b8;have f2:g.drew.drew.cell? (ag wr.heap.size 2)=some (au r):=b9
      go_wp2_with (at_builtin;go_loud (refine cu OM w1.heap.size Y.o [.int .i64 s,.int .i64 t,.int .u32 r] rfl (by simp[Value.oneCell']) rfl _ _ rfl rfl _ (by first|rfl|(show az g.heap.size 1 1=_;simp)) dJ aa b0.o ?_;intro cx w6 ac u aV))
      have bO:Hid (ay (fun b=>Value.ownBlock (az gl al.length lc)=some b) w1 w6):=a8.o.grown u (fun b hb=>.inr (Y.o.lt b hb).1);have bY:Hid (jb w6 (fun b=>X b\/w.heap.size<=b/\b<w1.heap.size) Hb Cb mb cv tv' (.slice (some (ag lb lo)) al.length b5) (az gl al.length lc) ch ab al (bd.set q i) A N wk):=ba.o.kept ((ay.refl (fun b=>y.ownBlock=some b) g.drew.drew).grown u fun b hb=>.inl hb) (fun k hk e=>by
       have O:=(Y.o.lt k e).1;rcases hk with hk|hk
       .have:=b4.o k hk;omega
       .omega)
      go_roundw
      case rel=>exact⟨j+1,_,by go_num,rfl,aa,by rw[bb.o];exact bY,by rw[L.o,bQ,gZ];exact ac,bO⟩
      case measure=>exact eO
    .obtain rfl:j=l.length:=aa;rw[jL]at I HO;have cW:¬(l.length:Int)<(l.length:Int):=aa
     go_wp2_with fail
     go_meet;exact⟨_,rfl,I,HO,U⟩
  case rest=>
   obtain⟨y,rfl,ao,bS,a6⟩:=hcut;obtain⟨w2,cf⟩:∃w2:World,w2=wc:=⟨_,rfl⟩;subst cf;have bD:=a6.o.size;obtain⟨G,tc,F,-,c0,-,-⟩:=aU ao.o.jC aa;subst F;obtain⟨bH,bI,cd,-,-,bA⟩:=bW.aD bg ai bS.o;subst cd;have c6:(sJ al l).length<=5000:=by
    unfold sJ;rw[bU];have O:=gD (cO al) l;omega
   have CB:=af (fun p:aS w2=>TU bH bI (sJ al l) p.W (bA.below p.h) aa b3.o b2.o);obtain⟨bh,-,-,ar,-,-,-⟩:=ao.o.cell;have ci:=ah bh;have aL:=ah ar;clear bh ar;have db:(i:Int)<(ab.length:Int):=aa
   go_wp2_with fail
   refine ax (fun W=>∃p:aS w2,W=p.W) [11,12] [(0,false),(1,false),(2,false),(3,true),(4,false),(5,false),(6,false),(7,false),(8,true),(9,false)] ⟨⟨_,(aJ _ _).drew⟩,rfl⟩ 3 ?_;clear ci aL;refine aH 10 rfl fun K bm=>?_;refine Cy JU rfl _ _ _ rfl rfl (vals:=#[.slice bH (sJ al l).length bI]) rfl (CB.o ⟨_,(aJ _ _).drew⟩) ?_;rintro e bJ ⟨tb,rfl,bl,bp⟩;have R:Below w2.heap.size w2 bJ:=(aJ _ _).drew.trans bp;refine⟨_,rfl,?_⟩;refine bm _ _ (fun _ _=>⟨⟨_,R⟩,rfl⟩) ?_;clear bm K;have bM:=af bl;have ap:=af (ao.o.below R);have cz:=ap.o.jC.cellAt i aa;rw[bZ (by rw[bU];omega)]at cz;have cM:=ap.o.jC.frozenAt i;have V:=af R;clear bl bp R CB bA;refine aI [11,12] ?_;go_wp2
   go_end0
   have hP:=ap.o.U0 i (some tb);rw[b1.o]at hP;refine⟨rfl,_,tb,w1.heap.size,_,hP,bM.o.kept ((ay.refl (fun k=>k=G) bJ).set (a:=(ag G i)) _ (.inl rfl)) (fun k hk h=>?_),fun k hk=>bB bD hk.1,⟨cq,by have:=V.o.size;simp;omega⟩,E.o,?_⟩
   .have O:=(d.o.jC.lt G rfl).2;have aP:=bB bD hk.1;omega
   .refine(((B.o.mono fun k h=>h.imp id .inl).trans (a6.o.mono fun k h=>.inr (.inr h))).below V.o).set (a:=(ag G i)) _ ?_;rcases E.o with f|⟨b,f,aQ⟩
    .exact .inl (.inr (.inl f.symm))
    .have aE:G=b:=by injection f
     exact .inr (show w.heap.size<=G by omega)
end
end
section
open Go.RowKit Go.Sort Go.Shelf Go.Lib Go.Maps
attribute [local irreducible] wpQuiet
def dV (CB:List (List eU)) (m:Nat):List Nat:=((List.range CB.length).drop m).reverse.filter fun i=>!(CB.getD i []).isEmpty
theorem M0 (CB:List (List eU)):dV CB CB.length=[]:=by
 unfold dV;rw[oC aA];rfl
theorem JV (CB:List (List eU)) (k:Nat) (h:k<CB.length):dV CB k=dV CB (k+1)++if CB[k]=[]then[]else[k]:=by
 unfold dV;rw[lU (aQ h),AU,mI];congr 1;rw[xS,l5,jc,bZ h,gI];by_cases e:CB[k]=[]
 .simp[e]
 .simp[e]
theorem zg (CB:List (List eU)) (m:Nat):(dV CB m).length<=CB.length:=by
 unfold dV;refine bB (gD _ _) ?_;simp
def Sm (T:List (Option Nat)) (k:Nat):Value:=vTr (T.getD k none)
section
variable {w w':World} {X S:Nat->Prop} {F:Nat->Nat->Prop} {Hb Cb mb:Nat} {cv tv av lv:Value} {ch:List Ac} {T:List (Option Nat)} {al:List Bool} {eY:List Int} {A:List eU} {N wk:Int}
theorem PK (h:jb w X Hb Cb mb cv tv av lv ch T al eY A N wk) (E:oh (ch.map (·.2.1)) al A N) (ab:∀(i:Nat) (hi:i<(ch.map (·.2.1)).length),(ch.map (·.2.1))[i]≠[]->i<T.length):
  aK 61 #[aj Hb] w fun e w'=>∃v,e=.returned v/\w'.ownsRow w.heap.size 106 1 v (dV (ch.map (·.2.1)) 0).length ((dV (ch.map (·.2.1)) 0).map (Sm T))/\Below w.heap.size w w':=by
 have H:=af h;have P:=af E;have M:=af ab;have ax:ch.length<=13:=by have:=E.levels.1;simpa using this
 have I:=af (Ah h);have G:=af (yB h.fM aa);obtain⟨-,-,S,-⟩:=h.cell;have O:Hid (∀m,(dV (ch.map (·.2.1)) m).length<=13):=fun m=>by have:=zg (ch.map (·.2.1)) m;rw[bU]at this;show _<=_;omega
 go_enter func61,ntmps61
 go_wp2_with (first|(go_at_call 134;refine I.o.mono ?_;rintro e w1 ⟨rfl,x⟩;have W:=x.symm;clear x;subst W)|(go_at_call 141;refine G.o.mono ?_;rintro e w2 ⟨rfl,C⟩;have K:=af C;clear C))
 go_loopw [4,3] (fun q ap wr=>∃(m:Nat) (lw:Value),q=.int .i64 ((m:Int)-1)/\lw=ap/\m<=ch.length/\Hid (wr.ownsRow w.heap.size 106 1 lw (dV (ch.map (·.2.1)) m).length ((dV (ch.map (·.2.1)) m).map (Sm T)))/\Hid (Below w.heap.size w wr)) (fun q _ _=>(intOf q+1).toNat)
 case atStart=>exact⟨ch.length,_,by go_num,rfl,aB _,by have:=M0 (ch.map (·.2.1));rw[bU]at this;rw[this];exact dA _ _ _ _,K⟩
 case round=>
  obtain⟨m,lw,rfl,rfl,aF,HO,c⟩:=hrel;rcases nG m with zQ|zQ
  .subst zQ
   go_wp2_with fail
   go_ret;exact⟨_,rfl,HO.o,c.o⟩
  .obtain⟨k,rfl⟩:∃k,m=k+1:=⟨m-1,aa⟩;have ad:(((k+1:Nat):Int)-1)=(k:Int):=aa;rw[ad];have aC:(0:Int)<=(k:Int):=aa;have n:k<(ch.map (·.2.1)).length:=by rw[bU];omega
   have a:=af (JV (ch.map (·.2.1)) k n);have B:=M.o k n;rw[fO]at a B;have ae:k<ch.length:=aa;have aI:ch[k].2.1.length<=5000:=by
    have:=P.o.few k n;rwa [fO]at this
   have d:=af (H.o.below c.o);have CB:=af (yC d.o.fM d.o.rows aa k ae aa);obtain⟨-,-,S,-⟩:=d.o.cell;generalize ch[k].2.1=lk at*;have aE:=O.o (k+1);generalize dV (ch.map (·.2.1)) (k+1)=L at*;obtain⟨F,Y⟩:∃F:World,F=wr:=⟨_,rfl⟩;subst Y;have am:=c.o.size
   go_wp2_with fail
   refine CB.o.mono ?_;rintro e w3 ⟨aL,rfl,ai,f⟩;have aH:=f.size;have r:Hid (Below w.heap.size w w3):=c.o.trans (f.mono am);have l:=af (ak HO.o f);obtain⟨ar,au,V,-,-,-⟩:=LH.aD ai;subst V;have j:=af (d.o.below f);by_cases g:lk=[]
   .subst g;rw[aO rfl,iO]at a;have an:¬(0:Int)<((([]:List eU).length:Nat):Int):=aA;go_wp2;go_roundw
    case rel=>exact⟨k,_,by go_num,rfl,aa,by rw[a.o];exact l,r⟩
    case measure=>simp[intOf]
   .rw[aN g]at a;have D:=B g;have aG:0<lk.length:=Au.2 g;have an:(0:Int)<((lk.length:Nat):Int):=aa;obtain⟨Z,tc,u,-,ay,-,-⟩:=aU j.o.jC aa;have aq:w3.cell? (ag Z k)=some (Sm T k):=by
     have y:=j.o.jC;rw[u]at y;have z:=y.cellAt k aa;rw[iB,bZ D]at z;unfold Sm;rw[jc,bZ D];exact z
    have Q:Hid (∃p,Sm T k=.pointer p):=by
     unfold Sm vTr;split<;>exact⟨_,rfl⟩
    have⟨ao,t⟩:=Q.o;have J:=af t;obtain⟨-,-,-,U,-⟩:=j.o.cell;rw[u]at U;rw[t]at aq;have az:(k:Int)<(T.length:Int):=aa;have s:Hid (w.heap.size<=w3.heap.size):=by show _<=_;omega
    go_wp2_with (at_builtin;refine cu U1 w.heap.size l.o [.pointer ao] rfl (by simp[Value.oneCell']) rfl _ _ rfl rfl _ rfl dJ aa s.o ?_;intro aJ w6 ah ac aw)
    have R:Below w.heap.size w w6:=r.o.grown ac (by have:=s.o;omega) (fun b e=>(l.o.lt b e).1);go_roundw
    case rel=>exact⟨k,_,by go_num,rfl,aa,by rw[a.o,bQ,bL,l6,pX,J.o];exact ah,R⟩
    case measure=>simp[intOf]
end
end
section
open Go.RowKit Go.Sort Go.Shelf Go.Lib Go.Maps
attribute [local irreducible] wpQuiet
attribute [local go_sem] Oper.fw
def kI (al:List Bool) (CB:List (List eU)) (m:Nat):List eU:=((CB.drop m).reverse.flatten).filter (cO al)
theorem M3 (al:List Bool) (CB:List (List eU)):kI al CB CB.length=[]:=by unfold kI;rw[List.drop_length];rfl
theorem JW (al:List Bool) (CB:List (List eU)) (k:Nat) (h:k<CB.length):kI al CB k=kI al CB (k+1)++CB[k].filter (cO al):=by
 unfold kI;rw[lU h,AU,kX,mI];simp
theorem D6 (al:List Bool) (CB:List (List eU)) (m:Nat):(kI al CB m).length<=CB.flatten.length:=by
 unfold kI;refine bB (gD _ _) ?_;rw[((uQ (CB.drop m)).flatten).length_eq];have a:(CB.take m).flatten++(CB.drop m).flatten=CB.flatten:=by rw[<-kX,jD]
 have:=congrArg List.length a;rw[bQ]at this;omega
section
variable {w w':World} {X S:Nat->Prop} {F:Nat->Nat->Prop} {Hb Cb mb:Nat} {cv tv av lv:Value} {ch:List Ac} {T:List (Option Nat)} {al:List Bool} {eY:List Int} {A:List eU} {N wk:Int} {A':List eU}
theorem PL (h:jb w X Hb Cb mb cv tv av lv ch T al eY A N wk) (V:oh (ch.map (·.2.1)) al A' N):
  aK 213 #[aj Hb] w fun e w'=>∃v,e=.returned v/\w'.ownsRow w.heap.size 187 4 v (kI al (ch.map (·.2.1)) 0).length ((kI al (ch.map (·.2.1)) 0).flatMap ll)/\Below w.heap.size w w':=by
 have H:=af h;have ay:=af V;have U:=V.levels;have bx:ch.length<=13:=by have:=U.1;simpa using this
 have aX:Hid (∀m,(kI al (ch.map (·.2.1)) m).length<=5000):=fun m=>bB (D6 _ _ _) U.2.1;have aU:=af (yB h.fM aa);obtain⟨-,-,aC,-⟩:=h.cell;clear h V U;go_enter func213,ntmps213
 go_wp2_with (go_at_call 141;refine aU.o.mono ?_;rintro e w2 ⟨rfl,aG⟩;have aV:=af aG;clear aG)
 go_loopw [4,3] (fun W ab wr=>∃(m:Nat) (lw:Value),W=.int .i64 ((m:Int)-1)/\lw=ab/\m<=ch.length/\Hid (wr.ownsRow w.heap.size 187 4 lw (kI al (ch.map (·.2.1)) m).length ((kI al (ch.map (·.2.1)) m).flatMap ll))/\Hid (Below w.heap.size w wr)) (fun W _ _=>(intOf W+1).toNat)
 case atStart=>exact⟨ch.length,_,by go_num,rfl,aB _,by have:=M3 al (ch.map (·.2.1));rw[bU]at this;rw[this];exact dA _ _ _ _,aV⟩
 case round=>
  obtain⟨m,lw,rfl,rfl,bJ,HO,u⟩:=hrel;rcases nG m with zQ|zQ
  .subst zQ;have bz:¬(0:Int)<=((0:Nat):Int)-1:=aa
   go_wp2_with fail
   go_ret;exact⟨_,rfl,HO.o,u.o⟩
  .obtain⟨k,rfl⟩:∃k,m=k+1:=⟨m-1,aa⟩;have bi:(((k+1:Nat):Int)-1)=(k:Int):=aa;rw[bi];have bG:(0:Int)<=(k:Int):=aa;have aI:k<(ch.map (·.2.1)).length:=by rw[bU];omega
   have ax:=af (JW al (ch.map (·.2.1)) k aI);have aL:k<ch.length:=aa;have bM:ch[k].2.1.length<=5000:=by
    have:=ay.o.few k aI;rwa [fO]at this
   have aZ:Hid (∀x∈ch[k].2.1,∃k:Nat,x.2=(k:Int)/\k<al.length):=fun x bl=>ay.o.num (pK.2 ⟨_,dm.2 ⟨_,bF aL,rfl⟩,bl⟩);have O:=af (H.o.below u.o);have CB:=af (yC O.o.fM O.o.rows aa k aL aa);obtain⟨-,-,aC,-⟩:=O.o.cell;rw[fO]at ax;generalize ch[k].2.1=lk at*;have bI:=aX.o (k+1);generalize kI al (ch.map (·.2.1)) (k+1)=L at*;obtain⟨F,bc⟩:∃F:World,F=wr:=⟨_,rfl⟩;subst bc;have bk:=u.o.size
   go_wp2_with fail
   refine CB.o.mono ?_;rintro e w3 ⟨bo,rfl,B,z⟩;have bL:=z.size;have aW:Hid (Below w.heap.size w w3):=u.o.trans (z.mono bk);have a0:=af (ak HO.o z);have a3:Hid (∀a,bo.ownBlock=some a->lw.ownBlock≠some a):=fun a e i=>by
    have aF:=(B.lt a e).1;have bd:=(HO.o.lt a i).2;omega
   have a1:=af B;obtain⟨aA,s,S,-,-,-⟩:=LH.aD B;subst S;clear B z CB aC
   go_wp2_with fail
   go_loopw [24,3] (fun Y ab wr=>∃(j:Nat) (D:Value),Y=.int .i64 j/\D=ab/\j<=lk.length/\Hid (wr.ownsRow w.heap.size 187 4 D (L++(lk.take j).filter (cO al)).length ((L++(lk.take j).filter (cO al)).flatMap ll))/\Hid (wr.ownsRow F.heap.size 187 4 (.slice aA lk.length s) lk.length (lk.flatMap ll))/\Hid (∀a,Value.ownBlock (.slice aA lk.length s)=some a->D.ownBlock≠some a)/\Hid (Below w.heap.size w wr)) (fun Y _ _=>lk.length-(intOf Y).toNat)
   case atStart=>exact⟨0,_,rfl,rfl,aY _,by rw[lL,EE,iO];exact a0,a1,a3,aW⟩
   case round=>
    obtain⟨j,D,rfl,rfl,bC,I,aq,K,y⟩:=hrel;have aT:=y.o.size;by_cases n:j<lk.length
    .obtain⟨bs,bt,R,-,-,aS⟩:=LH.aD aq.o;injection R with R _ S;subst R S;obtain⟨Q,Z,a9,bw,t⟩:=aS.Nv.get aa;have ac:=t j n 0 aa;have x1:=t j n 1 aa;have x2:=t j n 2 aa;have ad:=t j n 3 aa;simp only[ll,fI,dz,dI]at ac x1 x2 ad;obtain⟨q,C,aQ⟩:=aZ.o lk[j] (bF n);have P:=H.o.below y.o;obtain⟨bN,lc,bb,-,-,aR⟩:=Rd.aD P.dK;obtain⟨lb,lo,ba,bH,aP⟩:=aR.get aa;have am:=aP q aQ;obtain⟨-,-,-,-,an,-⟩:=P.cell;have r:Hid (L++(lk.take (j+1)).filter (cO al)=(L++(lk.take j).filter (cO al))++(if al[q]=true then[lk[j]]else[])):=by
      show _=_;rw[ik n,mI,<-dY];congr 1;unfold cO;rw[l5,C];simp only[ib,bZ aQ];cases al[q]<;>simp
     have bE:(L++(lk.take j).filter (cO al)).length<=5000+5000:=by
      rw[bQ];have aF:=gD (cO al) (lk.take j);have bd:(lk.take j).length<=lk.length:=by rw[eQ];omega
      omega
     rw[C]at ad;have M:=af C;clear t aP C aR aS P;generalize L++(lk.take j).filter (cO al)=br at*;generalize al[q]=a6 at*;generalize lk[j]=x at*;obtain⟨⟨f,g,d⟩,bO⟩:=x;simp only at ac x1 x2 r M;obtain rfl:=M.o;clear M;subst a9 ba bb;have bD:(j:Int)<(lk.length:Int):=aa;have bK:(q:Int)<(al.length:Int):=aa;have G:Below wr.heap.size wr (wr.alloc (.cells #[ae f,ae g,au d,ae q] 187)):=(aJ _ _).alloc (aB _) _;have E:(wr.alloc (.cells #[ae f,ae g,au d,ae q] 187)).heap[wr.heap.size]? =some (.cells #[ae f,ae g,au d,ae q] 187 (0,0)):=bV _ _;have ap:Hid (w.heap.size<=(wr.alloc (.cells #[ae f,ae g,au d,ae q] 187)).heap.size):=by show _<=_;simp;omega
     have bp:=(G.cell (p:=(ag lb (lo+q))) (gX wr _ am)).trans am;have bq:=(G.cell (p:=(ag Hb 4)) (gX wr _ an)).trans an;have ar:=af (I.o.alloc (.cells #[ae f,ae g,au d,ae q] 187));have J:=af (aq.o.alloc (.cells #[ae f,ae g,au d,ae q] 187));have ao:=af (y.o.alloc aT (.cells #[ae f,ae g,au d,ae q] 187));clear aT
     go_wp2_with fail
     generalize(wr.alloc (.cells #[ae f,ae g,au d,ae q] 187))=c at*;clear ac x1 x2 ad G am an;have a7:c.cell? (ag wr.heap.size 0)=some (ae f):=eP E;have a8:c.cell? (ag wr.heap.size 1)=some (ae g):=eP E;have i:c.cell? (ag wr.heap.size 2)=some (au d):=eP E;have aE:c.cell? (ag wr.heap.size 3)=some (ae q):=eP E;have bf:=ah (w:=c) bq;have be:=ah (w:=c) aE;have bm:=ah (w:=c) bp;refine kM [(0,false),(1,false),(2,false),(3,true),(4,false),(5,true),(6,false),(7,true)] 0 ?_;refine lh aM ?_;clear bf be bm;cases a6
     .rw[aN ai,iO]at r;go_wp2;go_roundw
      case rel=>exact⟨j+1,_,by go_num,rfl,aa,by rw[r.o];exact ar.o.bu 1,J.o.bu 1,K,ao.o.drew⟩
      case measure=>exact eO
     .rw[aO rfl]at r;have aw:=af (ar.o.bu 1);have f0:c.drew.cell? (ag wr.heap.size 0)=some (ae f):=a7;have f1:c.drew.cell? (ag wr.heap.size 1)=some (ae g):=a8;have f2:c.drew.cell? (ag wr.heap.size 2)=some (au d):=i;have f3:c.drew.cell? (ag wr.heap.size 3)=some (ae q):=aE
      go_wp2_with (at_builtin;go_loud (refine cu Gm w.heap.size aw.o [.int .i64 f,.int .i64 g,.int .u32 d,.int .i64 q] rfl (by simp[Value.oneCell']) rfl _ _ rfl rfl _ (by first|rfl|(show az c.heap.size 1 1=_;simp)) dJ aa ap.o ?_;intro bn w6 bj aH bh))
      have a5:Below w.heap.size w w6:=ao.o.drew.grown aH (by have:=ap.o;exact this) (fun b e=>(aw.o.lt b e).1);have a2:Hid (w6.ownsRow F.heap.size 187 4 (.slice (some (ag Q Z)) lk.length s) lk.length (lk.flatMap ll)):=by
       refine(J.o.bu 1).kept aH ?_;rcases Ir (Value.ownBlock (.slice (some (ag Q Z)) lk.length s))with l|⟨a,l⟩
       .exact .inl l
       .exact .inr (fun e=>K.o a l (e.symm.trans l))
      have a4:Hid (∀a,Value.ownBlock (.slice (some (ag Q Z)) lk.length s)=some a->bn.ownBlock≠some a):=fun a e i=>by
       have aF:=(J.o.lt a e).2;rcases gJ bh with l|⟨b,l,bg⟩
       .exact K.o a e (l.symm.trans i)
       .rw[l]at i;injection i with i;have bv:c.heap.size<=b:=bg;omega
      go_roundw
      case rel=>exact⟨j+1,_,by go_num,rfl,aa,by rw[r.o,bQ,gZ];exact bj,a2,a4,a5⟩
      case measure=>exact eO
    .obtain rfl:j=lk.length:=aa;rw[jL,<-ax.o]at I;have bA:¬(lk.length:Int)<(lk.length:Int):=aa;go_wp2;go_roundw
     case rel=>exact⟨k,_,by go_num,rfl,aa,I,y⟩
     case measure=>simp[intOf]
end
end
end Go.Proofs.YtkjdbndekceffaaGreat
