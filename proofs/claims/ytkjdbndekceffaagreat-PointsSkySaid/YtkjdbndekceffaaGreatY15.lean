/- Made small by a program. -/
import Derived.Test.YtkjdbndekceffaaGreatY14
set_option linter.unusedSimpArgs false
set_option linter.unusedVariables false
set_option maxRecDepth 100000
set_option maxHeartbeats 16000000
namespace Go.Proofs.YtkjdbndekceffaaGreat
open Tryz
section
open Go.RowKit Go.Sort Go.Shelf Go.Lib Go.Maps
attribute [local irreducible] wpQuiet
attribute [local go_sem] Oper.eT
section
variable {w:World} {F:Nat->Prop} {tb n0:Nat} {l:List Pt} {lo m0 m1 m2 m3 m4 hi bx cn hp lw ob:Nat} {tl sv:Value} {dn:Bool}
theorem l5.top (h:l5 w F tb n0 l lo m0 m1 m2 m3 m4 hi bx cn hp lw ob tl sv dn):hi<=w.heap.size:=by
 have a:=h.ord;have b:=h.TA;have c:=h.fin.2.2 (hi-1) (h.fin.1 (hi-1) (by have:=h.row;omega) aa);omega
theorem Rm (h:l5 w F tb n0 l lo m0 m1 m2 m3 m4 hi bx cn hp lw ob tl sv dn) (x y d:Int) (M:(x,y,d)∈l):
  aK 53 #[aj tb,iV x y d] w fun e w'=>e=.returned (.bool true)/\
   ∃bB bC,l5 w' (fun k=>F k\/w.heap.size<=k/\k<w'.heap.size) tb n0 (l.filter fun q=>decide (q≠(x,y,d))) lo m0 m1 m2 m3 m4 hi bx cn hp lw bB bC sv false/\ay F w w':=by
 have bU:=h.top;have bR:l.length<=20000:=bA h.box.Fe.1 h.box.Fe.2;have bt:∃g c,tl=ax g l.length c:=by
  rcases h.row.2 with⟨rfl,bu⟩|⟨g,bi,bN,rfl,_⟩
  .have bO:=h.row.1;have:l=[]:=gU bu;rw[this]at M;cases M
  .exact⟨g,bi,rfl⟩
 obtain⟨g,c,rfl⟩:=bt;have bP:=h.R5 g rfl;have bQ:=(h.row.lt g rfl).1;obtain⟨br,bs⟩:=h.TA;obtain⟨bV,bW,bX,bY,bZ⟩:=h.ord;have bo:=Bz h.und.1;have H:=ag h;have C:=ag M;have L:ay (fun _=>False) w (w.alloc (.cells #[ae x,ae y,ak d] 29)):=(ay.refl _ w).alloc _;have aE:=df w (.cells #[ae x,ae y,ak d] 29);have b0:(w.alloc (.cells #[ae x,ae y,ak d] 29)).heap.size=w.heap.size+1:=aA;have S:=bz L h.blk (fun h=>h);have aF:=aU h.row L (fun _ _ h=>h);have ai:=ag (Oy (x,y,d) w.heap.size g c l.length lo l _ (by rw[eu _ _ _ _ rfl];rfl) (by rw[eu _ _ _ _ rfl];rfl) (by rw[eu _ _ _ _ rfl];rfl) aF rfl aa aa bo);have bf:(w.alloc (.cells #[ae x,ae y,ak d] 29)).cell? (af tb 0)=some (ax g l.length c):=aD S;have am:=ag S;have Q:=ag aE;have X:=ag L;clear h M S aE aF L;go_enter func53,ntmps53
 go_wp2_with fail
 generalize w.alloc (.cells #[ae x,ae y,ak d] 29)=w1 at*;refine ai.o.mono ?_;rintro e w2 ⟨n',rfl,aS,aT,B⟩;have J:=bz B am.o aa;have aQ:(ax g n' c).ownBlock≠some tb:=fun e=>by
  have u:g=tb:=by injection e
  omega
 have a8:=ag (bz B Q.o aa);have bS:=B.size;have f2:w2.frozen? (af tb 0)=false:=aD J;have bg:w2.cell? (af tb 0)=some (ax g l.length c):=aD J;have aL:(w2.setCell (af tb 0) (ax g n' c)).heap[tb]? =some (Obj.cells #[ax g n' c,aj bx,aj cn,aj hp,aj lw,aj ob,sv] 120 (0,0)):=by
  rw[dC w2 tb 0 _ _ _ J];rfl
 have ao:ay (fun k=>k=g\/k=tb) w1 (w2.setCell (af tb 0) (ax g n' c)):=(B.mono fun k h=>.inl h).set _ (.inl (.inr rfl));have aV:(w2.setCell (af tb 0) (ax g n' c)).heap.size=w2.heap.size:=aA;have aG:(w2.setCell (af tb 0) (ax g n' c)).ownsRow lo 29 3 (ax g n' c) n' ((l.filter fun q=>decide (q≠(x,y,d))).flatMap dw):=aX aT fun i e=>aC fun U=>aQ (by rw[e,<-U]);have ap:=ao.alloc (.cells #[ak 0,.int .i32 0,ak 0] 199);have R:=df (w2.setCell (af tb 0) (ax g n' c)) (.cells #[ak 0,.int .i32 0,ak 0] 199);have T:ay (fun _=>False) (w2.setCell (af tb 0) (ax g n' c)) ((w2.setCell (af tb 0) (ax g n' c)).alloc (.cells #[ak 0,.int .i32 0,ak 0] 199)):=(ay.refl _ _).alloc _;have K:=bz T aL (fun h=>h);have aH:=ag (aU aG T (fun _ _ h=>h));have aW:((w2.setCell (af tb 0) (ax g n' c)).alloc (.cells #[ak 0,.int .i32 0,ak 0] 199)).heap.size=w2.heap.size+1:=aA;have bh:((w2.setCell (af tb 0) (ax g n' c)).alloc (.cells #[ak 0,.int .i32 0,ak 0] 199)).cell? (af tb 5)=some (aj ob):=aD K;have f4:((w2.setCell (af tb 0) (ax g n' c)).alloc (.cells #[ak 0,.int .i32 0,ak 0] 199)).frozen? (af tb 5)=false:=aD K;rw[aV]at R;have P:=ag ap;have an:=ag K;have al:=ag R;have a3:=ag aS;clear ai bf aT B J aL ao aG ap T K R aS
 go_wp2_with fail
 generalize((w2.setCell (af tb 0) (ax g n' c)).alloc (.cells #[ak 0,.int .i32 0,ak 0] 199))=w4 at*;have aM:Hid ((w4.setCell (af tb 5) (aj w2.heap.size)).heap[tb]? =some (Obj.cells #[ax g n' c,aj bx,aj cn,aj hp,aj lw,aj w2.heap.size,sv] 120 (0,0))):=by
  show _=_;rw[dC w4 tb 5 _ _ _ an.o];rfl
 have aq:Hid (ay (fun k=>k=g\/k=tb) w (w4.setCell (af tb 5) (aj w2.heap.size))):=((X.o.mono fun _ h=>h.elim).trans P.o).set _ (.inl (.inr rfl));have a9:Hid ((w4.setCell (af tb 5) (aj w2.heap.size)).ownsRow lo 29 3 (ax g n' c) n' ((l.filter fun q=>decide (q≠(x,y,d))).flatMap dw)):=aX aH.o fun i e=>aC fun U=>aQ (by rw[e,<-U]);have D:Hid ((w4.setCell (af tb 5) (aj w2.heap.size)).heap[w.heap.size]? =some (Obj.cells #[ae x,ae y,ak d] 29 (0,0))):=(aC (by simp only;omega)).trans (bz P.o Q.o aa);have a4:Hid ((w4.setCell (af tb 5) (aj w2.heap.size)).heap[w2.heap.size]? =some (Obj.cells #[ak 0,.int .i32 0,ak 0] 199 (0,0))):=(aC (by simp only;omega)).trans al.o;have b1:(w4.setCell (af tb 5) (aj w2.heap.size)).heap.size=w2.heap.size+1:=by simp[aW]
 clear f2 bg aV aH aW bh f4 P an al X am Q a8;generalize w4.setCell (af tb 5) (aj w2.heap.size)=r at*;have Y:=ag (H.o.UG.kept ((aq.o.drew)) (fun k z A V=>aa));have bj:=ah (w:=r) (ad:=(af tb 2)) (v:=aj cn) (aD aM.o);have bE:=ah (w:=r) (ad:=(af w.heap.size 0)) (v:=.int .i64 x) (aD D.o);have bI:=ah (w:=r) (ad:=(af w.heap.size 1)) (v:=.int .i64 y) (aD D.o);have d5:=ah (w:=r) (ad:=(af w.heap.size 2)) (v:=.int .u32 d) (aD D.o);refine au (fun W=>∃p:aR r,W=p.W) [5] [(0,false),(1,false),(2,false),(3,true),(4,true)] ⟨⟨_,(aJ _ _).drew⟩,rfl⟩ 1 ?_;refine aI [5] ?_;clear bj bE bI d5
 go_wp2_with fail
 refine(Rl Y.o (x,y,d) C.o).mono ?_;rintro e w6 ⟨rfl,b,a⟩;have aZ:=ag b;have t:Hid (ay (fun k=>m2<=k/\k<m3) r w6):=((ay.refl _ r).drew).trans a;have aN:=ag (bz t.o aM.o aa);have E:=ag (bz t.o D.o aa);have a5:=ag (bz t.o a4.o aa);have ba:=ag (aU a9.o t.o (fun i e=>by have u:g=i:=(by injection e);omega));have ar:Hid (ay (fun k=>(k=g\/k=tb)\/(m2<=k/\k<m3)) w w6):=(aq.o.mono fun k h=>aa).trans (t.o.mono fun k h=>aa);have b2:=a.size;clear b a Y
 go_wp2_with fail
 have Z:=ag (H.o.UH.kept ((ar.o.drew)) (fun k z A V=>aa));have bk:=ah (w:=w6) (ad:=(af tb 3)) (v:=aj hp) (aD aN.o);have bF:=ah (w:=w6) (ad:=(af w.heap.size 0)) (v:=.int .i64 x) (aD E.o);have bJ:=ah (w:=w6) (ad:=(af w.heap.size 1)) (v:=.int .i64 y) (aD E.o);have d6:=ah (w:=w6) (ad:=(af w.heap.size 2)) (v:=.int .u32 d) (aD E.o);refine au (fun W=>∃p:aR w6,W=p.W) [5] [(0,false),(1,false),(2,false),(3,true),(4,true)] ⟨⟨_,(aJ _ _).drew⟩,rfl⟩ 1 ?_;refine aI [5] ?_;clear bk bF bJ d6
 go_wp2_with fail
 refine(TB Z.o (x,y,d) C.o).mono ?_;rintro e f ⟨rfl,b,a⟩;have a0:=ag b;have s:Hid (ay (fun k=>m3<=k/\k<m4) w6 f):=((ay.refl _ w6).drew).trans a;have aO:=ag (bz s.o aN.o aa);have G:=ag (bz s.o E.o aa);have a6:=ag (bz s.o a5.o aa);have bb:=ag (aU ba.o s.o (fun i e=>by have u:g=i:=(by injection e);omega));have av:Hid (ay (fun k=>(k=g\/k=tb)\/(m2<=k/\k<m4)) w f):=(ar.o.mono fun k h=>aa).trans (s.o.mono fun k h=>aa);have b3:=a.size;clear b a Z
 go_wp2_with fail
 have ab:=ag (H.o.low.kept ((av.o.drew)) (fun k z A V=>aa));have bl:=ah (w:=f) (ad:=(af tb 4)) (v:=aj lw) (aD aO.o);have bG:=ah (w:=f) (ad:=(af w.heap.size 0)) (v:=.int .i64 x) (aD G.o);have bK:=ah (w:=f) (ad:=(af w.heap.size 1)) (v:=.int .i64 y) (aD G.o);have d7:=ah (w:=f) (ad:=(af w.heap.size 2)) (v:=.int .u32 d) (aD G.o);refine au (fun W=>∃p:aR f,W=p.W) [5] [(0,false),(1,false),(2,false),(3,true),(4,true)] ⟨⟨_,(aJ _ _).drew⟩,rfl⟩ 1 ?_;refine aI [5] ?_;clear bl bG bK d7
 go_wp2_with fail
 refine(TC ab.o (x,y,d) C.o).mono ?_;rintro e j ⟨rfl,b,a⟩;have a1:=ag b;have n:Hid (ay (fun k=>m4<=k/\k<hi) f j):=((ay.refl _ f).drew).trans a;have aP:=ag (bz n.o aO.o aa);have I:=ag (bz n.o G.o aa);have a7:=ag (bz n.o a6.o aa);have bc:=ag (aU bb.o n.o (fun i e=>by have u:g=i:=(by injection e);omega));have aw:Hid (ay (fun k=>(k=g\/k=tb)\/(m2<=k/\k<hi)) w j):=(av.o.mono fun k h=>aa).trans (n.o.mono fun k h=>aa);have b4:=a.size;clear b a ab
 go_wp2_with fail
 have ac:=ag (H.o.box.kept ((aw.o.drew)) (fun k z A V=>aa));have bm:=ah (w:=j) (ad:=(af tb 1)) (v:=aj bx) (aD aP.o);have bH:=ah (w:=j) (ad:=(af w.heap.size 0)) (v:=.int .i64 x) (aD I.o);have bL:=ah (w:=j) (ad:=(af w.heap.size 1)) (v:=.int .i64 y) (aD I.o);have d8:=ah (w:=j) (ad:=(af w.heap.size 2)) (v:=.int .u32 d) (aD I.o);refine au (fun W=>∃p:aR j,W=p.W) [5,6] [(0,false),(1,false),(2,false),(3,true),(4,true)] ⟨⟨_,(aJ _ _).drew⟩,rfl⟩ 2 ?_;refine aI [5,6] ?_;clear bm bH bL d8
 go_wp2_with fail
 refine(Pq ac.o (x,y,d) C.o).mono ?_;rintro e O ⟨rfl,b,a⟩;have a2:=ag b;have m:Hid (ay (fun k=>m1<=k/\k<m2) j O):=((ay.refl _ j).drew).trans a;have be:=ag (bz m.o aP.o aa);have bM:=ag (bz m.o I.o aa);have aB:=ag (bz m.o a7.o aa);have bd:=ag (aU bc.o m.o (fun i e=>by have u:g=i:=(by injection e);omega));have az:Hid (ay (fun k=>(k=g\/k=tb)\/(m2<=k/\k<hi)\/(m1<=k/\k<m2)) w O):=(aw.o.mono fun k h=>aa).trans (m.o.mono fun k h=>aa);have b5:=a.size;clear b a ac;go_wp2;go_ret;have bw:ay (fun k=>(m3<=k/\k<m4)\/(m4<=k/\k<hi)\/(m1<=k/\k<m2)) w6 O:=(s.o.mono fun k h=>.inl h).trans ((n.o.mono fun k h=>.inr (.inl h)).trans (m.o.mono fun k h=>.inr (.inr h)));have bv:ay (fun k=>(m4<=k/\k<hi)\/(m1<=k/\k<m2)) f O:=(n.o.mono fun k h=>.inl h).trans (m.o.mono fun k h=>.inr h);have bq:=az.o.size;have bn:=a3.o;subst bn;refine⟨rfl,w2.heap.size,_,⟨be.o,bd.o,fun k e=>?_,⟨br,bs⟩,a2.o,aZ.o.kept bw (fun k _ _ h=>aa),a0.o.kept bv (fun k _ _ h=>aa),a1.o.kept m.o (fun k _ _ h=>aa),H.o.ord,?_,?_,(fun h=>by cases h),⟨fun k z A=>.inl (H.o.fin.1 k z A),.inr ?_,?_⟩,Bw H.o.und.1 _,fun q bp=>H.o.und.2 q (bD.1 bp).1⟩,az.o.mono fun k hk=>H.o.fin.1 k aa aa⟩
 .have u:g=k:=by injection e
  omega
 .have N:=aB.o;exact⟨aD N,aD N,aD N,aD N⟩
 .exact⟨aa,.inr aa⟩
 .have:=(aY.1 aB.o).1;omega
 .rintro k (hk|hk)
  .exact bT (H.o.fin.2.2 k hk) bq
  .exact hk.2
end
theorem GX:gF 148:=dh func148 aN rfl
theorem Ps:gF 147:=dh func147 aN rfl
theorem Rn {W:World} {V tb:Nat} {a:Option Addr} {c:Nat} {l:List Pt} {v1 u x y z sv:Value} (n:W.cell? (af V 0)=some (aj tb)) (h:W.heap[tb]? =some (Obj.cells #[.slice a l.length c,v1,u,x,y,z,sv] 120 (0,0))) (s:bV dw 3 W a l) (D:l.length<=20000) (t:KQ l) (hu:lF l=true):
  aK 147 #[aj V] W fun e w'=>e=.returned (.tuple #[])/\∃v d,Below W.heap.size W d/\d.ownsRow W.heap.size 29 3 v (bF l).length ((bF l).flatMap dw)/\w'=d.setCell (af tb 6) v:=by
 have k:=ag (fun W' (q:Below W.heap.size W W')=>Tz a l l.length c W' rfl (s.below q) aa t hu);have f:=ag h;have B:=ah n;have C:=ah (w:=W) (ad:=(af tb 0)) (v:=.slice a l.length c) (aD h);go_enter func147,ntmps147
 go_wp2_with fail
 refine au (fun W'=>∃p:aR W,W'=p.W) [9,10,11] [(0,true),(1,true),(2,false),(3,false),(4,true)] ⟨⟨_,(aJ _ _).drew⟩,rfl⟩ 7 ?_;refine aH 5 rfl fun K m=>?_;refine aZ GX rfl _ _ rfl (vals:=#[.slice a l.length c]) rfl (k.o _ (aJ _ _).drew) ?_;rintro e w2 ⟨v,rfl,i,r⟩;obtain⟨va,E,rfl,-,-,-⟩:=bV.aG bf ai i;have b:Below W.heap.size W w2:=(aJ _ _).drew.trans r;refine⟨_,rfl,?_⟩;refine m _ _ (fun _ _=>⟨⟨_,b⟩,rfl⟩) ?_;have HO:=ag i;have j:=ag b;refine bq [(6,false),(7,false),(8,false)] ⟨⟨_,b⟩,rfl⟩ rfl ?_;refine aI [9,10,11] ?_;have g:=(aT b f.o).trans f.o;have A:w2.cell? (af tb 6)=some sv:=aD g;have f2:w2.frozen? (af tb 6)=false:=aD g
 go_wp2_with fail
 go_end0
 exact⟨rfl,_,w2,j.o,HO.o,rfl⟩
section
variable {w:World} {F:Nat->Prop} {tb n0:Nat} {l:List Pt} {lo m0 m1 m2 m3 m4 hi bx cn hp lw ob:Nat} {tl sv:Value} {dn:Bool}
theorem l5.more {d:Nat->Prop} (h:l5 w F tb n0 l lo m0 m1 m2 m3 m4 hi bx cn hp lw ob tl sv dn) (f:∀k,F k->d k) (i:∀k,d k->k<w.heap.size):l5 w d tb n0 l lo m0 m1 m2 m3 m4 hi bx cn hp lw ob tl sv dn:=
 ⟨h.blk,h.row,h.R5,h.TA,h.box,h.UG,h.UH,h.low,h.ord,h.Ub,h.VC,fun hd=>by
  have⟨a,c,e,j,m,g⟩:=h.Cw hd;exact⟨a,c,e,j,m,fun x e=>⟨(g x e).1,(g x e).2.1,f _ (g x e).2.2⟩⟩,⟨fun k a b=>f k (h.fin.1 k a b),f _ h.fin.2.1,i⟩,h.und⟩
theorem TD (h:l5 w F tb n0 l lo m0 m1 m2 m3 m4 hi bx cn hp lw ob tl sv dn):
  aK 63 #[aj tb] w fun e w'=>∃a c,e=.returned (.slice a (bF l).length c)/\(bF l).length<=c/\bV dw 3 w' a (bF l)/\
   ∃aL,l5 w' (fun k=>F k\/w.heap.size<=k/\k<w'.heap.size) tb n0 l lo m0 m1 m2 m3 m4 hi bx cn hp lw ob tl aL true/\ay F w w':=by
 have aV:=h.top;have av:l.length<=20000:=bA h.box.Fe.1 h.box.Fe.2;have⟨az,aE⟩:=h.TA;have⟨aW,aX,aY,aZ,a0⟩:=h.ord;have N:=h.VC;have H:=ag h;have n:ay (fun _=>False) w (w.alloc (.cells #[aj tb] 106)):=(ay.refl _ w).alloc _;have I:=df w (.cells #[aj tb] 106);have a3:(w.alloc (.cells #[aj tb] 106)).heap.size=w.heap.size+1:=aA;have m:=ag (bz n h.blk (fun h=>h));have y:=ag n;have U:=ag I;have aI:(w.alloc (.cells #[aj tb] 106)).cell? (af tb 5)=some (aj ob):=aD m.o;have aT:=h.fin.2.2 _ h.fin.2.1;have d:=ag ((h.kept n (fun _ _ h=>h)).Ub);have z:=ag (aU h.row n (fun _ _ h=>h));have T:=ag (h.kept n (fun _ _ h=>h));cases dn with
 |true=>
  obtain⟨a,c,rfl,au,aw,M⟩:=h.Cw rfl;have W:=ag (aw.below ((aJ _ w).alloc (aB _) (.cells #[aj tb] 106)));have a1:(w.alloc (.cells #[aj tb] 106)).cell? (af tb 6)=some (.slice a (bF l).length c):=aD m.o;have P:=ag (Dq (af ob 0) (.func (.func 147) #[] #[aj w.heap.size]) _ d.o.c0);have a2:(w.alloc (.cells #[aj tb] 106)).cell? (af w.heap.size 0)=some (aj tb):=by rw[eu _ _ _ _ rfl];rfl
  go_enter func63,ntmps63
  go_wp2_with fail
  generalize w.alloc (.cells #[aj tb] 106)=w1 at*;refine P.o.mono ?_;rintro e w2 ⟨rfl,rfl⟩;go_wp2;go_ret;refine⟨a,c,rfl,au,W.o,.slice a (bF l).length c,?_,y.o.mono fun _ h=>h.elim⟩;exact T.o.more (by intro k hk;exact .inl hk) (by rintro k (hk|hk);exact bT (H.o.fin.2.2 k hk) y.o.size;exact hk.2)
 |false=>
  have aF:lF l=true:=by unfold lF;exact xQ h.und.1
  obtain⟨aM,tc,rfl,-,-,aR⟩:=bV.aG bf ai z.o;have A:ay (fun k=>k=ob) (w.alloc (.cells #[aj tb] 106)) ((w.alloc (.cells #[aj tb] 106)).setCell (af ob 1) (.int .i32 1)):=(ay.refl _ _).set _ (.inl rfl);have aS:ob≠tb:=N.1;have am:=bz A m.o aa;have ap:=bz A I aa;have ad:=aU z.o A (fun f e=>by have p:=h.R5 f e;have s:=(h.row.lt f e).1;omega);obtain⟨a4,a5,B,-,-,ar⟩:=bV.aG bf ai ad;injection B with B _ aq;subst B aq;have S:=Rn (V:=w.heap.size) (tb:=tb) (fE ap) am ar av h.und.2 aF;have L:ob<(w.alloc (.cells #[aj tb] 106)).heap.size:=aa;have Q:=ag (ze Ps (R:=fun C=>∃v b,Below ((w.alloc (.cells #[aj tb] 106)).setCell (af ob 1) (.int .i32 1)).heap.size ((w.alloc (.cells #[aj tb] 106)).setCell (af ob 1) (.int .i32 1)) b/\b.ownsRow ((w.alloc (.cells #[aj tb] 106)).setCell (af ob 1) (.int .i32 1)).heap.size 29 3 v (bF l).length ((bF l).flatMap dw)/\C=b.setCell (af tb 6) v) ob 0 (aj w.heap.size) _ d.o.c0 d.o.c1 d.o.f0 d.o.f1 (by
   refine S.mono ?_;rintro e C ⟨rfl,v,b,q,i,rfl⟩;have t:(b.setCell (af tb 6) v).heap[ob]? =((w.alloc (.cells #[aj tb] 106)).setCell (af ob 1) (.int .i32 1)).heap[ob]? :=(aC (by simp only;omega)).trans (q.block ob (aP L));refine⟨rfl,⟨v,b,q,i,rfl⟩,(dz (a:=(af ob 0)) t).trans ?_,(dz (a:=(af ob 1)) t).trans ?_,(pE (a:=(af ob 0)) t).trans ?_,(pE (a:=(af ob 1)) t).trans ?_⟩
   .exact(xA _ (af ob 1) (af ob 0) _ aA).trans d.o.c0
   .simp[zU,d.o.c1]
   .simp[d.o.f0]
   .simp[d.o.f1]))
  have aI:(w.alloc (.cells #[aj tb] 106)).cell? (af tb 5)=some (aj ob):=aD m.o;go_enter func63,ntmps63
  go_wp2_with fail
  generalize(w.alloc (.cells #[aj tb] 106))=w1 at*;refine Q.o.mono ?_;rintro e w6 ⟨rfl,C,⟨v,b,q,i,rfl⟩,rfl⟩;rw[show(w1.setCell (af ob 1) (.int .i32 1)).heap.size=w1.heap.size by simp]at i;have r:ay (fun k=>k=ob) w1 b:=((ay.refl (fun k=>k=ob) w1).set (a:=(af ob 1)) (.int .i32 1) (.inl rfl)).below q;have ae:=bz r m.o aa;have an:=bz r U.o aa;have ac:=aU z.o r (fun f e=>by have p:=H.o.R5 f e;have s:=(H.o.row.lt f e).1;omega);have ah:(b.setCell (af tb 6) v).heap[tb]? =some (Obj.cells #[.slice aM l.length tc,aj bx,aj cn,aj hp,aj lw,aj ob,v] 120 (0,0)):=by
   rw[dC b tb 6 _ _ _ ae];rfl
  have G:ay (fun k=>k=ob\/k=tb) w1 (b.setCell (af tb 6) v):=(r.mono fun k h=>.inl h).set _ (.inl (.inr rfl));have Z:ay (fun k=>k=ob\/k=tb) w ((((b.setCell (af tb 6) v).drew).setCell (af ob 0) (.int .u32 1)).setCell (af ob (0+1)) (.int .i32 0)):=(((((y.o.mono fun _ h=>h.elim).trans G).drew).set (a:=(af ob 0)) _ (.inl (.inl rfl))).set (a:=(af ob (0+1))) _ (.inl (.inl rfl)));have j:ay (fun k=>k=ob) (b.setCell (af tb 6) v) ((((b.setCell (af tb 6) v).drew).setCell (af ob 0) (.int .u32 1)).setCell (af ob (0+1)) (.int .i32 0)):=((((ay.refl (fun k=>k=ob) _).drew).set (a:=(af ob 0)) _ (.inl rfl)).set (a:=(af ob (0+1))) _ (.inl rfl));have al:=bz j ah aa;have ao:=bz j ((aC (by simp only;omega)).trans an) aa;have u:(b.setCell (af tb 6) v).heap[ob]? =(w1.setCell (af ob 1) (.int .i32 1)).heap[ob]? :=(aC (by simp only;omega)).trans (q.block ob (aP L));have aO:(b.setCell (af tb 6) v).cell? (af ob 0)=some (ak 0):=((dz (a:=(af ob 0)) u).trans ((xA _ (af ob 1) (af ob 0) _ aA).trans d.o.c0));have aQ:(b.setCell (af tb 6) v).cell? (af ob 1)=some (.int .i32 1):=((dz (a:=(af ob 1)) u).trans (by simp[zU,d.o.c1]));have aN:(b.setCell (af tb 6) v).frozen? (af ob 0)=false:=((pE (a:=(af ob 0)) u).trans (by simp[d.o.f0]));have y1:(b.setCell (af tb 6) v).frozen? (af ob 1)=false:=((pE (a:=(af ob 1)) u).trans (by simp[d.o.f1]));have ab:Hid (R4 ((((b.setCell (af tb 6) v).drew).setCell (af ob 0) (.int .u32 1)).setCell (af ob (0+1)) (.int .i32 0)) ob true):=by
   refine⟨?_,?_,?_,?_⟩
   .refine(xA _ (af ob (0+1)) (af ob 0) _ aA).trans ?_;simp[zU,aO]
   .have:(((b.setCell (af tb 6) v).drew).setCell (af ob 0) (.int .u32 1)).cell? (af ob 1)=some (.int .i32 1):=(xA _ (af ob 0) (af ob 1) _ aA).trans (aP aQ);simp[zU,this]
   .simpa using aN
   .simpa using y1
  have D:Hid ((((b.setCell (af tb 6) v).drew).setCell (af ob 0) (.int .u32 1)).setCell (af ob (0+1)) (.int .i32 0)|>.ownsRow w1.heap.size 29 3 v (bF l).length ((bF l).flatMap dw)):=aU (aU i ((ay.refl (fun k=>k=tb) b).set (a:=(af tb 6)) v (.inl rfl)) (fun f e=>by have:=(i.lt f e).1;omega)) j (fun f e=>by have:=(i.lt f e).1;omega);have E:=ag al;have Y:=ag ao;have g:=ag Z;have X:=ag (aU ac ((G.mono (fun k h=>h)).trans (j.mono fun k h=>.inl h)|>fun h=>(((ay.refl (fun k=>k=ob\/k=tb) b).set (a:=(af tb 6)) v (.inl (.inr rfl))).trans (j.mono fun k h=>.inl h))) (fun f e=>by have p:=H.o.R5 f e;have s:=(H.o.row.lt f e).1;omega));generalize(((b.setCell (af tb 6) v).drew).setCell (af ob 0) (.int .u32 1)).setCell (af ob (0+1)) (.int .i32 0)=O at*;have u0:O.cell? (af w.heap.size 0)=some (aj tb):=aD Y.o;have u1:O.cell? (af tb 6)=some v:=aD E.o;go_wp2;go_ret;obtain⟨a,c,rfl,-,K,J⟩:=bV.aG bf ai D.o;have ax:=g.o.size;have aH:=D.o.lt;refine⟨a,c,rfl,K,J,_,⟨E.o,X.o,H.o.R5,⟨az,aE⟩,H.o.box.kept g.o aa,H.o.UG.kept g.o aa,H.o.UH.kept g.o aa,H.o.low.kept g.o aa,H.o.ord,ab.o,N,fun _=>⟨a,c,rfl,K,J,fun x M=>?_⟩,⟨fun k p s=>.inl (H.o.fin.1 k p s),.inl H.o.fin.2.1,?_⟩,H.o.und⟩,g.o.mono ?_⟩
  .have p:=aH x.block (by rw[M];rfl);exact⟨aa,aa,.inr aa⟩
  .rintro k (hk|hk)
   .exact bT (H.o.fin.2.2 k hk) ax
   .exact hk.2
  .rintro k (rfl|rfl)
   .exact H.o.fin.2.1
   .exact H.o.tF
end
end
section
open Go.RowKit Go.Maps
attribute [local irreducible] wpQuiet
def TE (W:World) (base Cb:Nat) (wk:Int) (l:List eP) (e:Ending) (w':World):Prop:=
 ∃(Ct:Value) (qU:List zN) (Kg:Int),e=.returned (ae l.length)/\mU w' base Cb Ct qU l.length Kg/\qV w' qU/\qU.map (·.2.1)=setC (Lib.bitLen l.length) l/\
  (Ct.ownBlock=none\/∃b,Ct.ownBlock=some b/\W.heap.size<=b)/\ay (fun k=>k=Cb) W w'/\Nw W.heap.size [] qU/\Kg=wrap64 (wk+(l.length:Int))
theorem TF {W:World} {base Cb:Nat} {cv:Value} {ch:List zN} {N wk:Int} (h:mU W base Cb cv ch N wk) (cm:base<=W.heap.size) (a:Option Addr) (l:List eP) (c:Nat) (bb:LB W a l) (bR:l.length<=c) (aE:l.length<=10000):
  aK 212 #[aj Cb,.slice a l.length c] W (TE W base Cb wk l):=by
 have aS:=ag (wE h);have H:=ag h;have bJ:=fA aE ai;have bK:Lib.bitLen 10000=14:=ai;rw[bK]at bJ;have aZ:=ag bb;have a0:l.length<2^Lib.bitLen l.length:=by
  by_cases a7:l.length=0
  .rw[a7];decide
  .exact(bB _ aa a7).2.2
 have bp:=ag a0;clear a0;clear h bb;go_enter func212,ntmps212
 go_wp2_with fail
 refine aS.o.mono ?_;rintro e w2 ⟨rfl,B⟩;have C:=ag (H.o.below B);obtain⟨bC,bD,bE,bF⟩:=C.o.cell;have f1:=C.o.frozen 1;have Z:Hid (mU (w2.setCell (af Cb 1) (aL)) base Cb (aL) [] N wk):=ik.Lx (ch:=ch) C.o.blk C.o.hb C.o.ds (dA _ _ _ _) (by simp[Value.ownBlock]);obtain⟨d0,d1,d2,d3⟩:=Z.o.cell;have f2:=Z.o.frozen 2;have a3:Hid (mU ((w2.setCell (af Cb 1) (aL)).setCell (af Cb 2) (.int .i64 l.length)) base Cb (aL) [] l.length wk):=Z.o.A7 _;have a2:Hid (ay (fun k=>k=Cb) W ((w2.setCell (af Cb 1) (aL)).setCell (af Cb 2) (.int .i64 l.length))):=(((ay.refl (fun k=>k=Cb) W).below B).set (a:=(af Cb 1)) _ (.inl rfl)).set (a:=(af Cb 2)) _ (.inl rfl);have ck:=H.o.lt;clear aS
 go_upto_block 0 with fail
 go_cut []from 19 to 33 (fun w=>∃v,Hid (mU w base Cb v (List.replicate (Lib.bitLen l.length) fH) l.length wk)/\Hid (v.ownBlock=none\/∃b,v.ownBlock=some b/\W.heap.size<=b)/\Hid (ay (fun k=>k=Cb) W w))
 case first=>
  go_wp2_with fail
  generalize((w2.setCell (af Cb 1) (aL)).setCell (af Cb 2) (.int .i64 l.length))=w3 at*
  go_loopw [5] (fun aN wr=>∃(k m:Nat) (v:Value),aN=.int .i64 m/\m<=10000/\Hid (k+Lib.bitLen m=Lib.bitLen l.length)/\Hid (mU wr base Cb v (List.replicate k fH) l.length wk)/\Hid (v.ownBlock=none\/∃b,v.ownBlock=some b/\W.heap.size<=b)/\Hid (ay (fun k=>k=Cb) W wr)) (fun aN _=>(intOf aN).toNat)
  case atStart=>exact⟨0,l.length,_,rfl,aE,(by show _=_;omega),a3,.inl rfl,a2⟩
  case round=>
   obtain⟨k,m,v,rfl,bY,aY,f,E,s⟩:=hrel;by_cases zz:m=0
   .subst zz;obtain rfl:k=Lib.bitLen l.length:=aY.o
    go_wp2_with fail
    go_meet;exact⟨v,f,E,s⟩
   .have aW:Hid (k+1+Lib.bitLen (m/2)=Lib.bitLen l.length):=by
     have:=Lib.bitLen_half m zz aa;have:=aY.o;show _=_;omega
    have ah:k+1<=14:=by have:=aW.o;omega
    have J:=f.o.row;rw[iw]at J;have b1:=f.o.ne;have cy:(0:Int)<(m:Int):=aa;obtain⟨aw,az,aA,aC⟩:=f.o.cell;have bt:Hid (∀w6,wr.grownBy w6 v.ownBlock->w6.heap[Cb]? =some (Obj.cells #[.bool true,v,ae l.length,ae wk] 278 (0,0))):=fun w6 ac=>(ac.block Cb f.o.lt (fun e=>f.o.ne e.symm)).trans f.o.blk
    go_wp2_with (at_builtin;refine bX RU base J [aL] rfl (by simp[Value.oneCell']) rfl _ _ rfl rfl _ rfl dI aa (by have:=s.o.size;omega) ?_;intro cE w6 bd ac ba;obtain⟨a6,j,rfl,cq,cr,cs,ct⟩:=aQ bd aa;have aJ:=bt.o w6 ac;have cC:w6.cell? (af Cb 1)=some v:=(aD aJ);have cD:w6.frozen? (af Cb 1)=false:=(aD aJ))
    have cl:=f.o.lt;have b2:w6.ownsRow base 213 1 (ax a6 (k+1) j) (List.replicate (k+1) (fH:zN)).length ((List.replicate (k+1) (fH:zN)).map dS):=by
     rw[iw,Dn,bP];exact bd
    have b3:Value.ownBlock (ax a6 (k+1) j)≠some Cb:=by
     rcases ba with h9|h9
     .rw[h9];exact b1
     .rw[h9];simp;omega
    go_roundw
    case rel=>
     refine⟨k+1,m/2,_,by go_num,aa,aW,ik.Lx (ch:=List.replicate k fH) aJ f.o.hb f.o.ds b2 b3,?_,(s.o.grown ac ?_).set (a:=(af Cb 1)) _ (.inl rfl)⟩
     .rcases ba with h9|h9
      .rw[h9];exact E
      .exact .inr ⟨_,h9,by have:=s.o.size;simp;omega⟩
     .intro b i;rcases E.o with h9|⟨b5,h9,Q⟩
      .rw[h9]at i;cases i
      .rw[h9]at i;injection i with i;subst i;exact .inr Q
    case measure=>exact dX
 case rest=>
  obtain⟨v,f,E,s⟩:=hcut;obtain⟨w3,bI⟩:∃w3:World,w3=wc:=⟨_,rfl⟩;subst bI;clear Z a3 a2 bC bD bE bF f1 f2 d0 d1 d2 d3 C B;generalize bL:Lib.bitLen l.length=K at*;obtain⟨x,aF⟩:∃x,x=v.ownBlock:=⟨_,rfl⟩;have a1:Hid (∀W',ay (fun k=>k=Cb\/x=some k) w3 W'->bV ll 4 W' a l):=fun W' R=>((aZ.o.kept (H.o.eZ rfl (s.o.mono (fun k h=>.inl h)))).kept (f.o.eZ aF R)).Nr;have au:=ag aF;clear aF;have ao:=f.o;have bu:Hid (qV w3 (List.replicate K fH)):=Dp _ _;have bq:Hid ((List.replicate K (fH:zN)).map (·.2.1)=List.replicate K []++[]):=by show _=_;simp
  have bo:Hid (l.length=l.length%2^K):=(Ep bp.o).symm;obtain⟨av,P,bh,-,bS,-⟩:=Rd.aG (enc:=dS) ao.row;rw[iw]at bh bS;subst bh;obtain⟨b8,b9,ca,cb⟩:=ao.cell;clear ao
  go_upto_block 2 with fail
  go_cut []from 35 to 64 (fun w=>∃ch1,Hid (mU w base Cb (.slice av K P) ch1 l.length wk)/\Hid (Nw W.heap.size [] ch1)/\Hid (qV w ch1)/\Hid (ch1.map (·.2.1)=setC K l)/\Hid (ay (fun k=>k=Cb\/x=some k) w3 w))
  case first=>
   go_wp2_with fail
   go_loopw [7,6] (fun aI b4 wr=>∃(m:Nat) (ad:Option Addr) (r:List eP) (y:Nat) (ch1:List zN) (T:List (List eP)),aI=.int .i64 ((m:Int)-1)/\b4=.slice ad r.length y/\m<=K/\r.length<=y/\Hid (r.length=l.length%2^m)/\Hid (∀W',ay (fun k=>k=Cb\/x=some k) w3 W'->bV ll 4 W' ad r)/\
    Hid (mU wr base Cb (.slice av K P) ch1 l.length wk)/\Hid (Nw W.heap.size [] ch1)/\Hid (qV wr ch1)/\Hid (ch1.map (·.2.1)=List.replicate m []++T)/\Hid (setC K l=setC m r++T)/\Hid (ay (fun k=>k=Cb\/x=some k) w3 wr)) (fun aI _ _=>(intOf aI+1).toNat)
   case atStart=>exact⟨K,a,l,c,_,[],by go_num,rfl,aB _,bR,bo,a1,f,Nw.Sy,bu,bq,(by show _=_;simp),ay.refl _ _⟩
   case round=>
    obtain⟨m,ad,r,y,ch1,T,rfl,rfl,bY,bg,X,M,q,L,D,A,Y,t⟩:=hrel;rcases nC m with zz|zz
    .subst zz;have cn:¬(0:Int)<=((0:Nat):Int)-1:=aa
     go_wp2_with fail
     go_meet;exact⟨ch1,q,L,D,(by have d:=A.o;have G:=Y.o;show _=_;rw[d,G];rfl),t⟩
    .obtain⟨k,rfl⟩:∃k,m=k+1:=⟨m-1,aa⟩;have ah:k<14:=aa;have ak:=Gl l.length k;have cx:r.length<=l.length:=by rw[X.o];exact Nat.mod_le _ _
     have bz:=Ou k ah;have O:=RY l.length k ah aE;have hp:=qC k ah;have bU:(((k+1:Nat):Int)-1)=(k:Int):=aa;have cu:(0:Int)<=(k:Int):=aa;have aH:ch1.length=K:=by
      have d:=congrArg List.length A.o;have G:=congrArg List.length Y.o;rw[eD,bQ,eD]at G;simp at d;omega
     rw[bU];by_cases i:l.length.testBit k=true
     .rw[i]at O;simp only[gN]at O;have I:=ak.1 i;rw[<-X.o]at I;have al:2^k<=r.length:=aa;have ar:Hid (setC K l=setC k (r.drop (2^k))++r.take (2^k)::T):=by
       have d:=Y.o;rw[setC,aO al,dY]at d;exact d
      have V:Hid (∀hd:zN,hd.2.1=r.take (2^k)->(ch1.set k hd).map (·.2.1)=List.replicate k []++r.take (2^k)::T):=fun hd h9=>by
       rw[kM,A.o,h9,FZ]
      have aq:Hid ((r.drop (2^k)).length=l.length%2^k):=by
       show _=_;rw[mJ];omega
      clear ak i I;generalize S:2^k=p at*;have ap:=ag S;clear S;obtain⟨b,off,bH,bO,-⟩:=(M.o wr t.o).get aa;subst bH;obtain⟨g,b6,ab,co,cp,-,-⟩:=aQ q.o.row aa;rw[aH]at ab;injection ab with ab _ bG;subst ab bG;obtain⟨aw,az,aA,aC⟩:=q.o.cell;have U:(r.take p).length=p:=by rw[eX];omega
      have an:=ag (A9 (some (af b off)) (r.take p) p y wr.drew U ((M.o wr.drew t.o.drew).take p) aa);have cA:(0:Int)<=(p:Int)/\(p:Int)<=(r.length:Int):=aa;have cz:(p:Int)<=(y:Int):=aa;have be:((p:Int)!=0)=true:=by simp only[bne_iff_ne,ne_eq];omega
      go_upto_region 14 with fail
      simp only[bz,O,be]
      go_cut []from 52 to 61 (fun w=>∃F,Hid (mU w base Cb (ax g K P) F l.length wk)/\Hid (Nw W.heap.size [] F)/\Hid (qV w F)/\Hid (F.map (·.2.1)=List.replicate k []++r.take p::T)/\Hid (ay (fun k=>k=Cb\/x=some k) w3 w))
      case first=>
       have bi:aK 208 #[.slice (some (af b off)) p y] wr.drew fun e w6=>∃u j z,e=.returned (.slice u p j)/\Hid (p<=j)/\Hid (∀a,u=some a->W.heap.size<=a.block)/\Hid (LB w6 u (r.take p))/\Hid (mU w6 base Cb (ax g K P) ch1 l.length wk)/\Hid (Below wr.drew.heap.size wr.drew w6)/\w6.cell? (af Cb 1)=some (ax g K P)/\w6.cell? (af g k)=some z/\w6.frozen? (af g k)=false:=by
        refine an.o.mono ?_;rintro e w6 ⟨cF,rfl,bc,a9⟩;obtain⟨u,j,rfl,ci,a8,bM⟩:=LB.aG bc;have am:=q.o.drew.below a9;obtain⟨cd,a5,ce,cf⟩:=am.cell;have J:=am.row;rw[aH]at J;have aR:=J.cellAt k aa;have a4:=J.frozenAt k;rw[bZ (show k<(ch1.map dS).length by simp;omega)]at aR;rw[U]at a8;exact⟨u,j,_,by rw[U],a8,(fun a bN=>by have d:=(bc.lt a.block (by rw[bN];rfl)).1;have G:=t.o.size;have cg:=s.o.size;simp at d;omega),bM,am,a9,a5,aR,a4⟩
       clear an;have cw:(k:Int)<(K:Int):=aa
       go_region_with (go_at_call 208;with_reducible refine bi.mono ?_;rintro e w6 ⟨u,j,z,rfl,bm,bj,bx,aV,aU,a5,aR,a4⟩)
       all_goals go_wp2_with fail
       all_goals go_meet
       all_goals
        have bW:Value.slice u p j=dS (u,r.take p,j):=by unfold dS;simp only;rw[U]
        rw[bW];have bT:x=some g:=au.o;exact⟨ch1.set k (u,r.take p,j),aV.o.Lv aH.symm k _,L.o.set bj.o,F3 (D.o.kept (W':=w6) fun b b7 fr i=>aT (W:=wr.drew) aU.o i) (aV.o.eZ (W':=w6.setCell (af g k) (dS (u,r.take p,j))) rfl ((ay.refl _ w6).set (a:=(af g k)) _ (.inl (.inr rfl)))) bx.o (by show(r.take p).length<=j;rw[U];exact bm.o),V.o _ rfl,(((t.o.drew).below aU.o).set (a:=(af g k)) _ (.inl (.inr bT)))⟩
      case rest=>
       obtain⟨F,bk,bs,bv,br,aX⟩:=hcut;clear an q D A V t aw az aA aC bO be X
       go_wp2_with (refine vK F5 (M.o _ aX.o) bg p r.length al (aB _) rfl _ _ _ rfl rfl rfl rfl ?_;intro bA bf;simp only[jK]at bf)
       go_roundw
       case rel=>exact⟨k,bA,r.drop p,y-p,F,r.take p::T,rfl,(by rw[mJ]),aa,(by rw[mJ];omega),(by rw[ap.o];exact aq),(fun W' R=>bf W' (M.o W' R)),bk,bs,bv,br,ar,aX⟩
       case measure=>simp[intOf]
     .have B:l.length.testBit k=false:=aP i;rw[B]at O;simp only[jO,qP]at O;have I:=ak.2 B;rw[<-X.o]at I;have al:¬2^k<=r.length:=by have:=qa l.length (p8 (n:=k) (show 0<2 by decide));omega
      have ar:Hid (setC K l=setC k r++[]::T):=by
       have d:=Y.o;rw[setC,aM al,dY]at d;exact d
      have V:Hid (ch1.map (·.2.1)=List.replicate k []++[]::T):=by
       have d:=A.o;rw[ry,dY]at d;exact d
      have aq:=ag I;clear ak i B I;generalize S:2^k=p at*;have ap:=ag S;clear S
      go_wp2_with fail
      go_roundw
      case rel=>exact⟨k,ad,r,y,ch1,[]::T,rfl,rfl,aa,bg,by rw[ap.o];exact aq,M,q,L,D,V,ar,t⟩
      case measure=>simp[intOf]
  case rest=>
   obtain⟨ch1,q,L,D,A,t⟩:=hcut;obtain⟨aw,az,aA,aC⟩:=q.o.cell;have cc:=q.o.frozen 3;have bl:=ag (q.o.Qo (wrap64 (wk+(l.length:Int))));have bw:Hid (qV (wc.setCell (af Cb 3) (.int .i64 (wrap64 (wk+(l.length:Int))))) ch1):=D.o.kept (q.o.eZ rfl ((ay.refl _ wc).set (a:=(af Cb 3)) _ (.inl (.inl rfl))));have bn:Hid (ay (fun k=>k=Cb) W (wc.setCell (af Cb 3) (.int .i64 (wrap64 (wk+(l.length:Int)))))):=by
    have cB:=s.o.size;have d:ay (fun k=>k=Cb\/W.heap.size<=k) W wc:=(s.o.mono (fun k h=>.inl h)).trans (t.o.mono (fun k h=>h.imp id (fun h9=>by
     rcases E.o with Q|⟨b,Q,cj⟩
     .rw[au.o,Q]at h9;cases h9
     .rw[au.o,Q]at h9;injection h9 with h9;omega)))
    have G:ay (fun k=>k=Cb) W wc:=⟨d.os,d.tape,d.output,d.size,fun k R b0=>d.block k R (fun h9=>by rcases h9 with h9|h9;exact b0 h9;omega)⟩;exact G.set (a:=(af Cb 3)) _ (.inl rfl)
   clear s t a1 f aZ;go_wp2;go_ret;exact⟨_,ch1,_,rfl,bl.o,bw.o,by rw[bL];exact A.o,E.o,bn.o,L.o,rfl⟩
end
section
open Go.RowKit Go.Sort Go.Shelf Go.Lib Go.Maps
open Go.ChangeMaps (setBlock)
def Bk (w:World) (F:Nat->Prop) (tb n0:Nat) (l:List Pt):Prop:=∃lo m0 m1 m2 m3 m4 hi bx cn hp lw ob tl sv dn,l5 w F tb n0 l lo m0 m1 m2 m3 m4 hi bx cn hp lw ob tl sv dn
section
variable {w w':World} {F S:Nat->Prop} {tb n0:Nat} {l:List Pt}
theorem Bk.kept (h:Bk w F tb n0 l) (K:ay S w w') (hS:∀k,F k->¬S k):Bk w' F tb n0 l:=by
 have⟨lo,m0,m1,m2,m3,m4,hi,bx,cn,hp,lw,ob,tl,sv,dn,h⟩:=h;exact⟨lo,m0,m1,m2,m3,m4,hi,bx,cn,hp,lw,ob,tl,sv,dn,h.kept K hS⟩
theorem Bk.below (h:Bk w F tb n0 l) (a:Below w.heap.size w w'):Bk w' F tb n0 l:=h.kept (S:=fun _=>False) ((ay.refl _ _).below a) fun _ _ h=>h
theorem Bk.lt (h:Bk w F tb n0 l):∀k,F k->k<w.heap.size:=by
 have⟨lo,m0,m1,m2,m3,m4,hi,bx,cn,hp,lw,ob,tl,sv,dn,h⟩:=h;exact h.fin.2.2
theorem TG (a:Option Addr) (c:Nat) (l:List Pt) (w:World) (f:bV dw 3 w a l) (g:l.length<=20000) (i:HZ l) (hu:(ids l).Nodup):
  aK 52 #[.slice a l.length c] w fun e w'=>∃tb,e=.returned (aj tb)/\Bk w' (fun k=>w.heap.size<=k/\k<w'.heap.size) tb l.length l/\Below w.heap.size w w':=by
 refine(Pp a c l w f g i (by unfold lF;exact xQ hu)).mono ?_;rintro e w' ⟨tb,m0,m1,m2,m3,m4,bx,cn,hp,lw,ob,tl,d,h,b⟩;exact⟨tb,d,⟨_,_,_,_,_,_,_,_,_,_,_,_,_,_,_,h⟩,b⟩
theorem UI (h:Bk w F tb n0 l) (p:Pt) (d:p∈l):
  aK 53 #[aj tb,iV p.1 p.2.1 p.2.2] w fun e w'=>e=.returned (.bool true)/\Bk w' (fun k=>F k\/w.heap.size<=k/\k<w'.heap.size) tb n0 (l.filter fun q=>decide (q≠p))/\ay F w w':=by
 have⟨lo,m0,m1,m2,m3,m4,hi,bx,cn,hp,lw,ob,tl,sv,dn,h⟩:=h;refine(Rm h p.1 p.2.1 p.2.2 d).mono ?_;rintro e w' ⟨c,f,g,a,b⟩;exact⟨c,⟨_,_,_,_,_,_,_,_,_,_,_,_,_,_,_,a⟩,b⟩
theorem VD (h:Bk w F tb n0 l):
  aK 63 #[aj tb] w fun e w'=>∃a c,e=.returned (.slice a (bF l).length c)/\(bF l).length<=c/\bV dw 3 w' a (bF l)/\Bk w' (fun k=>F k\/w.heap.size<=k/\k<w'.heap.size) tb n0 l/\ay F w w':=by
 have⟨lo,m0,m1,m2,m3,m4,hi,bx,cn,hp,lw,ob,tl,sv,dn,h⟩:=h;refine(TD h).mono ?_;rintro e w' ⟨a,c,g,f,i,j,b,d⟩;exact⟨a,c,g,f,i,⟨_,_,_,_,_,_,_,_,_,_,_,_,_,_,_,b⟩,d⟩
end
def vTr:Option Nat->Value
 |none=>.pointer none
 |some b=>aj b
def lD (w:World) (mb:Nat) (A:List eP):Prop:=∃D,w.ownsMap prog 29 (plainElem prog 3) mb A.length D/\si D A
theorem lD.fit {w:World} {mb n:Nat} {A:List eP} {D:DataW Unit} (h:w.ownsMap prog 29 (plainElem prog 3) mb n D) (a:si D A):lD w mb A:=by
 refine⟨D,?_,a⟩;rw[<-a.2.1];obtain⟨c,b,d,F,e,rfl⟩:=h;exact⟨c,b,d,F,by simp[Maps.size,length_sorted],rfl⟩
theorem lD.lt {w:World} {mb:Nat} {A:List eP} (h:lD w mb A):mb<w.heap.size:=by
 obtain⟨D,⟨c,b,a,-⟩,-⟩:=h;exact(aY.1 a).1
theorem lD.same {w w':World} {mb:Nat} {A:List eP} (h:lD w mb A) (e:w'.heap[mb]? =w.heap[mb]?):lD w' mb A:=by
 obtain⟨D,⟨b,a,d,r⟩,c⟩:=h;exact⟨D,⟨b,a,e.trans d,r⟩,c⟩
theorem lD.look {w:World} {mb:Nat} {A:List eP} (h:lD w mb A) {p:Pt} (hp:Be p) (s:(A.map (·.1)).Nodup):
  (∃c∈A,c.1=p/\(Instr.lookup 188 (.map (some mb)) (iV p.1 p.2.1 p.2.2) true).run prog w=.ok (.tuple #[ae c.2,.bool true]) w)\/
  (p∉A.map (·.1)/\(Instr.lookup 188 (.map (some mb)) (iV p.1 p.2.1 p.2.2) true).run prog w=.ok (.tuple #[ae 0,.bool false]) w):=by
 have⟨D,n,j⟩:=h;have⟨v,r,d,f⟩:=n.look_ok (Keyed.of_law Gf) underlying188 (zeroValue3 w) (uY underlying3 ai) (yw hp);rw[(j.2.2 p hp).2]at d;rw[(j.2.2 p hp).1]at f;have l:∀x:Int,plainElem (H:=Unit) prog 3 v=some (DataW.lit (.int .i64 x),r)->v=.int .i64 x:=fun x q=>by
  obtain⟨a,rfl,e,t⟩:=plainElem_int_inv underlying3 q;simp at e;rw[e.1]
 cases b:A.find? fun c=>decide (c.1=p)with
 |none=>
  right;rw[b]at f;have m:=xJ.1 b;have i:(A.any fun c=>decide (c.1=p))=false:=El.2 m;rw[i,l 0 f]at d;exact⟨fun o=>by
   have⟨c,g,e⟩:=cu.1 o;exact m c g (aP e),d⟩
 |some c=>
  left;rw[b]at f;have g:=List.mem_of_find?_eq_some b;have k:c.1=p:=by simpa using List.find?_some b
  have i:(A.any fun c=>decide (c.1=p))=true:=List.any_eq_true.2 ⟨c,g,aP k⟩;rw[i,l c.2 f]at d;exact⟨c,g,k,d⟩
theorem lD.size {w:World} {mb:Nat} {A:List eP} (h:lD w mb A):(Builtin.len_ #[188] 3 #[.map (some mb)]).run prog w=.ok (.int .i64 A.length) w:=by
 have⟨D,a,b⟩:=h;rw[a.len underlying188 3,b.2.1]
abbrev yU:Value:=.func (.func 52) #[] #[]
abbrev DI:Value:=.func (.func 53) #[] #[]
structure iZ (w:World) (X:Nat->Prop) (Hb Cb mb:Nat) (cv tv av lv:Value) (ch:List zN) (T:List (Option Nat)) (al:List Bool) (eU:List Int) (A:List eP) (N wk:Int):Prop where
 blk:w.heap[Hb]? =some (Obj.cells #[yU,DI,aj Cb,tv,av,lv,.map (some mb)] 190 (0,0))
 fJ:mU w 0 Cb cv ch N wk
 rows:qV w ch
 jA:w.ownsRow 0 106 1 tv T.length (T.map vTr)
 dJ:w.ownsRow 0 4 1 av al.length (al.map Value.bool)
 nk:w.ownsRow 0 3 1 lv eU.length (eU.map (Value.int .i64))
 map:lD w mb A
 jg:X Hb/\X Cb/\X mb/\(∀k,cv.ownBlock=some k->X k)/\(∀k,tv.ownBlock=some k->X k)/\(∀k,av.ownBlock=some k->X k)/\(∀k,lv.ownBlock=some k->X k)
 Qc:∀h∈ch,h.2.1≠[]->∀a,h.1=some a->X a.block
structure nO (w:World) (F:Nat->Nat->Prop) (X:Nat->Prop) (CB:List (List eP)) (T:List (Option Nat)) (al:List Bool):Prop where
 tr:∀(i:Nat) (h:i<CB.length),CB[i]≠[]->∃tb n0,T[i]? =some (some tb)/\n0<=CB[i].length/\Bk w (F i) tb n0 (sG al CB[i])
 off:∀i k,F i k->¬X k
 ap:∀i j k,F i k->F j k->i=j
 lt:∀i k,F i k->k<w.heap.size
section
variable {w w':World} {X S:Nat->Prop} {F:Nat->Nat->Prop} {Hb Cb mb:Nat} {cv tv av lv:Value} {ch:List zN} {T:List (Option Nat)} {al:List Bool} {eU:List Int} {A:List eP} {N wk:Int} {CB:List (List eP)}
theorem iZ.kept (h:iZ w X Hb Cb mb cv tv av lv ch T al eU A N wk) (K:ay S w w') (hS:∀k,X k->¬S k):iZ w' X Hb Cb mb cv tv av lv ch T al eU A N wk:=
 ⟨bz K h.blk (hS _ h.jg.1),⟨bH _,h.fJ.ds,bz K h.fJ.blk (hS _ h.jg.2.1),aU h.fJ.row K fun a e=>hS _ (h.jg.2.2.2.1 a e)⟩,h.rows.NK h.Qc K hS,aU h.jA K fun a e=>hS _ (h.jg.2.2.2.2.1 a e),aU h.dJ K fun a e=>hS _ (h.jg.2.2.2.2.2.1 a e),aU h.nk K fun a e=>hS _ (h.jg.2.2.2.2.2.2 a e),h.map.same (K.block _ h.map.lt (hS _ h.jg.2.2.1)),h.jg,h.Qc⟩
theorem iZ.below (h:iZ w X Hb Cb mb cv tv av lv ch T al eU A N wk) (a:Below w.heap.size w w'):iZ w' X Hb Cb mb cv tv av lv ch T al eU A N wk:=h.kept (S:=fun _=>False) ((ay.refl _ _).below a) fun _ _ h=>h
theorem iZ.cell (h:iZ w X Hb Cb mb cv tv av lv ch T al eU A N wk):w.cell? (af Hb 0)=some yU/\w.cell? (af Hb 1)=some DI/\w.cell? (af Hb 2)=some (aj Cb)/\w.cell? (af Hb 3)=some tv/\w.cell? (af Hb 4)=some av/\w.cell? (af Hb 5)=some lv/\w.cell? (af Hb 6)=some (.map (some mb)):=by
 have:=h.blk;refine⟨?_,?_,?_,?_,?_,?_,?_⟩<;>simp[World.cell?,this]
theorem iZ.frozen (h:iZ w X Hb Cb mb cv tv av lv ch T al eU A N wk) (j:Nat):w.frozen? (af Hb j)=false:=by
 have:=h.blk;simp[World.frozen?,this]
theorem iZ.lt (h:iZ w X Hb Cb mb cv tv av lv ch T al eU A N wk):Hb<w.heap.size:=(aY.1 h.blk).1
theorem nO.kept (h:nO w F X CB T al) (K:ay S w w') (hS:∀i k,F i k->¬S k):nO w' F X CB T al:=
 ⟨fun i hi e=>by
  have⟨tb,n0,a,b,c⟩:=h.tr i hi e;exact⟨tb,n0,a,b,c.kept K (hS i)⟩,h.off,h.ap,fun i k d=>bT (h.lt i k d) K.size⟩
theorem zS (h:iZ w X Hb Cb mb cv tv av lv ch T al eU A N wk):aK 134 #[aj Hb] w fun e w'=>e=.returned (.bool false)/\w'=w:=by
 obtain⟨-,-,a,-⟩:=h.cell;go_enter func134,ntmps134;go_wp2;go_ret;exact⟨rfl,rfl⟩
theorem MS (h:iZ w X Hb Cb mb cv tv av lv ch T al eU A N wk):aK 87 #[aj Hb] w (fV w (ae N)):=by
 have b:=ag (zS h);have a:=ag (NL h.fJ);obtain⟨-,-,d,-⟩:=h.cell;go_enter func87,ntmps87
 go_wp2_with (first|(go_at_call 134;refine b.o.mono ?_;rintro e w1 ⟨rfl,rfl⟩)|(go_at_call 139;refine a.o.mono ?_;rintro e w1 ⟨rfl,c⟩))
 go_ret;exact⟨rfl,c⟩
end
end
section
open Go.RowKit Go.Sort Go.Shelf Go.Lib Go.Maps
theorem dG {W:World} {base:Nat} {e:TypeId} {sz n:Nat} {v:Value} {xs:List Value} (d:W.ownsRow base e sz v n xs) {k:Nat} (b:v.ownBlock=some k):∃a,W.heap[k]? =some (Obj.cells a e (0,0)):=by
 rcases d.2 with⟨rfl,_⟩|⟨g,f,a,rfl,_,c,_⟩
 .cases b
 .simp only[Value.ownBlock,jk]at b;subst b;exact⟨a,c⟩
theorem Cg {P:Program} {ops:Array Oper} {o:Oper} {a:Act} {K:Act->World->Prop} {Q:Exit->Act->World->Prop} {E0:Prop} {f:FuncId} {w:World} {vals:Array Value} {R:Ending->World->Prop} (j:∀args w,(callFunc f args).run P w=.ok (.enter f args) w) (k:o.guard=none) (c:Operand) (args:Array Operand) (q:Array TypeId) (m:o.op=.call {callee:=.value c,args:=args,argTypes:=q}) (g:a.eval c=.func (.func f) #[] #[]) (d:vals=(args.toList.map a.eval).toArray)
  (C:Calls P f vals w R) (h:∀e w',R e w'->∃v,e=.returned v/\K (a.put o.dst v) w'):
  if Region.wanted o (yielded ops a.tmps)=true then Oper.wp P o a w K Q else E0:=by
 have p:Region.wanted o (yielded ops a.tmps)=true:=by simp[Region.wanted,k]
 rw[aO p];unfold Oper.wp;have b:args.map a.eval=vals:=by rw[d,<-En]
 have i:(execOp a.eval o).run P w=.ok (.enter f vals) w:=by
  simp[execOp,m,resolve,invoke,b,g,Deferred.ofValue,j]
 rw[i,Oper.upon_enter];refine C.mono fun e w' n=>?_;obtain⟨v,rfl,l⟩:=h e w' n;exact l
abbrev qZ:TypeId:=190
abbrev vT (Cb mb:Nat) (tv av lv:Value):Array Value:=#[yU,DI,aj Cb,tv,av,lv,.map (some mb)]
section
variable {w w' w6:World} {X S:Nat->Prop} {F:Nat->Nat->Prop} {Hb Cb mb:Nat} {cv tv av lv:Value} {ch:List zN} {T:List (Option Nat)} {al:List Bool} {eU:List Int} {A:List eP} {N wk:Int} {CB:List (List eP)}
theorem iZ.more {X':Nat->Prop} (h:iZ w X Hb Cb mb cv tv av lv ch T al eU A N wk) (b:∀k,X k->X' k):iZ w X' Hb Cb mb cv tv av lv ch T al eU A N wk:=
 ⟨h.blk,h.fJ,h.rows,h.jA,h.dJ,h.nk,h.map,⟨b _ h.jg.1,b _ h.jg.2.1,b _ h.jg.2.2.1,fun k e=>b _ (h.jg.2.2.2.1 k e),fun k e=>b _ (h.jg.2.2.2.2.1 k e),fun k e=>b _ (h.jg.2.2.2.2.2.1 k e),fun k e=>b _ (h.jg.2.2.2.2.2.2 k e)⟩,fun x d c a e=>b _ (h.Qc x d c a e)⟩
theorem iZ.ty (h:iZ w X Hb Cb mb cv tv av lv ch T al eU A N wk) {t:TypeId} (K:ay S w w') (hS:∀k,S k->k=Hb\/∃cs fr,w.heap[k]? =some (Obj.cells cs t fr)):
  (t≠278/\t≠213->mU w' 0 Cb cv ch N wk)/\(t≠187->qV w' ch)/\(t≠106->w'.ownsRow 0 106 1 tv T.length (T.map vTr))/\
  (t≠4->w'.ownsRow 0 4 1 av al.length (al.map Value.bool))/\(t≠3->w'.ownsRow 0 3 1 lv eU.length (eU.map (Value.int .i64)))/\lD w' mb A:=by
 have l:∀{b:Nat} {cs:Array Value} {d:TypeId} {fr:Nat×Nat},w.heap[b]? =some (Obj.cells cs d fr)->d≠qZ->t≠d->w'.heap[b]? =w.heap[b]? :=fun{b cs d fr} a f g=>K.block b (aY.1 a).1 fun j=>by
  rcases hS b j with rfl|⟨o,r,i⟩
  .exact dV a h.blk f rfl
  .exact dV i a g rfl
 have c:∀{e:TypeId} {sz n:Nat} {v:Value} {xs:List Value},w.ownsRow 0 e sz v n xs->e≠qZ->t≠e->w'.ownsRow 0 e sz v n xs:=fun{e sz n v xs} m f g=>aX m fun y q=>by
  have⟨p,s⟩:=dG m q;exact l s f g
 refine⟨fun ht=>⟨bH _,h.fJ.ds,(l h.fJ.blk ai ht.1).trans h.fJ.blk,c h.fJ.row ai ht.2⟩,fun ht=>h.rows.kept fun b p fr a=>l a ai ht,fun ht=>c h.jA ai ht,fun ht=>c h.dJ ai ht,fun ht=>c h.nk ai ht,h.map.same ?_⟩;refine K.block _ h.map.lt fun j=>?_;obtain⟨D,⟨x,u,a,-⟩,-⟩:=h.map;rcases hS mb j with e|⟨o,r,i⟩
 .rw[e,h.blk]at a;cases a
 .rw[i]at a;cases a
theorem iZ.zt (h:iZ w X Hb Cb mb cv tv av lv ch T al eU A N wk) {e:TypeId} {n:Nat} {v:Value} {xs:List Value} (d:w.ownsRow 0 e 1 v n xs) (c:e≠qZ):v.ownBlock≠some Hb:=fun a=>by
 have⟨f,b⟩:=dG d a;exact dV h.blk b (fun h=>c h.symm) rfl
theorem iZ.UJ (h:iZ w X Hb Cb mb cv tv av lv ch T al eU A N wk) {v a:Value} (f:v.ownBlock≠some Hb) (d:a.ownBlock=v.ownBlock\/∃b,a.ownBlock=some b/\w.heap.size<=b):a.ownBlock≠some Hb:=by
 rcases d with e|⟨b,e,d⟩
 .rw[e];exact f
 .rw[e];intro c;injection c with c;have:=h.lt;omega
theorem iZ.R6 (h:iZ w X Hb Cb mb cv tv av lv ch T al eU A N wk) (c:w.grownBy w6 tv.ownBlock) {tv':Value} {T':List (Option Nat)} (m:w6.ownsRow 0 106 1 tv' T'.length (T'.map vTr)) (l:tv'.ownBlock≠some Hb):
  iZ (w6.setCell (af Hb 3) tv') (fun k=>X k\/tv'.ownBlock=some k) Hb Cb mb cv tv' av lv ch T' al eU A N wk:=by
 have b:=h.zt h.jA ai;have d:ay (fun k=>k=Hb\/tv.ownBlock=some k) w (w6.setCell (af Hb 3) tv'):=(((ay.refl (fun k=>k=Hb\/tv.ownBlock=some k) w).grown c fun k e=>.inl (.inr e)).set _ (.inl (.inl rfl)));obtain⟨t1,t2,-,t4,t5,t6⟩:=h.ty (t:=106) d (fun k j=>j.imp id fun e=>by obtain⟨o,i⟩:=dG h.jA e;exact⟨_,_,i⟩);have g:w6.heap[Hb]? =some (Obj.cells (vT Cb mb tv av lv) qZ (0,0)):=(c.block Hb h.lt fun e=>b e.symm).trans h.blk;refine⟨?_,t1 ai,t2 ai,aX m fun p e=>aC fun f=>l (by rw[e,<-f]),t4 ai,t5 ai,t6,⟨.inl h.jg.1,.inl h.jg.2.1,.inl h.jg.2.2.1,fun k e=>.inl (h.jg.2.2.2.1 k e),fun k e=>.inr e,fun k e=>.inl (h.jg.2.2.2.2.2.1 k e),fun k e=>.inl (h.jg.2.2.2.2.2.2 k e)⟩,fun x n b a e=>.inl (h.Qc x n b a e)⟩;rw[dC w6 Hb 3 _ _ _ g];rfl
theorem iZ.UK {g n c:Nat} (h:iZ w X Hb Cb mb cv (ax g n c) av lv ch T al eU A N wk) (j:Nat) (x:Option Nat):iZ (w.setCell (af g j) (vTr x)) X Hb Cb mb cv (ax g n c) av lv ch (T.set j x) al eU A N wk:=by
 have i:=h.zt h.jA ai;have b:ay (fun k=>k=g) w (w.setCell (af g j) (vTr x)):=(ay.refl (fun k=>k=g) w).set _ (.inl rfl);obtain⟨t1,t2,-,t4,t5,t6⟩:=h.ty (t:=106) b (fun k f=>.inr (by obtain⟨l,d⟩:=dG h.jA (k:=k) (by rw[f];rfl);exact⟨_,_,d⟩));obtain rfl:n=T.length:=by
  rcases h.jA.2 with⟨e,_⟩|⟨_,_,_,e,_⟩
  .cases e
  .injection e with _ e
 refine⟨(aC (a:=(af g j)) fun e:g=Hb=>i (by show some g=_;rw[e])).trans h.blk,t1 ai,t2 ai,?_,t4 ai,t5 ai,t6,h.jg,h.Qc⟩;rw[kM,kK];exact(h.jA.stored j (vTr x)).1
theorem iZ.VE {g n c:Nat} (h:iZ w X Hb Cb mb cv tv av (ax g n c) ch T al eU A N wk) (j:Nat) (x:Int):iZ (w.setCell (af g j) (.int .i64 x)) X Hb Cb mb cv tv av (ax g n c) ch T al (eU.set j x) A N wk:=by
 have i:=h.zt h.nk ai;have b:ay (fun k=>k=g) w (w.setCell (af g j) (.int .i64 x)):=(ay.refl (fun k=>k=g) w).set _ (.inl rfl);obtain⟨t1,t2,t3,t4,-,t6⟩:=h.ty (t:=3) b (fun k f=>.inr (by obtain⟨l,d⟩:=dG h.nk (k:=k) (by rw[f];rfl);exact⟨_,_,d⟩));obtain rfl:n=eU.length:=by
  rcases h.nk.2 with⟨e,_⟩|⟨_,_,_,e,_⟩
  .cases e
  .injection e with _ e
 refine⟨(aC (a:=(af g j)) fun e:g=Hb=>i (by show some g=_;rw[e])).trans h.blk,t1 ai,t2 ai,t3 ai,t4 ai,?_,t6,h.jg,h.Qc⟩;rw[kM,kK];exact(h.nk.stored j (.int .i64 x)).1
theorem iZ.VF {g n c:Nat} (h:iZ w X Hb Cb mb cv tv (ax g n c) lv ch T al eU A N wk) (j:Nat) (x:Bool):iZ (w.setCell (af g j) (.bool x)) X Hb Cb mb cv tv (ax g n c) lv ch T (al.set j x) eU A N wk:=by
 have i:=h.zt h.dJ ai;have b:ay (fun k=>k=g) w (w.setCell (af g j) (.bool x)):=(ay.refl (fun k=>k=g) w).set _ (.inl rfl);obtain⟨t1,t2,t3,-,t5,t6⟩:=h.ty (t:=4) b (fun k f=>.inr (by obtain⟨l,d⟩:=dG h.dJ (k:=k) (by rw[f];rfl);exact⟨_,_,d⟩));obtain rfl:n=al.length:=by
  rcases h.dJ.2 with⟨e,_⟩|⟨_,_,_,e,_⟩
  .cases e
  .injection e with _ e
 refine⟨(aC (a:=(af g j)) fun e:g=Hb=>i (by show some g=_;rw[e])).trans h.blk,t1 ai,t2 ai,t3 ai,?_,t5 ai,t6,h.jg,h.Qc⟩;rw[kM,kK];exact(h.dJ.stored j (.bool x)).1
theorem iZ.Pv {f:Value} {g:List zN} {p u:Int} (h:iZ w X Hb Cb mb cv tv av lv ch T al eU A N wk) (K:ay (fun k=>k=Cb\/cv.ownBlock=some k) w w') (d:mU w' 0 Cb f g p u) (i:qV w' g) (B:Nw w.heap.size ch g) (c:f.ownBlock=cv.ownBlock\/f.ownBlock=none\/∃b,f.ownBlock=some b/\w.heap.size<=b):
  iZ w' (fun k=>X k\/w.heap.size<=k/\(f.ownBlock=some k\/∃h∈g,h.2.1≠[]/\∃a,h.1=some a/\a.block=k)) Hb Cb mb f tv av lv g T al eU A p u:=by
 have t:∀{b:Nat} {cs:Array Value} {j:TypeId} {fr:Nat×Nat},w.heap[b]? =some (Obj.cells cs j fr)->j≠278->j≠213->w'.heap[b]? =w.heap[b]? :=fun{b cs j fr} c l m=>K.block b (aY.1 c).1 fun h9=>by
  rcases h9 with rfl|h9
  .exact dV c h.fJ.blk l rfl
  .obtain⟨q,d⟩:=dG h.fJ.row h9;exact dV c d m rfl
 have o:∀{e:TypeId} {sz n:Nat} {v:Value} {xs:List Value},w.ownsRow 0 e sz v n xs->e≠278->e≠213->w'.ownsRow 0 e sz v n xs:=fun{e sz n v xs} i l m=>aX i fun F y=>by
  have⟨q,d⟩:=dG i y;exact t d l m
 refine⟨(t h.blk ai ai).trans h.blk,d,i,o h.jA ai ai,o h.dJ ai ai,o h.nk ai ai,h.map.same ?_,⟨.inl h.jg.1,.inl h.jg.2.1,.inl h.jg.2.2.1,fun k e=>?_,fun k e=>.inl (h.jg.2.2.2.2.1 k e),fun k e=>.inl (h.jg.2.2.2.2.2.1 k e),fun k e=>.inl (h.jg.2.2.2.2.2.2 k e)⟩,fun x s r a e=>?_⟩
 .refine K.block _ h.map.lt fun h9=>?_;obtain⟨D,⟨E,C,c,-⟩,-⟩:=h.map;rcases h9 with e|e
  .rw[e,h.fJ.blk]at c;cases c
  .obtain⟨q,d⟩:=dG h.fJ.row e;rw[d]at c;cases c
 .rcases c with e1|e1|⟨b,e1,c⟩
  .exact .inl (h.jg.2.2.2.1 k (by rw[<-e1];exact e))
  .rw[e1]at e;cases e
  .have:b=k:=by rw[e1]at e;injection e
   exact .inr ⟨aa,.inl e⟩
 .rcases B x s with z|h9
  .exact .inl (h.Qc x z r a e)
  .exact .inr ⟨h9 a e,.inr ⟨x,s,r,a,e,rfl⟩⟩
end
end
section
open Go.RowKit Go.Sort Go.Shelf Go.Lib Go.Maps
attribute [local irreducible] wpQuiet
attribute [local go_sem] Oper.eT
theorem UL:eG prog 111 106 1 8:=.mk' (z:=.pointer none) underlying111 aN rfl ai
theorem JI:gF 52:=dh func52 aN rfl
def Ch (Hb:Nat) (w:World):Nat:=match w.cell? (af Hb 3)with|some (.slice _ n _)=>n|_=>0
section
variable {w w' w6:World} {X S:Nat->Prop} {F:Nat->Nat->Prop} {Hb Cb mb:Nat} {cv tv av lv:Value} {ch:List zN} {T:List (Option Nat)} {al:List Bool} {eU:List Int} {A:List eP} {N wk:Int}
theorem iZ.Ch (h:iZ w X Hb Cb mb cv tv av lv ch T al eU A N wk):Ch Hb w=T.length:=by
 obtain⟨a,b,rfl,-,-,-⟩:=Rd.aG (enc:=vTr) h.jA;unfold Proofs.YtkjdbndekceffaaGreat.Ch;rw[h.cell.2.2.2.1]
def zF (T:List (Option Nat)) (i tb:Nat):List (Option Nat):=(T++List.replicate (i+1-T.length) none).set i (some tb)
def UM (w:World) (X:Nat->Prop) (Hb Cb mb:Nat) (cv tv av lv:Value) (ch:List zN) (T:List (Option Nat)) (al:List Bool) (eU:List Int) (A:List eP) (N wk:Int) (l:List eP) (i:Nat) (e:Ending) (w':World):Prop:=
 e=.returned (.tuple #[])/\∃(tv':Value) (tb m:Nat) (Fn:Nat->Prop),iZ w' (fun k=>X k\/w.heap.size<=k/\k<m) Hb Cb mb cv tv' av lv ch (zF T i tb) al (il eU l i) A N wk/\Bk w' Fn tb (sG al l).length (sG al l)/\(∀k,Fn k->m<=k)/\(w.heap.size<=m/\m<=w'.heap.size)/\
  (tv'.ownBlock=tv.ownBlock\/∃b,tv'.ownBlock=some b/\w.heap.size<=b)/\ay (fun k=>k=Hb\/tv.ownBlock=some k\/lv.ownBlock=some k) w w'
theorem KU (h:iZ w X Hb Cb mb cv tv av lv ch T al eU A N wk) (a:Option Addr) (c:Nat) (l:List eP) (i:Nat) (br:LB w a l) (hi:i<=20) (cN:T.length<=100) (c6:l.length<=5000) (bv:∀c∈l,∃k:Nat,c.2=k/\k<al.length) (bu:eU.length=al.length) (cP:al.length<=10000) (bD:HZ (sG al l)) (hu:(ids (sG al l)).Nodup) (bm:∀k,X k->k<w.heap.size):
  aK 136 #[aj Hb,ae i,.slice a l.length c] w (UM w X Hb Cb mb cv tv av lv ch T al eU A N wk l i):=by
 have H:=ag h;have bW:Hid (∀W',ay (fun k=>k=Hb\/tv.ownBlock=some k\/lv.ownBlock=some k) w W'->bV ll 4 W' a l):=fun W' K=>(br.kept fun b bi fr hb=>K.block b (aY.1 hb).1 (by
  rintro(rfl|e|e)
  .exact dV hb h.blk ai rfl
  .obtain⟨bi,aW⟩:=dG h.jA e;exact dV hb aW ai rfl
  .obtain⟨bi,aW⟩:=dG h.nk e;exact dV hb aW ai rfl)).Nr
 have bS:=ag bv;have b3:=ag bD;have b2:=ag hu;have a8:=ag bu;have b4:=ag bm;have cB:Hid (∀m,tv.ownBlock=some m->m<w.heap.size):=fun m e=>(h.jA.lt m e).2;have bO:Hid (∀m,lv.ownBlock=some m->m<w.heap.size):=fun m e=>(h.nk.lt m e).2;clear h br bv bD hu bu bm;go_enter func136,ntmps136
 go_upto_block 0 with fail
 go_cut []from 10 to 26 (fun D=>∃tv':Value,Hid (iZ D (fun b=>X b\/w.heap.size<=b/\b<D.heap.size) Hb Cb mb cv tv' av lv ch (T++List.replicate (i+1-T.length) none) al eU A N wk)/\Hid (tv'.ownBlock=tv.ownBlock\/∃b,tv'.ownBlock=some b/\w.heap.size<=b)/\Hid (ay (fun b=>b=Hb\/tv.ownBlock=some b) w D))
 case first=>
  go_wp2_with fail
  go_loopw [] (fun wr=>∃(k:Nat) (tv':Value),k<=i+1-T.length/\Hid (iZ wr (fun b=>X b\/w.heap.size<=b/\b<wr.heap.size) Hb Cb mb cv tv' av lv ch (T++List.replicate k none) al eU A N wk)/\Hid (tv'.ownBlock=tv.ownBlock\/∃b,tv'.ownBlock=some b/\w.heap.size<=b)/\Hid (ay (fun b=>b=Hb\/tv.ownBlock=some b) w wr)) (fun wr=>i+1-Ch Hb wr)
  case atStart=>exact⟨0,tv,bH _,ag (by rw[List.replicate_zero,iL];exact H.o.more fun k hk=>.inl hk),.inl rfl,ay.refl _ _⟩
  case round=>
   obtain⟨k,tv',hk,d,E,B⟩:=hrel;obtain⟨cu,tc,F,-,c9,-⟩:=Rd.aG (enc:=vTr) d.o.jA;obtain⟨-,-,-,aw,-⟩:=d.o.cell;have cz:=ag d.o.Ch;have bt:(T++List.replicate k (none:Option Nat)).length=T.length+k:=aA;by_cases c4:T.length+k<=i
   .have bB:=d.o.jA;have bM:Hid (∀z,wr.grownBy z tv'.ownBlock->z.heap[Hb]? =some (Obj.cells (vT Cb mb tv' av lv) qZ (0,0))):=fun z u=>(u.block Hb d.o.lt fun e=>d.o.zt d.o.jA ai e.symm).trans d.o.blk;have cC:=B.o.size;rw[bt]at bB F;subst F
    go_wp2_with (at_builtin;go_loud (refine bX UL 0 bB [.pointer none] rfl (by simp[Value.oneCell']) rfl _ _ rfl rfl _ rfl dI aa (bH _) ?_;intro cw z ac u aV;obtain⟨M,az,rfl,cR,cS,cT,cU⟩:=aQ ac aa;have bE:=bM.o z u;have dd:z.cell? (af Hb 3)=some (.slice cu (T.length+k) tc):=(aD bE);have de:z.frozen? (af Hb 3)=false:=(aD bE)))
    have cp:z.ownsRow 0 106 1 (ax M (T.length+k+1) az) (T++List.replicate (k+1) none).length ((T++List.replicate (k+1) none).map vTr):=by
     rw[bQ,iw,<-uW,ry,<-dY,bP (l₁:=T++_)];exact ac
    have aT:=gH aV;have bq:=d.o.R6 u cp (d.o.UJ (d.o.zt d.o.jA ai) aT);have cY:=u.size;have bo:Value.ownBlock (ax M (T.length+k+1) az)=tv.ownBlock\/∃b,Value.ownBlock (ax M (T.length+k+1) az)=some b/\w.heap.size<=b:=by
     rcases aT with f|⟨b,f,aS⟩
     .rw[f];exact E.o
     .exact .inr ⟨b,f,aa⟩
    have a4:=ag bq;have a3:=ag bo;clear aT aV bq bo;go_roundw
    case rel=>
     refine⟨k+1,_,aa,a4.o.more ?_,a3,(B.o.grown u ?_).set (a:=(af Hb 3)) _ (.inl (.inl rfl))⟩
     .rintro b ((hb|hb)|hb)
      .exact .inl hb
      .exact .inr ⟨hb.1,aF⟩
      .have aE:M=b:=by injection hb
       rcases a3.o with f|⟨bd,f,aS⟩
       .exact .inl (H.o.jg.2.2.2.2.1 b (f.symm.trans hb))
       .have cJ:M=bd:=by injection f
        exact .inr ⟨aa,aF⟩
     .intro b hb;rcases E.o with f|⟨bd,f,aS⟩
      .exact .inl (.inr (f.symm.trans hb))
      .rw[f]at hb;injection hb with hb;exact .inr aa
    case measure=>
     rw[a4.o.Ch,d.o.Ch];simp;omega
   .have e:k=i+1-T.length:=aa;subst e;have cI:¬((T.length+(i+1-T.length):Nat):Int)<=(i:Int):=aa;rw[bt]at F;subst F
    go_wp2_with fail
    go_meet;exact⟨_,d,E,B⟩
 case rest=>
  obtain⟨tv',d,E,B⟩:=hcut;obtain⟨w1,ce⟩:∃w1:World,w1=wc:=⟨_,rfl⟩;subst ce;have cO:(T++List.replicate (i+1-T.length) (none:Option Nat)).length=max T.length (i+1):=aF;have b1:Hid (∀tb,(T++List.replicate (i+1-T.length) (none:Option Nat)).set i (some tb)=zF T i tb):=fun tb=>rfl;generalize T++List.replicate (i+1-T.length) (none:Option Nat)=ab at*;have cq:=B.o.size
  go_upto_block 2 with fail
  go_cut [7,9,29]from 30 to 54 (fun pv cL an D=>∃y:Value,y=pv/\Hid (iZ D (fun b=>X b\/w.heap.size<=b/\b<w1.heap.size) Hb Cb mb cv tv' av lv ch ab al (il eU l i) A N wk)/\Hid (D.ownsRow w1.heap.size 29 3 y (sG al l).length ((sG al l).flatMap dw))/\Hid (ay (fun b=>lv.ownBlock=some b) w1 D))
  case first=>
   go_wp2_with fail
   go_loopw [29,7] (fun an pv wr=>∃(j:Nat) (y:Value),an=.int .i64 j/\y=pv/\j<=l.length/\Hid (iZ wr (fun b=>X b\/w.heap.size<=b/\b<w1.heap.size) Hb Cb mb cv tv' av lv ch ab al (il eU (l.take j) i) A N wk)/\Hid (wr.ownsRow w1.heap.size 29 3 y (sG al (l.take j)).length ((sG al (l.take j)).flatMap dw))/\Hid (ay (fun b=>lv.ownBlock=some b) w1 wr)) (fun an _ _=>l.length-(intOf an).toNat)
   case atStart=>exact⟨0,_,rfl,rfl,bH _,d,dA _ _ _ _,ay.refl _ _⟩
   case round=>
    obtain⟨j,y,rfl,rfl,c0,I,HO,U⟩:=hrel;have c8:=U.o.size;by_cases C:j<l.length
    .obtain⟨cE,db,ca,cQ,P⟩:=(bW.o wr ((B.o.mono fun k h=>h.imp id .inl).trans (U.o.mono fun k h=>.inr (.inr h)))).get aa;have aZ:=P j C 0 aa;have x1:=P j C 1 aa;have x2:=P j C 2 aa;have a0:=P j C 3 aa;simp only[ll,fG,dx,dH]at aZ x1 x2 a0;obtain⟨q,am,bw⟩:=bS.o l[j] (bG C);have cn:(il eU (l.take j) i).length=al.length:=by rw[mY];exact a8.o
     obtain⟨gl,lc,bj,-,cW,-,-⟩:=aQ I.o.nk aa;rw[cn]at bj;obtain⟨cF,b5,cb,-,-,bx⟩:=Rd.aG I.o.dJ;obtain⟨lb,lo,cc,c3,bs⟩:=bx.get aa;have a1:=bs q bw;have L:Hid (sG al (l.take (j+1))=sG al (l.take j)++(if al[q]=true then[(l[j]).1]else[])):=by
      show _=_;unfold sG;rw[ig C,lU,bP];congr 1;unfold cK;rw[lW,am];simp only[ib,bZ bw];cases al[q]<;>simp
     have ba:Hid (il eU (l.take (j+1)) i=(il eU (l.take j) i).set q i):=by
      show _=_;rw[ig C,Gq,am,ib]
     have c2:(sG al (l.take j)).length<=5000:=by
      unfold sG;rw[bR];have O:=gV (cK al) (l.take j);have aP:(l.take j).length<=l.length:=by rw[eX];omega
      omega
     rw[am]at a0;clear P bs bx am;generalize sG al (l.take j)=cD at*;generalize cm:il eU (l.take j) i=bc at*;have co:bc.length=al.length:=by rw[<-cm,mY];exact a8.o
     generalize al[q]=be at*;generalize l[j]=x at*;obtain⟨⟨s,t,r⟩,dc⟩:=x;simp only at aZ x1 x2 L;subst ca cc cb bj;have cX:=bO.o gl rfl;have c7:(q:Int)<(al.length:Int):=aa;have c1:(j:Int)<(l.length:Int):=aa;have S:Below wr.heap.size wr (wr.alloc (.cells #[ae s,ae t,ak r,ae q] 187)):=(aJ _ _).alloc (aB _) _;have aX:(wr.alloc (.cells #[ae s,ae t,ak r,ae q] 187)).heap[wr.heap.size]? =some (.cells #[ae s,ae t,ak r,ae q] 187 (0,0)):=df _ _;have cs:(wr.alloc (.cells #[ae s,ae t,ak r,ae q] 187)).heap.size=wr.heap.size+1:=aA;have a2:=(S.cell (p:=(af lb (lo+q))) (gX wr _ a1)).trans a1;have J:=ag (I.o.below S);have ar:=ag (HO.o.alloc (.cells #[ae s,ae t,ak r,ae q] 187));have a6:Hid (ay (fun b=>Value.ownBlock (ax gl al.length lc)=some b) w1 (wr.alloc (.cells #[ae s,ae t,ak r,ae q] 187))):=U.o.below S
     go_wp2_with fail
     generalize(wr.alloc (.cells #[ae s,ae t,ak r,ae q] 187))=n at*;clear aZ x1 x2 a0 a1 S;obtain⟨-,-,-,-,-,bh,-⟩:=J.o.cell;have cj:=ah bh;have aL:=ah (w:=n) (ad:=(af wr.heap.size 3)) (v:=.int .i64 q) (fE aX);have Q:=J.o.nk;rw[co]at Q;have bK:=Q.cellAt q aa;rw[bZ (by rw[bR];omega)]at bK;have cg:=Q.frozenAt q;have cA:=ag (Q.lt gl rfl).2;clear Q;refine au (fun W=>∃p:aR n,W=p.W) [7,8] [(0,false),(1,false),(2,false),(3,true),(4,false),(5,true),(6,false)] ⟨⟨_,(aJ _ _).drew⟩,rfl⟩ 2 ?_;refine aI [7,8] ?_;clear cj aL bh;have bb:=ag (J.o.VE q i);have ao:(n.setCell (af gl q) (.int .i64 i)).heap[wr.heap.size]? =some (.cells #[ae s,ae t,ak r,ae q] 187 (0,0)):=(aC (a:=(af gl q)) (fun e:gl=wr.heap.size=>aa)).trans aX;have Z:ay (fun k=>k=gl) n (n.setCell (af gl q) (.int .i64 i)):=(ay.refl (fun k=>k=gl) n).set _ (.inl rfl);have cx:(n.setCell (af gl q) (.int .i64 i)).cell? (af lb (lo+q))=some (.bool be):=(dz (Z.block lb (gX _ _ a2) (by
      intro e;obtain⟨cG,O⟩:=dG J.o.dJ (k:=lb) rfl;obtain⟨cH,aP⟩:=dG J.o.nk (k:=gl) rfl;exact dV O aP ai e))).trans a2
     have bU:=ag (aU ar.o Z (fun m e (h:m=gl)=>by have:=(ar.o.lt m e).1;omega));have V:Hid (ay (fun b=>Value.ownBlock (ax gl al.length lc)=some b) w1 (n.setCell (af gl q) (.int .i64 i))):=a6.o.trans (Z.mono fun k h=>by rw[h];rfl);have ct:(n.setCell (af gl q) (.int .i64 i)).heap.size=n.heap.size:=aA;have b0:Hid (w1.heap.size<=(n.setCell (af gl q) (.int .i64 i)).heap.size):=by show _<=_;omega
     clear aX Z a2 ct cs
     go_wp2_with fail
     generalize n.setCell (af gl q) (.int .i64 i)=g at*;clear bK cg ar a6;obtain⟨-,-,-,-,b6,-,-⟩:=bb.o.cell;have b7:g.cell? (af wr.heap.size 0)=some (ae s):=fE ao;have b8:g.cell? (af wr.heap.size 1)=some (ae t):=fE ao;have b9:g.cell? (af wr.heap.size 2)=some (ak r):=fE ao;have aE:g.cell? (af wr.heap.size 3)=some (ae q):=fE ao;have a9:=ag (bb.o.below ((aJ _ _).drew).drew);have a7:Hid (ay (fun b=>Value.ownBlock (ax gl al.length lc)=some b) w1 g.drew.drew):=V.o.drew.drew;have Y:=ag ((bU.o.bn 1).bn 1);have cl:=ah (w:=g.drew) b6;have ck:=ah (w:=g.drew) aE;have cr:=ah (w:=g.drew) cx;refine au (fun W=>∃p:aR g.drew,W=p.W) [] [(0,false),(1,false),(2,false),(3,true),(4,false),(5,true),(6,false),(7,true)] ⟨⟨_,(aJ _ _).drew⟩,rfl⟩ 0 ?_;refine lh aN ?_;clear cl ck cr;cases be
     .rw[aM ai,iL]at L;go_wp2;go_roundw
      case rel=>exact⟨j+1,_,by go_num,rfl,aa,by rw[ba.o];exact a9,by rw[L.o];exact Y,a7⟩
      case measure=>exact dX
     .rw[aO rfl]at L;have f0:g.drew.drew.cell? (af wr.heap.size 0)=some (ae s):=b7;have f1:g.drew.drew.cell? (af wr.heap.size 1)=some (ae t):=b8;have f2:g.drew.drew.cell? (af wr.heap.size 2)=some (ak r):=b9
      go_wp2_with (at_builtin;go_loud (refine bX OE w1.heap.size Y.o [.int .i64 s,.int .i64 t,.int .u32 r] rfl (by simp[Value.oneCell']) rfl _ _ rfl rfl _ (by first|rfl|(show ax g.heap.size 1 1=_;simp)) dI aa b0.o ?_;intro cw w6 ac u aV))
      have bN:Hid (ay (fun b=>Value.ownBlock (ax gl al.length lc)=some b) w1 w6):=a7.o.grown u (fun b hb=>.inr (Y.o.lt b hb).1);have bY:Hid (iZ w6 (fun b=>X b\/w.heap.size<=b/\b<w1.heap.size) Hb Cb mb cv tv' (.slice (some (af lb lo)) al.length b5) (ax gl al.length lc) ch ab al (bc.set q i) A N wk):=a9.o.kept ((ay.refl (fun b=>y.ownBlock=some b) g.drew.drew).grown u fun b hb=>.inl hb) (fun k hk e=>by
       have O:=(Y.o.lt k e).1;rcases hk with hk|hk
       .have:=b4.o k hk;omega
       .omega)
      go_roundw
      case rel=>exact⟨j+1,_,by go_num,rfl,aa,by rw[ba.o];exact bY,by rw[L.o,bQ,gZ];exact ac,bN⟩
      case measure=>exact dX
    .obtain rfl:j=l.length:=aa;rw[jK]at I HO;have cV:¬(l.length:Int)<(l.length:Int):=aa
     go_wp2_with fail
     go_meet;exact⟨_,rfl,I,HO,U⟩
  case rest=>
   obtain⟨y,rfl,ap,bT,a5⟩:=hcut;obtain⟨w2,cf⟩:∃w2:World,w2=wc:=⟨_,rfl⟩;subst cf;have bC:=a5.o.size;obtain⟨G,tc,F,-,cZ,-,-⟩:=aQ ap.o.jA aa;subst F;obtain⟨bF,bI,cd,-,-,bz⟩:=bV.aG bf ai bT.o;subst cd;have c5:(sG al l).length<=5000:=by
    unfold sG;rw[bR];have O:=gV (cK al) l;omega
   have CB:=ag (fun p:aR w2=>TG bF bI (sG al l) p.W (bz.below p.h) aa b3.o b2.o);obtain⟨bg,-,-,aw,-,-,-⟩:=ap.o.cell;have ci:=ah bg;have aL:=ah aw;clear bg aw;have da:(i:Int)<(ab.length:Int):=aa
   go_wp2_with fail
   refine au (fun W=>∃p:aR w2,W=p.W) [11,12] [(0,false),(1,false),(2,false),(3,true),(4,false),(5,false),(6,false),(7,false),(8,true),(9,false)] ⟨⟨_,(aJ _ _).drew⟩,rfl⟩ 3 ?_;clear ci aL;refine aH 10 rfl fun K bl=>?_;refine Cg JI rfl _ _ _ rfl rfl (vals:=#[.slice bF (sG al l).length bI]) rfl (CB.o ⟨_,(aJ _ _).drew⟩) ?_;rintro e bJ ⟨tb,rfl,bk,bp⟩;have R:Below w2.heap.size w2 bJ:=(aJ _ _).drew.trans bp;refine⟨_,rfl,?_⟩;refine bl _ _ (fun _ _=>⟨⟨_,R⟩,rfl⟩) ?_;clear bl K;have bL:=ag bk;have aq:=ag (ap.o.below R);have cy:=aq.o.jA.cellAt i aa;rw[bZ (by rw[bR];omega)]at cy;have cM:=aq.o.jA.frozenAt i;have V:=ag R;clear bk bp R CB bz;refine aI [11,12] ?_;go_wp2
   go_end0
   have hP:=aq.o.UK i (some tb);rw[b1.o]at hP;refine⟨rfl,_,tb,w1.heap.size,_,hP,bL.o.kept ((ay.refl (fun k=>k=G) bJ).set (a:=(af G i)) _ (.inl rfl)) (fun k hk h=>?_),fun k hk=>bA bC hk.1,⟨cq,by have:=V.o.size;simp;omega⟩,E.o,?_⟩
   .have O:=(d.o.jA.lt G rfl).2;have aP:=bA bC hk.1;omega
   .refine(((B.o.mono fun k h=>h.imp id .inl).trans (a5.o.mono fun k h=>.inr (.inr h))).below V.o).set (a:=(af G i)) _ ?_;rcases E.o with f|⟨b,f,aS⟩
    .exact .inl (.inr (.inl f.symm))
    .have aE:G=b:=by injection f
     exact .inr (show w.heap.size<=G by omega)
end
end
section
open Go.RowKit Go.Sort Go.Shelf Go.Lib Go.Maps
attribute [local irreducible] wpQuiet
def dU (CB:List (List eP)) (m:Nat):List Nat:=((List.range CB.length).drop m).reverse.filter fun i=>!(CB.getD i []).isEmpty
theorem MU (CB:List (List eP)):dU CB CB.length=[]:=by
 unfold dU;rw[ow aA];rfl
theorem JJ (CB:List (List eP)) (k:Nat) (h:k<CB.length):dU CB k=dU CB (k+1)++if CB[k]=[]then[]else[k]:=by
 unfold dU;rw[mE (aP h),Ao,lU];congr 1;rw[xI,lW,ja,bZ h,gG];by_cases e:CB[k]=[]
 .simp[e]
 .simp[e]
theorem yV (CB:List (List eP)) (m:Nat):(dU CB m).length<=CB.length:=by
 unfold dU;refine bA (gV _ _) ?_;simp
def R7 (T:List (Option Nat)) (k:Nat):Value:=vTr (T.getD k none)
section
variable {w w':World} {X S:Nat->Prop} {F:Nat->Nat->Prop} {Hb Cb mb:Nat} {cv tv av lv:Value} {ch:List zN} {T:List (Option Nat)} {al:List Bool} {eU:List Int} {A:List eP} {N wk:Int}
theorem Pw (h:iZ w X Hb Cb mb cv tv av lv ch T al eU A N wk) (E:nY (ch.map (·.2.1)) al A N) (ab:∀(i:Nat) (hi:i<(ch.map (·.2.1)).length),(ch.map (·.2.1))[i]≠[]->i<T.length):
  aK 61 #[aj Hb] w fun e w'=>∃v,e=.returned v/\w'.ownsRow w.heap.size 106 1 v (dU (ch.map (·.2.1)) 0).length ((dU (ch.map (·.2.1)) 0).map (R7 T))/\Below w.heap.size w w':=by
 have H:=ag h;have P:=ag E;have M:=ag ab;have aw:ch.length<=13:=by have:=E.levels.1;simpa using this
 have I:=ag (zS h);have G:=ag (yl h.fJ aa);obtain⟨-,-,S,-⟩:=h.cell;have O:Hid (∀m,(dU (ch.map (·.2.1)) m).length<=13):=fun m=>by have:=yV (ch.map (·.2.1)) m;rw[bR]at this;show _<=_;omega
 go_enter func61,ntmps61
 go_wp2_with (first|(go_at_call 134;refine I.o.mono ?_;rintro e w1 ⟨rfl,x⟩;have W:=x.symm;clear x;subst W)|(go_at_call 141;refine G.o.mono ?_;rintro e w2 ⟨rfl,C⟩;have K:=ag C;clear C))
 go_loopw [4,3] (fun q ao wr=>∃(m:Nat) (lw:Value),q=.int .i64 ((m:Int)-1)/\lw=ao/\m<=ch.length/\Hid (wr.ownsRow w.heap.size 106 1 lw (dU (ch.map (·.2.1)) m).length ((dU (ch.map (·.2.1)) m).map (R7 T)))/\Hid (Below w.heap.size w wr)) (fun q _ _=>(intOf q+1).toNat)
 case atStart=>exact⟨ch.length,_,by go_num,rfl,aB _,by have:=MU (ch.map (·.2.1));rw[bR]at this;rw[this];exact dA _ _ _ _,K⟩
 case round=>
  obtain⟨m,lw,rfl,rfl,aE,HO,c⟩:=hrel;rcases nC m with zz|zz
  .subst zz
   go_wp2_with fail
   go_ret;exact⟨_,rfl,HO.o,c.o⟩
  .obtain⟨k,rfl⟩:∃k,m=k+1:=⟨m-1,aa⟩;have ad:(((k+1:Nat):Int)-1)=(k:Int):=aa;rw[ad];have aC:(0:Int)<=(k:Int):=aa;have n:k<(ch.map (·.2.1)).length:=by rw[bR];omega
   have a:=ag (JJ (ch.map (·.2.1)) k n);have B:=M.o k n;rw[fM]at a B;have ae:k<ch.length:=aa;have aI:ch[k].2.1.length<=5000:=by
    have:=P.o.few k n;rwa [fM]at this
   have d:=ag (H.o.below c.o);have CB:=ag (ym d.o.fJ d.o.rows aa k ae aa);obtain⟨-,-,S,-⟩:=d.o.cell;generalize ch[k].2.1=lk at*;have aD:=O.o (k+1);generalize dU (ch.map (·.2.1)) (k+1)=L at*;obtain⟨F,Y⟩:∃F:World,F=wr:=⟨_,rfl⟩;subst Y;have ak:=c.o.size
   go_wp2_with fail
   refine CB.o.mono ?_;rintro e w3 ⟨aL,rfl,ai,f⟩;have aH:=f.size;have r:Hid (Below w.heap.size w w3):=c.o.trans (f.mono ak);have l:=ag (az HO.o f);obtain⟨aq,ar,V,-,-,-⟩:=LB.aG ai;subst V;have j:=ag (d.o.below f);by_cases g:lk=[]
   .subst g;rw[aO rfl,iL]at a;have am:¬(0:Int)<((([]:List eP).length:Nat):Int):=aA;go_wp2;go_roundw
    case rel=>exact⟨k,_,by go_num,rfl,aa,by rw[a.o];exact l,r⟩
    case measure=>simp[intOf]
   .rw[aM g]at a;have D:=B g;have aF:0<lk.length:=Aa.2 g;have am:(0:Int)<((lk.length:Nat):Int):=aa;obtain⟨Z,tc,u,-,ax,-,-⟩:=aQ j.o.jA aa;have ap:w3.cell? (af Z k)=some (R7 T k):=by
     have y:=j.o.jA;rw[u]at y;have z:=y.cellAt k aa;rw[iy,bZ D]at z;unfold R7;rw[ja,bZ D];exact z
    have Q:Hid (∃p,R7 T k=.pointer p):=by
     unfold R7 vTr;split<;>exact⟨_,rfl⟩
    have⟨an,t⟩:=Q.o;have J:=ag t;obtain⟨-,-,-,U,-⟩:=j.o.cell;rw[u]at U;rw[t]at ap;have ay:(k:Int)<(T.length:Int):=aa;have s:Hid (w.heap.size<=w3.heap.size):=by show _<=_;omega
    go_wp2_with (at_builtin;refine bX UL w.heap.size l.o [.pointer an] rfl (by simp[Value.oneCell']) rfl _ _ rfl rfl _ rfl dI aa s.o ?_;intro aJ w6 ah ac au)
    have R:Below w.heap.size w w6:=r.o.grown ac (by have:=s.o;omega) (fun b e=>(l.o.lt b e).1);go_roundw
    case rel=>exact⟨k,_,by go_num,rfl,aa,by rw[a.o,bQ,bP,lX,pV,J.o];exact ah,R⟩
    case measure=>simp[intOf]
end
end
section
open Go.RowKit Go.Sort Go.Shelf Go.Lib Go.Maps
attribute [local irreducible] wpQuiet
attribute [local go_sem] Oper.eT
def kJ (al:List Bool) (CB:List (List eP)) (m:Nat):List eP:=((CB.drop m).reverse.flatten).filter (cK al)
theorem MV (al:List Bool) (CB:List (List eP)):kJ al CB CB.length=[]:=by unfold kJ;rw[List.drop_length];rfl
theorem JK (al:List Bool) (CB:List (List eP)) (k:Nat) (h:k<CB.length):kJ al CB k=kJ al CB (k+1)++CB[k].filter (cK al):=by
 unfold kJ;rw[mE h,Ao,kY,lU];simp
theorem DJ (al:List Bool) (CB:List (List eP)) (m:Nat):(kJ al CB m).length<=CB.flatten.length:=by
 unfold kJ;refine bA (gV _ _) ?_;rw[((uN (CB.drop m)).flatten).length_eq];have a:(CB.take m).flatten++(CB.drop m).flatten=CB.flatten:=by rw[<-kY,jB]
 have:=congrArg List.length a;rw[bQ]at this;omega
section
variable {w w':World} {X S:Nat->Prop} {F:Nat->Nat->Prop} {Hb Cb mb:Nat} {cv tv av lv:Value} {ch:List zN} {T:List (Option Nat)} {al:List Bool} {eU:List Int} {A:List eP} {N wk:Int} {A':List eP}
theorem Px (h:iZ w X Hb Cb mb cv tv av lv ch T al eU A N wk) (V:nY (ch.map (·.2.1)) al A' N):
  aK 213 #[aj Hb] w fun e w'=>∃v,e=.returned v/\w'.ownsRow w.heap.size 187 4 v (kJ al (ch.map (·.2.1)) 0).length ((kJ al (ch.map (·.2.1)) 0).flatMap ll)/\Below w.heap.size w w':=by
 have H:=ag h;have ay:=ag V;have U:=V.levels;have bw:ch.length<=13:=by have:=U.1;simpa using this
 have aX:Hid (∀m,(kJ al (ch.map (·.2.1)) m).length<=5000):=fun m=>bA (DJ _ _ _) U.2.1;have aU:=ag (yl h.fJ aa);obtain⟨-,-,aC,-⟩:=h.cell;clear h V U;go_enter func213,ntmps213
 go_wp2_with (go_at_call 141;refine aU.o.mono ?_;rintro e w2 ⟨rfl,aF⟩;have aV:=ag aF;clear aF)
 go_loopw [4,3] (fun W ab wr=>∃(m:Nat) (lw:Value),W=.int .i64 ((m:Int)-1)/\lw=ab/\m<=ch.length/\Hid (wr.ownsRow w.heap.size 187 4 lw (kJ al (ch.map (·.2.1)) m).length ((kJ al (ch.map (·.2.1)) m).flatMap ll))/\Hid (Below w.heap.size w wr)) (fun W _ _=>(intOf W+1).toNat)
 case atStart=>exact⟨ch.length,_,by go_num,rfl,aB _,by have:=MV al (ch.map (·.2.1));rw[bR]at this;rw[this];exact dA _ _ _ _,aV⟩
 case round=>
  obtain⟨m,lw,rfl,rfl,bJ,HO,u⟩:=hrel;rcases nC m with zz|zz
  .subst zz;have bx:¬(0:Int)<=((0:Nat):Int)-1:=aa
   go_wp2_with fail
   go_ret;exact⟨_,rfl,HO.o,u.o⟩
  .obtain⟨k,rfl⟩:∃k,m=k+1:=⟨m-1,aa⟩;have bh:(((k+1:Nat):Int)-1)=(k:Int):=aa;rw[bh];have bE:(0:Int)<=(k:Int):=aa;have aI:k<(ch.map (·.2.1)).length:=by rw[bR];omega
   have aw:=ag (JK al (ch.map (·.2.1)) k aI);have aL:k<ch.length:=aa;have bM:ch[k].2.1.length<=5000:=by
    have:=ay.o.few k aI;rwa [fM]at this
   have aY:Hid (∀x∈ch[k].2.1,∃k:Nat,x.2=(k:Int)/\k<al.length):=fun x bk=>ay.o.num (pM.2 ⟨_,cu.2 ⟨_,bG aL,rfl⟩,bk⟩);have O:=ag (H.o.below u.o);have CB:=ag (ym O.o.fJ O.o.rows aa k aL aa);obtain⟨-,-,aC,-⟩:=O.o.cell;rw[fM]at aw;generalize ch[k].2.1=lk at*;have bI:=aX.o (k+1);generalize kJ al (ch.map (·.2.1)) (k+1)=L at*;obtain⟨F,bb⟩:∃F:World,F=wr:=⟨_,rfl⟩;subst bb;have bj:=u.o.size
   go_wp2_with fail
   refine CB.o.mono ?_;rintro e w3 ⟨bo,rfl,B,z⟩;have bL:=z.size;have aW:Hid (Below w.heap.size w w3):=u.o.trans (z.mono bj);have aZ:=ag (az HO.o z);have a2:Hid (∀a,bo.ownBlock=some a->lw.ownBlock≠some a):=fun a e i=>by
    have aE:=(B.lt a e).1;have bc:=(HO.o.lt a i).2;omega
   have a0:=ag B;obtain⟨aA,s,S,-,-,-⟩:=LB.aG B;subst S;clear B z CB aC
   go_wp2_with fail
   go_loopw [24,3] (fun Y ab wr=>∃(j:Nat) (D:Value),Y=.int .i64 j/\D=ab/\j<=lk.length/\Hid (wr.ownsRow w.heap.size 187 4 D (L++(lk.take j).filter (cK al)).length ((L++(lk.take j).filter (cK al)).flatMap ll))/\Hid (wr.ownsRow F.heap.size 187 4 (.slice aA lk.length s) lk.length (lk.flatMap ll))/\Hid (∀a,Value.ownBlock (.slice aA lk.length s)=some a->D.ownBlock≠some a)/\Hid (Below w.heap.size w wr)) (fun Y _ _=>lk.length-(intOf Y).toNat)
   case atStart=>exact⟨0,_,rfl,rfl,bH _,by rw[lK,Et,iL];exact aZ,a0,a2,aW⟩
   case round=>
    obtain⟨j,D,rfl,rfl,bB,I,aq,K,y⟩:=hrel;have aT:=y.o.size;by_cases n:j<lk.length
    .obtain⟨bs,bt,R,-,-,aS⟩:=LB.aG aq.o;injection R with R _ S;subst R S;obtain⟨Q,Z,a8,bv,t⟩:=aS.Nr.get aa;have ac:=t j n 0 aa;have x1:=t j n 1 aa;have x2:=t j n 2 aa;have ad:=t j n 3 aa;simp only[ll,fG,dx,dH]at ac x1 x2 ad;obtain⟨q,C,aQ⟩:=aY.o lk[j] (bG n);have P:=H.o.below y.o;obtain⟨bN,lc,ba,-,-,aR⟩:=Rd.aG P.dJ;obtain⟨lb,lo,a9,bF,aP⟩:=aR.get aa;have am:=aP q aQ;obtain⟨-,-,-,-,an,-⟩:=P.cell;have r:Hid (L++(lk.take (j+1)).filter (cK al)=(L++(lk.take j).filter (cK al))++(if al[q]=true then[lk[j]]else[])):=by
      show _=_;rw[ig n,lU,<-dY];congr 1;unfold cK;rw[lW,C];simp only[ib,bZ aQ];cases al[q]<;>simp
     have bD:(L++(lk.take j).filter (cK al)).length<=5000+5000:=by
      rw[bQ];have aE:=gV (cK al) (lk.take j);have bc:(lk.take j).length<=lk.length:=by rw[eX];omega
      omega
     rw[C]at ad;have M:=ag C;clear t aP C aR aS P;generalize L++(lk.take j).filter (cK al)=br at*;generalize al[q]=a5 at*;generalize lk[j]=x at*;obtain⟨⟨f,g,d⟩,bO⟩:=x;simp only at ac x1 x2 r M;obtain rfl:=M.o;clear M;subst a8 a9 ba;have bC:(j:Int)<(lk.length:Int):=aa;have bK:(q:Int)<(al.length:Int):=aa;have G:Below wr.heap.size wr (wr.alloc (.cells #[ae f,ae g,ak d,ae q] 187)):=(aJ _ _).alloc (aB _) _;have E:(wr.alloc (.cells #[ae f,ae g,ak d,ae q] 187)).heap[wr.heap.size]? =some (.cells #[ae f,ae g,ak d,ae q] 187 (0,0)):=df _ _;have ap:Hid (w.heap.size<=(wr.alloc (.cells #[ae f,ae g,ak d,ae q] 187)).heap.size):=by show _<=_;simp;omega
     have bp:=(G.cell (p:=(af lb (lo+q))) (gX wr _ am)).trans am;have bq:=(G.cell (p:=(af Hb 4)) (gX wr _ an)).trans an;have ar:=ag (I.o.alloc (.cells #[ae f,ae g,ak d,ae q] 187));have J:=ag (aq.o.alloc (.cells #[ae f,ae g,ak d,ae q] 187));have ao:=ag (y.o.alloc aT (.cells #[ae f,ae g,ak d,ae q] 187));clear aT
     go_wp2_with fail
     generalize(wr.alloc (.cells #[ae f,ae g,ak d,ae q] 187))=c at*;clear ac x1 x2 ad G am an;have a6:c.cell? (af wr.heap.size 0)=some (ae f):=fE E;have a7:c.cell? (af wr.heap.size 1)=some (ae g):=fE E;have i:c.cell? (af wr.heap.size 2)=some (ak d):=fE E;have aD:c.cell? (af wr.heap.size 3)=some (ae q):=fE E;have be:=ah (w:=c) bq;have bd:=ah (w:=c) aD;have bl:=ah (w:=c) bp;refine kN [(0,false),(1,false),(2,false),(3,true),(4,false),(5,true),(6,false),(7,true)] 0 ?_;refine lh aN ?_;clear be bd bl;cases a5
     .rw[aM ai,iL]at r;go_wp2;go_roundw
      case rel=>exact⟨j+1,_,by go_num,rfl,aa,by rw[r.o];exact ar.o.bn 1,J.o.bn 1,K,ao.o.drew⟩
      case measure=>exact dX
     .rw[aO rfl]at r;have au:=ag (ar.o.bn 1);have f0:c.drew.cell? (af wr.heap.size 0)=some (ae f):=a6;have f1:c.drew.cell? (af wr.heap.size 1)=some (ae g):=a7;have f2:c.drew.cell? (af wr.heap.size 2)=some (ak d):=i;have f3:c.drew.cell? (af wr.heap.size 3)=some (ae q):=aD
      go_wp2_with (at_builtin;go_loud (refine bX F5 w.heap.size au.o [.int .i64 f,.int .i64 g,.int .u32 d,.int .i64 q] rfl (by simp[Value.oneCell']) rfl _ _ rfl rfl _ (by first|rfl|(show ax c.heap.size 1 1=_;simp)) dI aa ap.o ?_;intro bm w6 bi aH bg))
      have a4:Below w.heap.size w w6:=ao.o.drew.grown aH (by have:=ap.o;exact this) (fun b e=>(au.o.lt b e).1);have a1:Hid (w6.ownsRow F.heap.size 187 4 (.slice (some (af Q Z)) lk.length s) lk.length (lk.flatMap ll)):=by
       refine(J.o.bn 1).kept aH ?_;rcases Ia (Value.ownBlock (.slice (some (af Q Z)) lk.length s))with l|⟨a,l⟩
       .exact .inl l
       .exact .inr (fun e=>K.o a l (e.symm.trans l))
      have a3:Hid (∀a,Value.ownBlock (.slice (some (af Q Z)) lk.length s)=some a->bm.ownBlock≠some a):=fun a e i=>by
       have aE:=(J.o.lt a e).2;rcases gH bg with l|⟨b,l,bf⟩
       .exact K.o a e (l.symm.trans i)
       .rw[l]at i;injection i with i;have bu:c.heap.size<=b:=bf;omega
      go_roundw
      case rel=>exact⟨j+1,_,by go_num,rfl,aa,by rw[r.o,bQ,gZ];exact bi,a1,a3,a4⟩
      case measure=>exact dX
    .obtain rfl:j=lk.length:=aa;rw[jK,<-aw.o]at I;have bz:¬(lk.length:Int)<(lk.length:Int):=aa;go_wp2;go_roundw
     case rel=>exact⟨k,_,by go_num,rfl,aa,I,y⟩
     case measure=>simp[intOf]
end
end
end Go.Proofs.YtkjdbndekceffaaGreat
