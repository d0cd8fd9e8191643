/- Made small by a program. -/
import Derived.Test.YtkjdbndekceffaaGreatX14
set_option linter.unusedSimpArgs false
set_option linter.unusedVariables false
set_option maxRecDepth 100000
set_option maxHeartbeats 16000000
namespace Go.Proofs.YtkjdbndekceffaaGreat
open Tryz
section
open Go.RowKit Go.Sort Go.Shelf Go.Lib Go.Maps
attribute [local irreducible] wpQuiet
attribute [local go_sem] Oper.fB
section
variable {w:World} {F:Nat->Prop} {tb n0:Nat} {l:List Pt} {lo m0 m1 m2 m3 m4 hi bx cn hp lw ob:Nat} {tl sv:Value} {dn:Bool}
theorem mf.top (h:mf w F tb n0 l lo m0 m1 m2 m3 m4 hi bx cn hp lw ob tl sv dn):hi<=w.heap.size:=by
 have a:=h.ord;have b:=h.TV;have c:=h.fin.2.2 (hi-1) (h.fin.1 (hi-1) (by have:=h.row;omega) aa);omega
theorem RL (h:mf w F tb n0 l lo m0 m1 m2 m3 m4 hi bx cn hp lw ob tl sv dn) (x y d:Int) (M:(x,y,d)∈l):
  aK 53 #[aj tb,jc x y d] w fun e w'=>e=.returned (.bool true)/\
   ∃bB bC,mf w' (fun k=>F k\/w.heap.size<=k/\k<w'.heap.size) tb n0 (l.filter fun q=>decide (q≠(x,y,d))) lo m0 m1 m2 m3 m4 hi bx cn hp lw bB bC sv false/\ax F w w':=by
 have bT:=h.top;have bR:l.length<=20000:=bA h.box.Fw.1 h.box.Fw.2;have bu:∃g c,tl=aA g l.length c:=by
  rcases h.row.2 with⟨rfl,bv⟩|⟨g,bi,bN,rfl,_⟩
  .have bO:=h.row.1;have:l=[]:=gU bv;rw[this]at M;cases M
  .exact⟨g,bi,rfl⟩
 obtain⟨g,c,rfl⟩:=bu;have bP:=h.Sw g rfl;have bQ:=(h.row.lt g rfl).1;obtain⟨bs,bt⟩:=h.TV;obtain⟨bU,bV,bY,bZ,b0⟩:=h.ord;have bo:=Fg h.und.1;have H:=ag h;have C:=ag M;have L:ax (fun _=>False) w (w.alloc (.cells #[ae x,ae y,ak d] 29)):=(ax.refl _ w).alloc _;have aC:=bW w (.cells #[ae x,ae y,ak d] 29);have b1:(w.alloc (.cells #[ae x,ae y,ak d] 29)).heap.size=w.heap.size+1:=ay;have S:=bq L h.blk (fun h=>h);have aE:=aR h.row L (fun _ _ h=>h);have ai:=ag (OL (x,y,d) w.heap.size g c l.length lo l _ (by rw[eF _ _ _ _ rfl];rfl) (by rw[eF _ _ _ _ rfl];rfl) (by rw[eF _ _ _ _ rfl];rfl) aE rfl aa aa bo);have bf:(w.alloc (.cells #[ae x,ae y,ak d] 29)).cell? (af tb 0)=some (aA g l.length c):=aD S;have am:=ag S;have Q:=ag aC;have X:=ag L;clear h M S aC aE L;go_enter func53,ntmps53
 go_wp2_with fail
 generalize w.alloc (.cells #[ae x,ae y,ak d] 29)=w1 at*;refine ai.o.mono ?_;rintro e w2 ⟨n',rfl,aT,aU,B⟩;have J:=bq B am.o aa;have aQ:(aA g n' c).ownBlock≠some tb:=fun e=>by
  have u:g=tb:=by injection e
  omega
 have a8:=ag (bq B Q.o aa);have bS:=B.size;have f2:w2.frozen? (af tb 0)=false:=aD J;have bg:w2.cell? (af tb 0)=some (aA g l.length c):=aD J;have aL:(w2.setCell (af tb 0) (aA g n' c)).heap[tb]? =some (Obj.cells #[aA g n' c,aj bx,aj cn,aj hp,aj lw,aj ob,sv] 120 (0,0)):=by
  rw[di w2 tb 0 _ _ _ J];rfl
 have ao:ax (fun k=>k=g\/k=tb) w1 (w2.setCell (af tb 0) (aA g n' c)):=(B.mono fun k h=>.inl h).set _ (.inl (.inr rfl));have aV:(w2.setCell (af tb 0) (aA g n' c)).heap.size=w2.heap.size:=ay;have aH:(w2.setCell (af tb 0) (aA g n' c)).ownsRow lo 29 3 (aA g n' c) n' ((l.filter fun q=>decide (q≠(x,y,d))).flatMap dw):=aZ aU fun i e=>aF fun U=>aQ (by rw[e,<-U]);have ap:=ao.alloc (.cells #[ak 0,.int .i32 0,ak 0] 199);have R:=bW (w2.setCell (af tb 0) (aA g n' c)) (.cells #[ak 0,.int .i32 0,ak 0] 199);have T:ax (fun _=>False) (w2.setCell (af tb 0) (aA g n' c)) ((w2.setCell (af tb 0) (aA g n' c)).alloc (.cells #[ak 0,.int .i32 0,ak 0] 199)):=(ax.refl _ _).alloc _;have K:=bq T aL (fun h=>h);have aJ:=ag (aR aH T (fun _ _ h=>h));have aW:((w2.setCell (af tb 0) (aA g n' c)).alloc (.cells #[ak 0,.int .i32 0,ak 0] 199)).heap.size=w2.heap.size+1:=ay;have bh:((w2.setCell (af tb 0) (aA g n' c)).alloc (.cells #[ak 0,.int .i32 0,ak 0] 199)).cell? (af tb 5)=some (aj ob):=aD K;have f4:((w2.setCell (af tb 0) (aA g n' c)).alloc (.cells #[ak 0,.int .i32 0,ak 0] 199)).frozen? (af tb 5)=false:=aD K;rw[aV]at R;have P:=ag ap;have an:=ag K;have al:=ag R;have a3:=ag aT;clear ai bf aU B J aL ao aH ap T K R aT
 go_wp2_with fail
 generalize((w2.setCell (af tb 0) (aA g n' c)).alloc (.cells #[ak 0,.int .i32 0,ak 0] 199))=w4 at*;have aM:Hid ((w4.setCell (af tb 5) (aj w2.heap.size)).heap[tb]? =some (Obj.cells #[aA g n' c,aj bx,aj cn,aj hp,aj lw,aj w2.heap.size,sv] 120 (0,0))):=by
  show _=_;rw[di w4 tb 5 _ _ _ an.o];rfl
 have aq:Hid (ax (fun k=>k=g\/k=tb) w (w4.setCell (af tb 5) (aj w2.heap.size))):=((X.o.mono fun _ h=>h.elim).trans P.o).set _ (.inl (.inr rfl));have a9:Hid ((w4.setCell (af tb 5) (aj w2.heap.size)).ownsRow lo 29 3 (aA g n' c) n' ((l.filter fun q=>decide (q≠(x,y,d))).flatMap dw)):=aZ aJ.o fun i e=>aF fun U=>aQ (by rw[e,<-U]);have D:Hid ((w4.setCell (af tb 5) (aj w2.heap.size)).heap[w.heap.size]? =some (Obj.cells #[ae x,ae y,ak d] 29 (0,0))):=(aF (by simp only;omega)).trans (bq P.o Q.o aa);have a4:Hid ((w4.setCell (af tb 5) (aj w2.heap.size)).heap[w2.heap.size]? =some (Obj.cells #[ak 0,.int .i32 0,ak 0] 199 (0,0))):=(aF (by simp only;omega)).trans al.o;have b2:(w4.setCell (af tb 5) (aj w2.heap.size)).heap.size=w2.heap.size+1:=by simp[aW]
 clear f2 bg aV aJ aW bh f4 P an al X am Q a8;generalize w4.setCell (af tb 5) (aj w2.heap.size)=r at*;have Y:=ag (H.o.Uy.kept ((aq.o.drew)) (fun k z A V=>aa));have bj:=ah (w:=r) (ad:=(af tb 2)) (v:=aj cn) (aD aM.o);have bD:=ah (w:=r) (ad:=(af w.heap.size 0)) (v:=.int .i64 x) (aD D.o);have bI:=ah (w:=r) (ad:=(af w.heap.size 1)) (v:=.int .i64 y) (aD D.o);have d5:=ah (w:=r) (ad:=(af w.heap.size 2)) (v:=.int .u32 d) (aD D.o);refine au (fun W=>∃p:aS r,W=p.W) [5] [(0,false),(1,false),(2,false),(3,true),(4,true)] ⟨⟨_,(aI _ _).drew⟩,rfl⟩ 1 ?_;refine aG [5] ?_;clear bj bD bI d5
 go_wp2_with fail
 refine(RJ Y.o (x,y,d) C.o).mono ?_;rintro e w6 ⟨rfl,b,a⟩;have aX:=ag b;have t:Hid (ax (fun k=>m2<=k/\k<m3) r w6):=((ax.refl _ r).drew).trans a;have aN:=ag (bq t.o aM.o aa);have E:=ag (bq t.o D.o aa);have a5:=ag (bq t.o a4.o aa);have ba:=ag (aR a9.o t.o (fun i e=>by have u:g=i:=(by injection e);omega));have ar:Hid (ax (fun k=>(k=g\/k=tb)\/(m2<=k/\k<m3)) w w6):=(aq.o.mono fun k h=>aa).trans (t.o.mono fun k h=>aa);have b3:=a.size;clear b a Y
 go_wp2_with fail
 have Z:=ag (H.o.Uz.kept ((ar.o.drew)) (fun k z A V=>aa));have bk:=ah (w:=w6) (ad:=(af tb 3)) (v:=aj hp) (aD aN.o);have bE:=ah (w:=w6) (ad:=(af w.heap.size 0)) (v:=.int .i64 x) (aD E.o);have bJ:=ah (w:=w6) (ad:=(af w.heap.size 1)) (v:=.int .i64 y) (aD E.o);have d6:=ah (w:=w6) (ad:=(af w.heap.size 2)) (v:=.int .u32 d) (aD E.o);refine au (fun W=>∃p:aS w6,W=p.W) [5] [(0,false),(1,false),(2,false),(3,true),(4,true)] ⟨⟨_,(aI _ _).drew⟩,rfl⟩ 1 ?_;refine aG [5] ?_;clear bk bE bJ d6
 go_wp2_with fail
 refine(TW Z.o (x,y,d) C.o).mono ?_;rintro e f ⟨rfl,b,a⟩;have a0:=ag b;have s:Hid (ax (fun k=>m3<=k/\k<m4) w6 f):=((ax.refl _ w6).drew).trans a;have aO:=ag (bq s.o aN.o aa);have G:=ag (bq s.o E.o aa);have a6:=ag (bq s.o a5.o aa);have bb:=ag (aR ba.o s.o (fun i e=>by have u:g=i:=(by injection e);omega));have av:Hid (ax (fun k=>(k=g\/k=tb)\/(m2<=k/\k<m4)) w f):=(ar.o.mono fun k h=>aa).trans (s.o.mono fun k h=>aa);have b4:=a.size;clear b a Z
 go_wp2_with fail
 have ab:=ag (H.o.low.kept ((av.o.drew)) (fun k z A V=>aa));have bl:=ah (w:=f) (ad:=(af tb 4)) (v:=aj lw) (aD aO.o);have bF:=ah (w:=f) (ad:=(af w.heap.size 0)) (v:=.int .i64 x) (aD G.o);have bK:=ah (w:=f) (ad:=(af w.heap.size 1)) (v:=.int .i64 y) (aD G.o);have d7:=ah (w:=f) (ad:=(af w.heap.size 2)) (v:=.int .u32 d) (aD G.o);refine au (fun W=>∃p:aS f,W=p.W) [5] [(0,false),(1,false),(2,false),(3,true),(4,true)] ⟨⟨_,(aI _ _).drew⟩,rfl⟩ 1 ?_;refine aG [5] ?_;clear bl bF bK d7
 go_wp2_with fail
 refine(TY ab.o (x,y,d) C.o).mono ?_;rintro e j ⟨rfl,b,a⟩;have a1:=ag b;have n:Hid (ax (fun k=>m4<=k/\k<hi) f j):=((ax.refl _ f).drew).trans a;have aP:=ag (bq n.o aO.o aa);have I:=ag (bq n.o G.o aa);have a7:=ag (bq n.o a6.o aa);have bc:=ag (aR bb.o n.o (fun i e=>by have u:g=i:=(by injection e);omega));have aw:Hid (ax (fun k=>(k=g\/k=tb)\/(m2<=k/\k<hi)) w j):=(av.o.mono fun k h=>aa).trans (n.o.mono fun k h=>aa);have b5:=a.size;clear b a ab
 go_wp2_with fail
 have ac:=ag (H.o.box.kept ((aw.o.drew)) (fun k z A V=>aa));have bm:=ah (w:=j) (ad:=(af tb 1)) (v:=aj bx) (aD aP.o);have bH:=ah (w:=j) (ad:=(af w.heap.size 0)) (v:=.int .i64 x) (aD I.o);have bL:=ah (w:=j) (ad:=(af w.heap.size 1)) (v:=.int .i64 y) (aD I.o);have d8:=ah (w:=j) (ad:=(af w.heap.size 2)) (v:=.int .u32 d) (aD I.o);refine au (fun W=>∃p:aS j,W=p.W) [5,6] [(0,false),(1,false),(2,false),(3,true),(4,true)] ⟨⟨_,(aI _ _).drew⟩,rfl⟩ 2 ?_;refine aG [5,6] ?_;clear bm bH bL d8
 go_wp2_with fail
 refine(PR ac.o (x,y,d) C.o).mono ?_;rintro e O ⟨rfl,b,a⟩;have a2:=ag b;have m:Hid (ax (fun k=>m1<=k/\k<m2) j O):=((ax.refl _ j).drew).trans a;have be:=ag (bq m.o aP.o aa);have bM:=ag (bq m.o I.o aa);have aB:=ag (bq m.o a7.o aa);have bd:=ag (aR bc.o m.o (fun i e=>by have u:g=i:=(by injection e);omega));have az:Hid (ax (fun k=>(k=g\/k=tb)\/(m2<=k/\k<hi)\/(m1<=k/\k<m2)) w O):=(aw.o.mono fun k h=>aa).trans (m.o.mono fun k h=>aa);have b6:=a.size;clear b a ac;go_wp2;go_ret;have bz:ax (fun k=>(m3<=k/\k<m4)\/(m4<=k/\k<hi)\/(m1<=k/\k<m2)) w6 O:=(s.o.mono fun k h=>.inl h).trans ((n.o.mono fun k h=>.inr (.inl h)).trans (m.o.mono fun k h=>.inr (.inr h)));have bw:ax (fun k=>(m4<=k/\k<hi)\/(m1<=k/\k<m2)) f O:=(n.o.mono fun k h=>.inl h).trans (m.o.mono fun k h=>.inr h);have br:=az.o.size;have bn:=a3.o;subst bn;refine⟨rfl,w2.heap.size,_,⟨be.o,bd.o,fun k e=>?_,⟨bs,bt⟩,a2.o,aX.o.kept bz (fun k _ _ h=>aa),a0.o.kept bw (fun k _ _ h=>aa),a1.o.kept m.o (fun k _ _ h=>aa),H.o.ord,?_,?_,(fun h=>by cases h),⟨fun k z A=>.inl (H.o.fin.1 k z A),.inr ?_,?_⟩,OM H.o.und.1 _,fun q bp=>H.o.und.2 q (bG.1 bp).1⟩,az.o.mono fun k hk=>H.o.fin.1 k aa aa⟩
 .have u:g=k:=by injection e
  omega
 .have N:=aB.o;exact⟨aD N,aD N,aD N,aD N⟩
 .exact⟨aa,.inr aa⟩
 .have:=(aY.1 aB.o).1;omega
 .rintro k (hk|hk)
  .exact bX (H.o.fin.2.2 k hk) br
  .exact hk.2
end
theorem HY:eY 148:=bO func148 aM rfl
theorem PS:eY 147:=bO func147 aM rfl
theorem RN {W:World} {V tb:Nat} {a:Option Addr} {c:Nat} {l:List Pt} {v1 u x y z sv:Value} (n:W.cell? (af V 0)=some (aj tb)) (h:W.heap[tb]? =some (Obj.cells #[.slice a l.length c,v1,u,x,y,z,sv] 120 (0,0))) (s:bY dw 3 W a l) (D:l.length<=20000) (t:Le l) (hu:lK l=true):
  aK 147 #[aj V] W fun e w'=>e=.returned (.tuple #[])/\∃v d,Below W.heap.size W d/\d.ownsRow W.heap.size 29 3 v (bP l).length ((bP l).flatMap dw)/\w'=d.setCell (af tb 6) v:=by
 have k:=ag (fun W' (q:Below W.heap.size W W')=>TU a l l.length c W' rfl (s.below q) aa t hu);have f:=ag h;have B:=ah n;have C:=ah (w:=W) (ad:=(af tb 0)) (v:=.slice a l.length c) (aD h);go_enter func147,ntmps147
 go_wp2_with fail
 refine au (fun W'=>∃p:aS W,W'=p.W) [9,10,11] [(0,true),(1,true),(2,false),(3,false),(4,true)] ⟨⟨_,(aI _ _).drew⟩,rfl⟩ 7 ?_;refine aC 5 rfl fun K m=>?_;refine aT HY rfl _ _ rfl (vals:=#[.slice a l.length c]) rfl (k.o _ (aI _ _).drew) ?_;rintro e w2 ⟨v,rfl,i,r⟩;obtain⟨E,F,rfl,-,-,-⟩:=bY.aJ bg ai i;have b:Below W.heap.size W w2:=(aI _ _).drew.trans r;refine⟨_,rfl,?_⟩;refine m _ _ (fun _ _=>⟨⟨_,b⟩,rfl⟩) ?_;have HO:=ag i;have j:=ag b;refine bf [(6,false),(7,false),(8,false)] ⟨⟨_,b⟩,rfl⟩ rfl ?_;refine aG [9,10,11] ?_;have g:=(aP b f.o).trans f.o;have A:w2.cell? (af tb 6)=some sv:=aD g;have f2:w2.frozen? (af tb 6)=false:=aD g
 go_wp2_with fail
 go_end0
 exact⟨rfl,_,w2,j.o,HO.o,rfl⟩
section
variable {w:World} {F:Nat->Prop} {tb n0:Nat} {l:List Pt} {lo m0 m1 m2 m3 m4 hi bx cn hp lw ob:Nat} {tl sv:Value} {dn:Bool}
theorem mf.more {d:Nat->Prop} (h:mf w F tb n0 l lo m0 m1 m2 m3 m4 hi bx cn hp lw ob tl sv dn) (f:∀k,F k->d k) (i:∀k,d k->k<w.heap.size):mf w d tb n0 l lo m0 m1 m2 m3 m4 hi bx cn hp lw ob tl sv dn:=
 ⟨h.blk,h.row,h.Sw,h.TV,h.box,h.Uy,h.Uz,h.low,h.ord,h.UA,h.VZ,fun hd=>by
  have⟨a,c,e,j,m,g⟩:=h.Ga hd;exact⟨a,c,e,j,m,fun x e=>⟨(g x e).1,(g x e).2.1,f _ (g x e).2.2⟩⟩,⟨fun k a b=>f k (h.fin.1 k a b),f _ h.fin.2.1,i⟩,h.und⟩
theorem TZ (h:mf w F tb n0 l lo m0 m1 m2 m3 m4 hi bx cn hp lw ob tl sv dn):
  aK 63 #[aj tb] w fun e w'=>∃a c,e=.returned (.slice a (bP l).length c)/\(bP l).length<=c/\bY dw 3 w' a (bP l)/\
   ∃aL,mf w' (fun k=>F k\/w.heap.size<=k/\k<w'.heap.size) tb n0 l lo m0 m1 m2 m3 m4 hi bx cn hp lw ob tl aL true/\ax F w w':=by
 have aV:=h.top;have av:l.length<=20000:=bA h.box.Fw.1 h.box.Fw.2;have⟨aA,aC⟩:=h.TV;have⟨aW,aX,aY,aZ,a0⟩:=h.ord;have N:=h.VZ;have H:=ag h;have n:ax (fun _=>False) w (w.alloc (.cells #[aj tb] 106)):=(ax.refl _ w).alloc _;have I:=bW w (.cells #[aj tb] 106);have a3:(w.alloc (.cells #[aj tb] 106)).heap.size=w.heap.size+1:=ay;have m:=ag (bq n h.blk (fun h=>h));have y:=ag n;have U:=ag I;have aH:(w.alloc (.cells #[aj tb] 106)).cell? (af tb 5)=some (aj ob):=aD m.o;have aU:=h.fin.2.2 _ h.fin.2.1;have d:=ag ((h.kept n (fun _ _ h=>h)).UA);have z:=ag (aR h.row n (fun _ _ h=>h));have T:=ag (h.kept n (fun _ _ h=>h));cases dn with
 |true=>
  obtain⟨a,c,rfl,au,aw,M⟩:=h.Ga rfl;have W:=ag (aw.below ((aI _ w).alloc (aB _) (.cells #[aj tb] 106)));have a1:(w.alloc (.cells #[aj tb] 106)).cell? (af tb 6)=some (.slice a (bP l).length c):=aD m.o;have P:=ag (DN (af ob 0) (.func (.func 147) #[] #[aj w.heap.size]) _ d.o.c0);have a2:(w.alloc (.cells #[aj tb] 106)).cell? (af w.heap.size 0)=some (aj tb):=by rw[eF _ _ _ _ rfl];rfl
  go_enter func63,ntmps63
  go_wp2_with fail
  generalize w.alloc (.cells #[aj tb] 106)=w1 at*;refine P.o.mono ?_;rintro e w2 ⟨rfl,rfl⟩;go_wp2;go_ret;refine⟨a,c,rfl,au,W.o,.slice a (bP l).length c,?_,y.o.mono fun _ h=>h.elim⟩;exact T.o.more (by intro k hk;exact .inl hk) (by rintro k (hk|hk);exact bX (H.o.fin.2.2 k hk) y.o.size;exact hk.2)
 |false=>
  have aE:lK l=true:=by unfold lK;exact decide_eq_true h.und.1
  obtain⟨aM,tc,rfl,-,-,aS⟩:=bY.aJ bg ai z.o;have A:ax (fun k=>k=ob) (w.alloc (.cells #[aj tb] 106)) ((w.alloc (.cells #[aj tb] 106)).setCell (af ob 1) (.int .i32 1)):=(ax.refl _ _).set _ (.inl rfl);have aT:ob≠tb:=N.1;have am:=bq A m.o aa;have ap:=bq A I aa;have ad:=aR z.o A (fun f e=>by have p:=h.Sw f e;have s:=(h.row.lt f e).1;omega);obtain⟨a4,a5,B,-,-,ar⟩:=bY.aJ bg ai ad;injection B with B _ aq;subst B aq;have S:=RN (V:=w.heap.size) (tb:=tb) (dV ap) am ar av h.und.2 aE;have L:ob<(w.alloc (.cells #[aj tb] 106)).heap.size:=aa;have Q:=ag (zx PS (R:=fun C=>∃v b,Below ((w.alloc (.cells #[aj tb] 106)).setCell (af ob 1) (.int .i32 1)).heap.size ((w.alloc (.cells #[aj tb] 106)).setCell (af ob 1) (.int .i32 1)) b/\b.ownsRow ((w.alloc (.cells #[aj tb] 106)).setCell (af ob 1) (.int .i32 1)).heap.size 29 3 v (bP l).length ((bP l).flatMap dw)/\C=b.setCell (af tb 6) v) ob 0 (aj w.heap.size) _ d.o.c0 d.o.c1 d.o.f0 d.o.f1 (by
   refine S.mono ?_;rintro e C ⟨rfl,v,b,q,i,rfl⟩;have t:(b.setCell (af tb 6) v).heap[ob]? =((w.alloc (.cells #[aj tb] 106)).setCell (af ob 1) (.int .i32 1)).heap[ob]? :=(aF (by simp only;omega)).trans (q.block ob (aQ L));refine⟨rfl,⟨v,b,q,i,rfl⟩,(dD (a:=(af ob 0)) t).trans ?_,(dD (a:=(af ob 1)) t).trans ?_,(pq (a:=(af ob 0)) t).trans ?_,(pq (a:=(af ob 1)) t).trans ?_⟩
   .exact(xN _ (af ob 1) (af ob 0) _ ay).trans d.o.c0
   .simp[Am,d.o.c1]
   .simp[d.o.f0]
   .simp[d.o.f1]))
  have aH:(w.alloc (.cells #[aj tb] 106)).cell? (af tb 5)=some (aj ob):=aD m.o;go_enter func63,ntmps63
  go_wp2_with fail
  generalize(w.alloc (.cells #[aj tb] 106))=w1 at*;refine Q.o.mono ?_;rintro e w6 ⟨rfl,C,⟨v,b,q,i,rfl⟩,rfl⟩;rw[show(w1.setCell (af ob 1) (.int .i32 1)).heap.size=w1.heap.size by simp]at i;have r:ax (fun k=>k=ob) w1 b:=((ax.refl (fun k=>k=ob) w1).set (a:=(af ob 1)) (.int .i32 1) (.inl rfl)).below q;have ae:=bq r m.o aa;have an:=bq r U.o aa;have ac:=aR z.o r (fun f e=>by have p:=H.o.Sw f e;have s:=(H.o.row.lt f e).1;omega);have ah:(b.setCell (af tb 6) v).heap[tb]? =some (Obj.cells #[.slice aM l.length tc,aj bx,aj cn,aj hp,aj lw,aj ob,v] 120 (0,0)):=by
   rw[di b tb 6 _ _ _ ae];rfl
  have G:ax (fun k=>k=ob\/k=tb) w1 (b.setCell (af tb 6) v):=(r.mono fun k h=>.inl h).set _ (.inl (.inr rfl));have Z:ax (fun k=>k=ob\/k=tb) w ((((b.setCell (af tb 6) v).drew).setCell (af ob 0) (.int .u32 1)).setCell (af ob (0+1)) (.int .i32 0)):=(((((y.o.mono fun _ h=>h.elim).trans G).drew).set (a:=(af ob 0)) _ (.inl (.inl rfl))).set (a:=(af ob (0+1))) _ (.inl (.inl rfl)));have j:ax (fun k=>k=ob) (b.setCell (af tb 6) v) ((((b.setCell (af tb 6) v).drew).setCell (af ob 0) (.int .u32 1)).setCell (af ob (0+1)) (.int .i32 0)):=((((ax.refl (fun k=>k=ob) _).drew).set (a:=(af ob 0)) _ (.inl rfl)).set (a:=(af ob (0+1))) _ (.inl rfl));have al:=bq j ah aa;have ao:=bq j ((aF (by simp only;omega)).trans an) aa;have u:(b.setCell (af tb 6) v).heap[ob]? =(w1.setCell (af ob 1) (.int .i32 1)).heap[ob]? :=(aF (by simp only;omega)).trans (q.block ob (aQ L));have aO:(b.setCell (af tb 6) v).cell? (af ob 0)=some (ak 0):=((dD (a:=(af ob 0)) u).trans ((xN _ (af ob 1) (af ob 0) _ ay).trans d.o.c0));have aP:(b.setCell (af tb 6) v).cell? (af ob 1)=some (.int .i32 1):=((dD (a:=(af ob 1)) u).trans (by simp[Am,d.o.c1]));have aN:(b.setCell (af tb 6) v).frozen? (af ob 0)=false:=((pq (a:=(af ob 0)) u).trans (by simp[d.o.f0]));have y1:(b.setCell (af tb 6) v).frozen? (af ob 1)=false:=((pq (a:=(af ob 1)) u).trans (by simp[d.o.f1]));have ab:Hid (Sv ((((b.setCell (af tb 6) v).drew).setCell (af ob 0) (.int .u32 1)).setCell (af ob (0+1)) (.int .i32 0)) ob true):=by
   refine⟨?_,?_,?_,?_⟩
   .refine(xN _ (af ob (0+1)) (af ob 0) _ ay).trans ?_;simp[Am,aO]
   .have:(((b.setCell (af tb 6) v).drew).setCell (af ob 0) (.int .u32 1)).cell? (af ob 1)=some (.int .i32 1):=(xN _ (af ob 0) (af ob 1) _ ay).trans (aQ aP);simp[Am,this]
   .simpa using aN
   .simpa using y1
  have D:Hid ((((b.setCell (af tb 6) v).drew).setCell (af ob 0) (.int .u32 1)).setCell (af ob (0+1)) (.int .i32 0)|>.ownsRow w1.heap.size 29 3 v (bP l).length ((bP l).flatMap dw)):=aR (aR i ((ax.refl (fun k=>k=tb) b).set (a:=(af tb 6)) v (.inl rfl)) (fun f e=>by have:=(i.lt f e).1;omega)) j (fun f e=>by have:=(i.lt f e).1;omega);have E:=ag al;have Y:=ag ao;have g:=ag Z;have X:=ag (aR ac ((G.mono (fun k h=>h)).trans (j.mono fun k h=>.inl h)|>fun h=>(((ax.refl (fun k=>k=ob\/k=tb) b).set (a:=(af tb 6)) v (.inl (.inr rfl))).trans (j.mono fun k h=>.inl h))) (fun f e=>by have p:=H.o.Sw f e;have s:=(H.o.row.lt f e).1;omega));generalize(((b.setCell (af tb 6) v).drew).setCell (af ob 0) (.int .u32 1)).setCell (af ob (0+1)) (.int .i32 0)=O at*;have u0:O.cell? (af w.heap.size 0)=some (aj tb):=aD Y.o;have u1:O.cell? (af tb 6)=some v:=aD E.o;go_wp2;go_ret;obtain⟨a,c,rfl,-,K,J⟩:=bY.aJ bg ai D.o;have az:=g.o.size;have aG:=D.o.lt;refine⟨a,c,rfl,K,J,_,⟨E.o,X.o,H.o.Sw,⟨aA,aC⟩,H.o.box.kept g.o aa,H.o.Uy.kept g.o aa,H.o.Uz.kept g.o aa,H.o.low.kept g.o aa,H.o.ord,ab.o,N,fun _=>⟨a,c,rfl,K,J,fun x M=>?_⟩,⟨fun k p s=>.inl (H.o.fin.1 k p s),.inl H.o.fin.2.1,?_⟩,H.o.und⟩,g.o.mono ?_⟩
  .have p:=aG x.block (by rw[M];rfl);exact⟨aa,aa,.inr aa⟩
  .rintro k (hk|hk)
   .exact bX (H.o.fin.2.2 k hk) az
   .exact hk.2
  .rintro k (rfl|rfl)
   .exact H.o.fin.2.1
   .exact H.o.tF
end
end
section
open Go.RowKit Go.Maps
attribute [local irreducible] wpQuiet
def T9 (W:World) (base Cb:Nat) (wk:Int) (l:List eX) (e:Ending) (w':World):Prop:=
 ∃(CW:Value) (qV:List Ae) (KI:Int),e=.returned (ae l.length)/\mi w' base Cb CW qV l.length KI/\qW w' qV/\qV.map (·.2.1)=setC (Lib.bitLen l.length) l/\
  (CW.ownBlock=none\/∃b,CW.ownBlock=some b/\W.heap.size<=b)/\ax (fun k=>k=Cb) W w'/\Nw W.heap.size [] qV/\KI=wrap64 (wk+(l.length:Int))
theorem Ua {W:World} {base Cb:Nat} {cv:Value} {ch:List Ae} {N wk:Int} (h:mi W base Cb cv ch N wk) (cl:base<=W.heap.size) (a:Option Addr) (l:List eX) (c:Nat) (bb:L6 W a l) (bQ:l.length<=c) (aE:l.length<=10000):
  aK 212 #[aj Cb,.slice a l.length c] W (T9 W base Cb wk l):=by
 have aS:=ag (tK h);have H:=ag h;have bJ:=eO aE ai;have bK:Lib.bitLen 10000=14:=ai;rw[bK]at bJ;have aZ:=ag bb;have a0:l.length<2^Lib.bitLen l.length:=by
  by_cases a7:l.length=0
  .rw[a7];decide
  .exact(bz _ aa a7).2.2
 have bp:=ag a0;clear a0;clear h bb;go_enter func212,ntmps212
 go_wp2_with fail
 refine aS.o.mono ?_;rintro e w2 ⟨rfl,B⟩;have C:=ag (H.o.below B);obtain⟨bC,bD,bE,bF⟩:=C.o.cell;have f1:=C.o.frozen 1;have Z:Hid (mi (w2.setCell (af Cb 1) (aL)) base Cb (aL) [] N wk):=ik.LY (ch:=ch) C.o.blk C.o.hb C.o.ds (dx _ _ _ _) (by simp[Value.ownBlock]);obtain⟨d0,d1,d2,d3⟩:=Z.o.cell;have f2:=Z.o.frozen 2;have a3:Hid (mi ((w2.setCell (af Cb 1) (aL)).setCell (af Cb 2) (.int .i64 l.length)) base Cb (aL) [] l.length wk):=Z.o.Bu _;have a2:Hid (ax (fun k=>k=Cb) W ((w2.setCell (af Cb 1) (aL)).setCell (af Cb 2) (.int .i64 l.length))):=(((ax.refl (fun k=>k=Cb) W).below B).set (a:=(af Cb 1)) _ (.inl rfl)).set (a:=(af Cb 2)) _ (.inl rfl);have cj:=H.o.lt;clear aS
 go_upto_block 0 with fail
 go_cut []from 19 to 33 (fun w=>∃v,Hid (mi w base Cb v (List.replicate (Lib.bitLen l.length) fK) l.length wk)/\Hid (v.ownBlock=none\/∃b,v.ownBlock=some b/\W.heap.size<=b)/\Hid (ax (fun k=>k=Cb) W w))
 case first=>
  go_wp2_with fail
  generalize((w2.setCell (af Cb 1) (aL)).setCell (af Cb 2) (.int .i64 l.length))=w3 at*
  go_loopw [5] (fun aM wr=>∃(k m:Nat) (v:Value),aM=.int .i64 m/\m<=10000/\Hid (k+Lib.bitLen m=Lib.bitLen l.length)/\Hid (mi wr base Cb v (List.replicate k fK) l.length wk)/\Hid (v.ownBlock=none\/∃b,v.ownBlock=some b/\W.heap.size<=b)/\Hid (ax (fun k=>k=Cb) W wr)) (fun aM _=>(intOf aM).toNat)
  case atStart=>exact⟨0,l.length,_,rfl,aE,(by show _=_;omega),a3,.inl rfl,a2⟩
  case round=>
   obtain⟨k,m,v,rfl,bW,aY,f,E,s⟩:=hrel;by_cases zS:m=0
   .subst zS;obtain rfl:k=Lib.bitLen l.length:=aY.o
    go_wp2_with fail
    go_meet;exact⟨v,f,E,s⟩
   .have aW:Hid (k+1+Lib.bitLen (m/2)=Lib.bitLen l.length):=by
     have:=Lib.bitLen_half m zS aa;have:=aY.o;show _=_;omega
    have ah:k+1<=14:=by have:=aW.o;omega
    have J:=f.o.row;rw[iA]at J;have b0:=f.o.ne;have cx:(0:Int)<(m:Int):=aa;obtain⟨aw,ay,az,aC⟩:=f.o.cell;have bt:Hid (∀w6,wr.grownBy w6 v.ownBlock->w6.heap[Cb]? =some (Obj.cells #[.bool true,v,ae l.length,ae wk] 278 (0,0))):=fun w6 ac=>(ac.block Cb f.o.lt (fun e=>f.o.ne e.symm)).trans f.o.blk
    go_wp2_with (at_builtin;refine bZ Sm base J [aL] rfl (by simp[Value.oneCell']) rfl _ _ rfl rfl _ rfl dJ aa (by have:=s.o.size;omega) ?_;intro cE w6 bd ac ba;obtain⟨a6,j,rfl,cp,cq,cr,cs⟩:=aV bd aa;have aI:=bt.o w6 ac;have cC:w6.cell? (af Cb 1)=some v:=(aD aI);have cD:w6.frozen? (af Cb 1)=false:=(aD aI))
    have ck:=f.o.lt;have b1:w6.ownsRow base 213 1 (aA a6 (k+1) j) (List.replicate (k+1) (fK:Ae)).length ((List.replicate (k+1) (fK:Ae)).map dW):=by
     rw[iA,DK,bM];exact bd
    have b2:Value.ownBlock (aA a6 (k+1) j)≠some Cb:=by
     rcases ba with h9|h9
     .rw[h9];exact b0
     .rw[h9];simp;omega
    go_roundw
    case rel=>
     refine⟨k+1,m/2,_,by go_num,aa,aW,ik.LY (ch:=List.replicate k fK) aI f.o.hb f.o.ds b1 b2,?_,(s.o.grown ac ?_).set (a:=(af Cb 1)) _ (.inl rfl)⟩
     .rcases ba with h9|h9
      .rw[h9];exact E
      .exact .inr ⟨_,h9,by have:=s.o.size;simp;omega⟩
     .intro b i;rcases E.o with h9|⟨b4,h9,Q⟩
      .rw[h9]at i;cases i
      .rw[h9]at i;injection i with i;subst i;exact .inr Q
    case measure=>exact eT
 case rest=>
  obtain⟨v,f,E,s⟩:=hcut;obtain⟨w3,bI⟩:∃w3:World,w3=wc:=⟨_,rfl⟩;subst bI;clear Z a3 a2 bC bD bE bF f1 f2 d0 d1 d2 d3 C B;generalize bL:Lib.bitLen l.length=K at*;obtain⟨x,aF⟩:∃x,x=v.ownBlock:=⟨_,rfl⟩;have a1:Hid (∀W',ax (fun k=>k=Cb\/x=some k) w3 W'->bY lF 4 W' a l):=fun W' R=>((aZ.o.kept (H.o.fq rfl (s.o.mono (fun k h=>.inl h)))).kept (f.o.fq aF R)).NH;have au:=ag aF;clear aF;have ao:=f.o;have bu:Hid (qW w3 (List.replicate K fK)):=DL _ _;have bq:Hid ((List.replicate K (fK:Ae)).map (·.2.1)=List.replicate K []++[]):=by show _=_;simp
  have bo:Hid (l.length=l.length%2^K):=(Ez bp.o).symm;obtain⟨av,P,bh,-,bR,-⟩:=Rd.aJ (enc:=dW) ao.row;rw[iA]at bh bR;subst bh;obtain⟨b7,b8,b9,ca⟩:=ao.cell;clear ao
  go_upto_block 2 with fail
  go_cut []from 35 to 64 (fun w=>∃ch1,Hid (mi w base Cb (.slice av K P) ch1 l.length wk)/\Hid (Nw W.heap.size [] ch1)/\Hid (qW w ch1)/\Hid (ch1.map (·.2.1)=setC K l)/\Hid (ax (fun k=>k=Cb\/x=some k) w3 w))
  case first=>
   go_wp2_with fail
   go_loopw [7,6] (fun aH b3 wr=>∃(m:Nat) (ad:Option Addr) (r:List eX) (y:Nat) (ch1:List Ae) (T:List (List eX)),aH=.int .i64 ((m:Int)-1)/\b3=.slice ad r.length y/\m<=K/\r.length<=y/\Hid (r.length=l.length%2^m)/\Hid (∀W',ax (fun k=>k=Cb\/x=some k) w3 W'->bY lF 4 W' ad r)/\
    Hid (mi wr base Cb (.slice av K P) ch1 l.length wk)/\Hid (Nw W.heap.size [] ch1)/\Hid (qW wr ch1)/\Hid (ch1.map (·.2.1)=List.replicate m []++T)/\Hid (setC K l=setC m r++T)/\Hid (ax (fun k=>k=Cb\/x=some k) w3 wr)) (fun aH _ _=>(intOf aH+1).toNat)
   case atStart=>exact⟨K,a,l,c,_,[],by go_num,rfl,aB _,bQ,bo,a1,f,Nw.Ta,bu,bq,(by show _=_;simp),ax.refl _ _⟩
   case round=>
    obtain⟨m,ad,r,y,ch1,T,rfl,rfl,bW,bg,X,M,q,L,D,A,Y,t⟩:=hrel;rcases qO m with zS|zS
    .subst zS;have cm:¬(0:Int)<=((0:Nat):Int)-1:=aa
     go_wp2_with fail
     go_meet;exact⟨ch1,q,L,D,(by have d:=A.o;have G:=Y.o;show _=_;rw[d,G];rfl),t⟩
    .obtain⟨k,rfl⟩:∃k,m=k+1:=⟨m-1,aa⟩;have ah:k<14:=aa;have ak:=GN l.length k;have cw:r.length<=l.length:=by rw[X.o];exact Nat.mod_le _ _
     have bA:=OG k ah;have O:=Sr l.length k ah aE;have hp:=qB k ah;have bU:(((k+1:Nat):Int)-1)=(k:Int):=aa;have ct:(0:Int)<=(k:Int):=aa;have aG:ch1.length=K:=by
      have d:=congrArg List.length A.o;have G:=congrArg List.length Y.o;rw[eG,bS,eG]at G;simp at d;omega
     rw[bU];by_cases i:l.length.testBit k=true
     .rw[i]at O;simp only[gF]at O;have I:=ak.1 i;rw[<-X.o]at I;have al:2^k<=r.length:=aa;have ar:Hid (setC K l=setC k (r.drop (2^k))++r.take (2^k)::T):=by
       have d:=Y.o;rw[setC,aO al,ed]at d;exact d
      have V:Hid (∀hd:Ae,hd.2.1=r.take (2^k)->(ch1.set k hd).map (·.2.1)=List.replicate k []++r.take (2^k)::T):=fun hd h9=>by
       rw[kP,A.o,h9,Gl]
      have aq:Hid ((r.drop (2^k)).length=l.length%2^k):=by
       show _=_;rw[lM];omega
      clear ak i I;generalize S:2^k=p at*;have ap:=ag S;clear S;obtain⟨b,off,bH,bP,-⟩:=(M.o wr t.o).get aa;subst bH;obtain⟨g,b5,ab,cn,co,-,-⟩:=aV q.o.row aa;rw[aG]at ab;injection ab with ab _ bG;subst ab bG;obtain⟨aw,ay,az,aC⟩:=q.o.cell;have U:(r.take p).length=p:=by rw[eH];omega
      have an:=ag (Bw (some (af b off)) (r.take p) p y wr.drew U ((M.o wr.drew t.o.drew).take p) aa);have cz:(0:Int)<=(p:Int)/\(p:Int)<=(r.length:Int):=aa;have cy:(p:Int)<=(y:Int):=aa;have be:((p:Int)!=0)=true:=by simp only[bne_iff_ne,ne_eq];omega
      go_upto_region 14 with fail
      simp only[bA,O,be]
      go_cut []from 52 to 61 (fun w=>∃F,Hid (mi w base Cb (aA g K P) F l.length wk)/\Hid (Nw W.heap.size [] F)/\Hid (qW w F)/\Hid (F.map (·.2.1)=List.replicate k []++r.take p::T)/\Hid (ax (fun k=>k=Cb\/x=some k) w3 w))
      case first=>
       have bi:aK 208 #[.slice (some (af b off)) p y] wr.drew fun e w6=>∃u j z,e=.returned (.slice u p j)/\Hid (p<=j)/\Hid (∀a,u=some a->W.heap.size<=a.block)/\Hid (L6 w6 u (r.take p))/\Hid (mi w6 base Cb (aA g K P) ch1 l.length wk)/\Hid (Below wr.drew.heap.size wr.drew w6)/\w6.cell? (af Cb 1)=some (aA g K P)/\w6.cell? (af g k)=some z/\w6.frozen? (af g k)=false:=by
        refine an.o.mono ?_;rintro e w6 ⟨cF,rfl,bc,a9⟩;obtain⟨u,j,rfl,cg,a8,bN⟩:=L6.aJ bc;have am:=q.o.drew.below a9;obtain⟨cc,a5,cd,ce⟩:=am.cell;have J:=am.row;rw[aG]at J;have aR:=J.cellAt k aa;have a4:=J.frozenAt k;rw[cB (show k<(ch1.map dW).length by simp;omega)]at aR;rw[U]at a8;exact⟨u,j,_,by rw[U],a8,(fun a bO=>by have d:=(bc.lt a.block (by rw[bO];rfl)).1;have G:=t.o.size;have cf:=s.o.size;simp at d;omega),bN,am,a9,a5,aR,a4⟩
       clear an;have cu:(k:Int)<(K:Int):=aa
       go_region_with (go_at_call 208;with_reducible refine bi.mono ?_;rintro e w6 ⟨u,j,z,rfl,bm,bj,bx,aU,aT,a5,aR,a4⟩)
       all_goals go_wp2_with fail
       all_goals go_meet
       all_goals
        have bV:Value.slice u p j=dW (u,r.take p,j):=by unfold dW;simp only;rw[U]
        rw[bV];have bT:x=some g:=au.o;exact⟨ch1.set k (u,r.take p,j),aU.o.LX aG.symm k _,L.o.set bj.o,Gm (D.o.kept (W':=w6) fun b b6 fr i=>aP (W:=wr.drew) aT.o i) (aU.o.fq (W':=w6.setCell (af g k) (dW (u,r.take p,j))) rfl ((ax.refl _ w6).set (a:=(af g k)) _ (.inl (.inr rfl)))) bx.o (by show(r.take p).length<=j;rw[U];exact bm.o),V.o _ rfl,(((t.o.drew).below aT.o).set (a:=(af g k)) _ (.inl (.inr bT)))⟩
      case rest=>
       obtain⟨F,bk,bs,bv,br,aX⟩:=hcut;clear an q D A V t aw ay az aC bP be X
       go_wp2_with (refine vN Gp (M.o _ aX.o) bg p r.length al (aB _) rfl _ _ _ rfl rfl rfl rfl ?_;intro bB bf;simp only[jO]at bf)
       go_roundw
       case rel=>exact⟨k,bB,r.drop p,y-p,F,r.take p::T,rfl,(by rw[lM]),aa,(by rw[lM];omega),(by rw[ap.o];exact aq),(fun W' R=>bf W' (M.o W' R)),bk,bs,bv,br,ar,aX⟩
       case measure=>simp[intOf]
     .have B:l.length.testBit k=false:=aQ i;rw[B]at O;simp only[jC,qP]at O;have I:=ak.2 B;rw[<-X.o]at I;have al:¬2^k<=r.length:=by have:=p9 l.length (pY (n:=k) (show 0<2 by decide));omega
      have ar:Hid (setC K l=setC k r++[]::T):=by
       have d:=Y.o;rw[setC,aN al,ed]at d;exact d
      have V:Hid (ch1.map (·.2.1)=List.replicate k []++[]::T):=by
       have d:=A.o;rw[rA,ed]at d;exact d
      have aq:=ag I;clear ak i B I;generalize S:2^k=p at*;have ap:=ag S;clear S
      go_wp2_with fail
      go_roundw
      case rel=>exact⟨k,ad,r,y,ch1,[]::T,rfl,rfl,aa,bg,by rw[ap.o];exact aq,M,q,L,D,V,ar,t⟩
      case measure=>simp[intOf]
  case rest=>
   obtain⟨ch1,q,L,D,A,t⟩:=hcut;obtain⟨aw,ay,az,aC⟩:=q.o.cell;have cb:=q.o.frozen 3;have bl:=ag (q.o.QJ (wrap64 (wk+(l.length:Int))));have bw:Hid (qW (wc.setCell (af Cb 3) (.int .i64 (wrap64 (wk+(l.length:Int))))) ch1):=D.o.kept (q.o.fq rfl ((ax.refl _ wc).set (a:=(af Cb 3)) _ (.inl (.inl rfl))));have bn:Hid (ax (fun k=>k=Cb) W (wc.setCell (af Cb 3) (.int .i64 (wrap64 (wk+(l.length:Int)))))):=by
    have cA:=s.o.size;have d:ax (fun k=>k=Cb\/W.heap.size<=k) W wc:=(s.o.mono (fun k h=>.inl h)).trans (t.o.mono (fun k h=>h.imp id (fun h9=>by
     rcases E.o with Q|⟨b,Q,ci⟩
     .rw[au.o,Q]at h9;cases h9
     .rw[au.o,Q]at h9;injection h9 with h9;omega)))
    have G:ax (fun k=>k=Cb) W wc:=⟨d.os,d.tape,d.output,d.size,fun k R bX=>d.block k R (fun h9=>by rcases h9 with h9|h9;exact bX h9;omega)⟩;exact G.set (a:=(af Cb 3)) _ (.inl rfl)
   clear s t a1 f aZ;go_wp2;go_ret;exact⟨_,ch1,_,rfl,bl.o,bw.o,by rw[bL];exact A.o,E.o,bn.o,L.o,rfl⟩
end
section
open Go.RowKit Go.Sort Go.Shelf Go.Lib Go.Maps
open Go.ChangeMaps (setBlock)
def Bk (w:World) (F:Nat->Prop) (tb n0:Nat) (l:List Pt):Prop:=∃lo m0 m1 m2 m3 m4 hi bx cn hp lw ob tl sv dn,mf w F tb n0 l lo m0 m1 m2 m3 m4 hi bx cn hp lw ob tl sv dn
section
variable {w w':World} {F S:Nat->Prop} {tb n0:Nat} {l:List Pt}
theorem Bk.kept (h:Bk w F tb n0 l) (K:ax S w w') (hS:∀k,F k->¬S k):Bk w' F tb n0 l:=by
 have⟨lo,m0,m1,m2,m3,m4,hi,bx,cn,hp,lw,ob,tl,sv,dn,h⟩:=h;exact⟨lo,m0,m1,m2,m3,m4,hi,bx,cn,hp,lw,ob,tl,sv,dn,h.kept K hS⟩
theorem Bk.below (h:Bk w F tb n0 l) (a:Below w.heap.size w w'):Bk w' F tb n0 l:=h.kept (S:=fun _=>False) ((ax.refl _ _).below a) fun _ _ h=>h
theorem Bk.lt (h:Bk w F tb n0 l):∀k,F k->k<w.heap.size:=by
 have⟨lo,m0,m1,m2,m3,m4,hi,bx,cn,hp,lw,ob,tl,sv,dn,h⟩:=h;exact h.fin.2.2
theorem Ub (a:Option Addr) (c:Nat) (l:List Pt) (w:World) (f:bY dw 3 w a l) (g:l.length<=20000) (i:IA l) (hu:(ids l).Nodup):
  aK 52 #[.slice a l.length c] w fun e w'=>∃tb,e=.returned (aj tb)/\Bk w' (fun k=>w.heap.size<=k/\k<w'.heap.size) tb l.length l/\Below w.heap.size w w':=by
 refine(PQ a c l w f g i (by unfold lK;exact decide_eq_true hu)).mono ?_;rintro e w' ⟨tb,m0,m1,m2,m3,m4,bx,cn,hp,lw,ob,tl,d,h,b⟩;exact⟨tb,d,⟨_,_,_,_,_,_,_,_,_,_,_,_,_,_,_,h⟩,b⟩
theorem U7 (h:Bk w F tb n0 l) (p:Pt) (d:p∈l):
  aK 53 #[aj tb,jc p.1 p.2.1 p.2.2] w fun e w'=>e=.returned (.bool true)/\Bk w' (fun k=>F k\/w.heap.size<=k/\k<w'.heap.size) tb n0 (l.filter fun q=>decide (q≠p))/\ax F w w':=by
 have⟨lo,m0,m1,m2,m3,m4,hi,bx,cn,hp,lw,ob,tl,sv,dn,h⟩:=h;refine(RL h p.1 p.2.1 p.2.2 d).mono ?_;rintro e w' ⟨c,f,g,a,b⟩;exact⟨c,⟨_,_,_,_,_,_,_,_,_,_,_,_,_,_,_,a⟩,b⟩
theorem V3 (h:Bk w F tb n0 l):
  aK 63 #[aj tb] w fun e w'=>∃a c,e=.returned (.slice a (bP l).length c)/\(bP l).length<=c/\bY dw 3 w' a (bP l)/\Bk w' (fun k=>F k\/w.heap.size<=k/\k<w'.heap.size) tb n0 l/\ax F w w':=by
 have⟨lo,m0,m1,m2,m3,m4,hi,bx,cn,hp,lw,ob,tl,sv,dn,h⟩:=h;refine(TZ h).mono ?_;rintro e w' ⟨a,c,g,f,i,j,b,d⟩;exact⟨a,c,g,f,i,⟨_,_,_,_,_,_,_,_,_,_,_,_,_,_,_,b⟩,d⟩
end
def vTr:Option Nat->Value
 |none=>.pointer none
 |some b=>aj b
def lJ (w:World) (mb:Nat) (A:List eX):Prop:=∃D,w.ownsMap prog 29 (plainElem prog 3) mb A.length D/\sw D A
theorem lJ.fit {w:World} {mb n:Nat} {A:List eX} {D:DataW Unit} (h:w.ownsMap prog 29 (plainElem prog 3) mb n D) (a:sw D A):lJ w mb A:=by
 refine⟨D,?_,a⟩;rw[<-a.2.1];obtain⟨c,b,d,F,e,rfl⟩:=h;exact⟨c,b,d,F,by simp[Maps.size,length_sorted],rfl⟩
theorem lJ.lt {w:World} {mb:Nat} {A:List eX} (h:lJ w mb A):mb<w.heap.size:=by
 obtain⟨D,⟨c,b,a,-⟩,-⟩:=h;exact(aY.1 a).1
theorem lJ.same {w w':World} {mb:Nat} {A:List eX} (h:lJ w mb A) (e:w'.heap[mb]? =w.heap[mb]?):lJ w' mb A:=by
 obtain⟨D,⟨b,a,d,r⟩,c⟩:=h;exact⟨D,⟨b,a,e.trans d,r⟩,c⟩
theorem lJ.look {w:World} {mb:Nat} {A:List eX} (h:lJ w mb A) {p:Pt} (hp:FX p) (s:(A.map (·.1)).Nodup):
  (∃c∈A,c.1=p/\(Instr.lookup 188 (.map (some mb)) (jc p.1 p.2.1 p.2.2) true).run prog w=.ok (.tuple #[ae c.2,.bool true]) w)\/
  (p∉A.map (·.1)/\(Instr.lookup 188 (.map (some mb)) (jc p.1 p.2.1 p.2.2) true).run prog w=.ok (.tuple #[ae 0,.bool false]) w):=by
 have⟨D,n,j⟩:=h;have⟨v,r,d,f⟩:=n.look_ok (Keyed.of_law GA) underlying188 (zeroValue3 w) (uZ underlying3 ai) (yH hp);rw[(j.2.2 p hp).2]at d;rw[(j.2.2 p hp).1]at f;have l:∀x:Int,plainElem (H:=Unit) prog 3 v=some (DataW.lit (.int .i64 x),r)->v=.int .i64 x:=fun x q=>by
  obtain⟨a,rfl,e,t⟩:=plainElem_int_inv underlying3 q;simp at e;rw[e.1]
 cases b:A.find? fun c=>decide (c.1=p)with
 |none=>
  right;rw[b]at f;have m:=List.find?_eq_none.1 b;have i:(A.any fun c=>decide (c.1=p))=false:=Ev.2 m;rw[i,l 0 f]at d;exact⟨fun o=>by
   have⟨c,g,e⟩:=dA.1 o;exact m c g (aQ e),d⟩
 |some c=>
  left;rw[b]at f;have g:=List.mem_of_find?_eq_some b;have k:c.1=p:=by simpa using List.find?_some b
  have i:(A.any fun c=>decide (c.1=p))=true:=List.any_eq_true.2 ⟨c,g,aQ k⟩;rw[i,l c.2 f]at d;exact⟨c,g,k,d⟩
theorem lJ.size {w:World} {mb:Nat} {A:List eX} (h:lJ w mb A):(Builtin.len_ #[188] 3 #[.map (some mb)]).run prog w=.ok (.int .i64 A.length) w:=by
 have⟨D,a,b⟩:=h;rw[a.len underlying188 3,b.2.1]
abbrev zf:Value:=.func (.func 52) #[] #[]
abbrev D5:Value:=.func (.func 53) #[] #[]
structure iY (w:World) (X:Nat->Prop) (Hb Cb mb:Nat) (cv tv av lv:Value) (ch:List Ae) (T:List (Option Nat)) (al:List Bool) (eQ:List Int) (A:List eX) (N wk:Int):Prop where
 blk:w.heap[Hb]? =some (Obj.cells #[zf,D5,aj Cb,tv,av,lv,.map (some mb)] 190 (0,0))
 fJ:mi w 0 Cb cv ch N wk
 rows:qW w ch
 jH:w.ownsRow 0 106 1 tv T.length (T.map vTr)
 dO:w.ownsRow 0 4 1 av al.length (al.map Value.bool)
 nz:w.ownsRow 0 3 1 lv eQ.length (eQ.map (Value.int .i64))
 map:lJ w mb A
 jl:X Hb/\X Cb/\X mb/\(∀k,cv.ownBlock=some k->X k)/\(∀k,tv.ownBlock=some k->X k)/\(∀k,av.ownBlock=some k->X k)/\(∀k,lv.ownBlock=some k->X k)
 Qw:∀h∈ch,h.2.1≠[]->∀a,h.1=some a->X a.block
structure nQ (w:World) (F:Nat->Nat->Prop) (X:Nat->Prop) (CB:List (List eX)) (T:List (Option Nat)) (al:List Bool):Prop where
 tr:∀(i:Nat) (h:i<CB.length),CB[i]≠[]->∃tb n0,T[i]? =some (some tb)/\n0<=CB[i].length/\Bk w (F i) tb n0 (sM al CB[i])
 off:∀i k,F i k->¬X k
 ap:∀i j k,F i k->F j k->i=j
 lt:∀i k,F i k->k<w.heap.size
section
variable {w w':World} {X S:Nat->Prop} {F:Nat->Nat->Prop} {Hb Cb mb:Nat} {cv tv av lv:Value} {ch:List Ae} {T:List (Option Nat)} {al:List Bool} {eQ:List Int} {A:List eX} {N wk:Int} {CB:List (List eX)}
theorem iY.kept (h:iY w X Hb Cb mb cv tv av lv ch T al eQ A N wk) (K:ax S w w') (hS:∀k,X k->¬S k):iY w' X Hb Cb mb cv tv av lv ch T al eQ A N wk:=
 ⟨bq K h.blk (hS _ h.jl.1),⟨bD _,h.fJ.ds,bq K h.fJ.blk (hS _ h.jl.2.1),aR h.fJ.row K fun a e=>hS _ (h.jl.2.2.2.1 a e)⟩,h.rows.NY h.Qw K hS,aR h.jH K fun a e=>hS _ (h.jl.2.2.2.2.1 a e),aR h.dO K fun a e=>hS _ (h.jl.2.2.2.2.2.1 a e),aR h.nz K fun a e=>hS _ (h.jl.2.2.2.2.2.2 a e),h.map.same (K.block _ h.map.lt (hS _ h.jl.2.2.1)),h.jl,h.Qw⟩
theorem iY.below (h:iY w X Hb Cb mb cv tv av lv ch T al eQ A N wk) (a:Below w.heap.size w w'):iY w' X Hb Cb mb cv tv av lv ch T al eQ A N wk:=h.kept (S:=fun _=>False) ((ax.refl _ _).below a) fun _ _ h=>h
theorem iY.cell (h:iY w X Hb Cb mb cv tv av lv ch T al eQ A N wk):w.cell? (af Hb 0)=some zf/\w.cell? (af Hb 1)=some D5/\w.cell? (af Hb 2)=some (aj Cb)/\w.cell? (af Hb 3)=some tv/\w.cell? (af Hb 4)=some av/\w.cell? (af Hb 5)=some lv/\w.cell? (af Hb 6)=some (.map (some mb)):=by
 have:=h.blk;refine⟨?_,?_,?_,?_,?_,?_,?_⟩<;>simp[World.cell?,this]
theorem iY.frozen (h:iY w X Hb Cb mb cv tv av lv ch T al eQ A N wk) (j:Nat):w.frozen? (af Hb j)=false:=by
 have:=h.blk;simp[World.frozen?,this]
theorem iY.lt (h:iY w X Hb Cb mb cv tv av lv ch T al eQ A N wk):Hb<w.heap.size:=(aY.1 h.blk).1
theorem nQ.kept (h:nQ w F X CB T al) (K:ax S w w') (hS:∀i k,F i k->¬S k):nQ w' F X CB T al:=
 ⟨fun i hi e=>by
  have⟨tb,n0,a,b,c⟩:=h.tr i hi e;exact⟨tb,n0,a,b,c.kept K (hS i)⟩,h.off,h.ap,fun i k d=>bX (h.lt i k d) K.size⟩
theorem uj (h:iY w X Hb Cb mb cv tv av lv ch T al eQ A N wk):aK 134 #[aj Hb] w fun e w'=>e=.returned (.bool false)/\w'=w:=by
 obtain⟨-,-,a,-⟩:=h.cell;go_enter func134,ntmps134;go_wp2;go_ret;exact⟨rfl,rfl⟩
theorem Uc (h:iY w X Hb Cb mb cv tv av lv ch T al eQ A N wk):aK 60 #[aj Hb] w fun e w'=>e=.returned (ae A.length)/\w'=w:=by
 have a:=ag (uj h);obtain⟨-,-,-,-,-,-,b⟩:=h.cell;have c:=h.map.size;go_enter func60,ntmps60
 go_wp2_with (go_at_call 134;refine a.o.mono ?_;rintro e w1 ⟨rfl,rfl⟩)
 go_ret;exact⟨rfl,rfl⟩
theorem Nb (h:iY w X Hb Cb mb cv tv av lv ch T al eQ A N wk):aK 87 #[aj Hb] w (fw w (ae N)):=by
 have b:=ag (uj h);have a:=ag (NZ h.fJ);obtain⟨-,-,d,-⟩:=h.cell;go_enter func87,ntmps87
 go_wp2_with (first|(go_at_call 134;refine b.o.mono ?_;rintro e w1 ⟨rfl,rfl⟩)|(go_at_call 139;refine a.o.mono ?_;rintro e w1 ⟨rfl,c⟩))
 go_ret;exact⟨rfl,c⟩
theorem RO {base:Nat} (h:mi w base Cb cv ch N wk):aK 159 #[aj Cb] w (fw w (ae wk)):=by
 have b:=ag (tK h);have H:=ag h;go_enter func159,ntmps159
 go_wp2_with fail
 refine b.o.mono ?_;rintro e w2 ⟨rfl,a⟩;obtain⟨-,-,-,c⟩:=(H.o.below a).cell;go_wp2;go_ret;exact⟨rfl,a⟩
theorem RP (h:iY w X Hb Cb mb cv tv av lv ch T al eQ A N wk):aK 85 #[aj Hb] w (fw w (ae wk)):=by
 have b:=ag (uj h);have a:=ag (RO h.fJ);obtain⟨-,-,d,-⟩:=h.cell;go_enter func85,ntmps85
 go_wp2_with (first|(go_at_call 134;refine b.o.mono ?_;rintro e w1 ⟨rfl,rfl⟩)|(go_at_call 159;refine a.o.mono ?_;rintro e w1 ⟨rfl,c⟩))
 go_ret;exact⟨rfl,c⟩
end
end
section
open Go.RowKit Go.Sort Go.Shelf Go.Lib Go.Maps
theorem dH {W:World} {base:Nat} {e:TypeId} {sz n:Nat} {v:Value} {xs:List Value} (d:W.ownsRow base e sz v n xs) {k:Nat} (b:v.ownBlock=some k):∃a,W.heap[k]? =some (Obj.cells a e (0,0)):=by
 rcases d.2 with⟨rfl,_⟩|⟨g,f,a,rfl,_,c,_⟩
 .cases b
 .simp only[Value.ownBlock,jq]at b;subst b;exact⟨a,c⟩
theorem Cz {P:Program} {ops:Array Oper} {o:Oper} {a:Act} {K:Act->World->Prop} {Q:Exit->Act->World->Prop} {E0:Prop} {f:FuncId} {w:World} {vals:Array Value} {R:Ending->World->Prop} (j:∀args w,(callFunc f args).run P w=.ok (.enter f args) w) (k:o.guard=none) (c:Operand) (args:Array Operand) (q:Array TypeId) (m:o.op=.call {callee:=.value c,args:=args,argTypes:=q}) (g:a.eval c=.func (.func f) #[] #[]) (d:vals=(args.toList.map a.eval).toArray)
  (C:Calls P f vals w R) (h:∀e w',R e w'->∃v,e=.returned v/\K (a.put o.dst v) w'):
  if Region.wanted o (yielded ops a.tmps)=true then Oper.wp P o a w K Q else E0:=by
 have p:Region.wanted o (yielded ops a.tmps)=true:=by simp[Region.wanted,k]
 rw[aO p];unfold Oper.wp;have b:args.map a.eval=vals:=by rw[d,<-Ex]
 have i:(execOp a.eval o).run P w=.ok (.enter f vals) w:=by
  simp[execOp,m,resolve,invoke,b,g,Deferred.ofValue,j]
 rw[i,Oper.upon_enter];refine C.mono fun e w' n=>?_;obtain⟨v,rfl,l⟩:=h e w' n;exact l
abbrev q8:TypeId:=190
abbrev vW (Cb mb:Nat) (tv av lv:Value):Array Value:=#[zf,D5,aj Cb,tv,av,lv,.map (some mb)]
section
variable {w w' w6:World} {X S:Nat->Prop} {F:Nat->Nat->Prop} {Hb Cb mb:Nat} {cv tv av lv:Value} {ch:List Ae} {T:List (Option Nat)} {al:List Bool} {eQ:List Int} {A:List eX} {N wk:Int} {CB:List (List eX)}
theorem iY.more {X':Nat->Prop} (h:iY w X Hb Cb mb cv tv av lv ch T al eQ A N wk) (b:∀k,X k->X' k):iY w X' Hb Cb mb cv tv av lv ch T al eQ A N wk:=
 ⟨h.blk,h.fJ,h.rows,h.jH,h.dO,h.nz,h.map,⟨b _ h.jl.1,b _ h.jl.2.1,b _ h.jl.2.2.1,fun k e=>b _ (h.jl.2.2.2.1 k e),fun k e=>b _ (h.jl.2.2.2.2.1 k e),fun k e=>b _ (h.jl.2.2.2.2.2.1 k e),fun k e=>b _ (h.jl.2.2.2.2.2.2 k e)⟩,fun x d c a e=>b _ (h.Qw x d c a e)⟩
theorem iY.ty (h:iY w X Hb Cb mb cv tv av lv ch T al eQ A N wk) {t:TypeId} (K:ax S w w') (hS:∀k,S k->k=Hb\/∃cs fr,w.heap[k]? =some (Obj.cells cs t fr)):
  (t≠278/\t≠213->mi w' 0 Cb cv ch N wk)/\(t≠187->qW w' ch)/\(t≠106->w'.ownsRow 0 106 1 tv T.length (T.map vTr))/\
  (t≠4->w'.ownsRow 0 4 1 av al.length (al.map Value.bool))/\(t≠3->w'.ownsRow 0 3 1 lv eQ.length (eQ.map (Value.int .i64)))/\lJ w' mb A:=by
 have l:∀{b:Nat} {cs:Array Value} {d:TypeId} {fr:Nat×Nat},w.heap[b]? =some (Obj.cells cs d fr)->d≠q8->t≠d->w'.heap[b]? =w.heap[b]? :=fun{b cs d fr} a f g=>K.block b (aY.1 a).1 fun j=>by
  rcases hS b j with rfl|⟨o,r,i⟩
  .exact dY a h.blk f rfl
  .exact dY i a g rfl
 have c:∀{e:TypeId} {sz n:Nat} {v:Value} {xs:List Value},w.ownsRow 0 e sz v n xs->e≠q8->t≠e->w'.ownsRow 0 e sz v n xs:=fun{e sz n v xs} m f g=>aZ m fun y q=>by
  have⟨p,s⟩:=dH m q;exact l s f g
 refine⟨fun ht=>⟨bD _,h.fJ.ds,(l h.fJ.blk ai ht.1).trans h.fJ.blk,c h.fJ.row ai ht.2⟩,fun ht=>h.rows.kept fun b p fr a=>l a ai ht,fun ht=>c h.jH ai ht,fun ht=>c h.dO ai ht,fun ht=>c h.nz ai ht,h.map.same ?_⟩;refine K.block _ h.map.lt fun j=>?_;obtain⟨D,⟨x,u,a,-⟩,-⟩:=h.map;rcases hS mb j with e|⟨o,r,i⟩
 .rw[e,h.blk]at a;cases a
 .rw[i]at a;cases a
theorem iY.zM (h:iY w X Hb Cb mb cv tv av lv ch T al eQ A N wk) {e:TypeId} {n:Nat} {v:Value} {xs:List Value} (d:w.ownsRow 0 e 1 v n xs) (c:e≠q8):v.ownBlock≠some Hb:=fun a=>by
 have⟨f,b⟩:=dH d a;exact dY h.blk b (fun h=>c h.symm) rfl
theorem iY.U8 (h:iY w X Hb Cb mb cv tv av lv ch T al eQ A N wk) {v a:Value} (f:v.ownBlock≠some Hb) (d:a.ownBlock=v.ownBlock\/∃b,a.ownBlock=some b/\w.heap.size<=b):a.ownBlock≠some Hb:=by
 rcases d with e|⟨b,e,d⟩
 .rw[e];exact f
 .rw[e];intro c;injection c with c;have:=h.lt;omega
theorem iY.Sy (h:iY w X Hb Cb mb cv tv av lv ch T al eQ A N wk) (c:w.grownBy w6 tv.ownBlock) {tv':Value} {T':List (Option Nat)} (m:w6.ownsRow 0 106 1 tv' T'.length (T'.map vTr)) (l:tv'.ownBlock≠some Hb):
  iY (w6.setCell (af Hb 3) tv') (fun k=>X k\/tv'.ownBlock=some k) Hb Cb mb cv tv' av lv ch T' al eQ A N wk:=by
 have b:=h.zM h.jH ai;have d:ax (fun k=>k=Hb\/tv.ownBlock=some k) w (w6.setCell (af Hb 3) tv'):=(((ax.refl (fun k=>k=Hb\/tv.ownBlock=some k) w).grown c fun k e=>.inl (.inr e)).set _ (.inl (.inl rfl)));obtain⟨t1,t2,-,t4,t5,t6⟩:=h.ty (t:=106) d (fun k j=>j.imp id fun e=>by obtain⟨o,i⟩:=dH h.jH e;exact⟨_,_,i⟩);have g:w6.heap[Hb]? =some (Obj.cells (vW Cb mb tv av lv) q8 (0,0)):=(c.block Hb h.lt fun e=>b e.symm).trans h.blk;refine⟨?_,t1 ai,t2 ai,aZ m fun p e=>aF fun f=>l (by rw[e,<-f]),t4 ai,t5 ai,t6,⟨.inl h.jl.1,.inl h.jl.2.1,.inl h.jl.2.2.1,fun k e=>.inl (h.jl.2.2.2.1 k e),fun k e=>.inr e,fun k e=>.inl (h.jl.2.2.2.2.2.1 k e),fun k e=>.inl (h.jl.2.2.2.2.2.2 k e)⟩,fun x n b a e=>.inl (h.Qw x n b a e)⟩;rw[di w6 Hb 3 _ _ _ g];rfl
theorem iY.U9 {g n c:Nat} (h:iY w X Hb Cb mb cv (aA g n c) av lv ch T al eQ A N wk) (j:Nat) (x:Option Nat):iY (w.setCell (af g j) (vTr x)) X Hb Cb mb cv (aA g n c) av lv ch (T.set j x) al eQ A N wk:=by
 have i:=h.zM h.jH ai;have b:ax (fun k=>k=g) w (w.setCell (af g j) (vTr x)):=(ax.refl (fun k=>k=g) w).set _ (.inl rfl);obtain⟨t1,t2,-,t4,t5,t6⟩:=h.ty (t:=106) b (fun k f=>.inr (by obtain⟨l,d⟩:=dH h.jH (k:=k) (by rw[f];rfl);exact⟨_,_,d⟩));obtain rfl:n=T.length:=by
  rcases h.jH.2 with⟨e,_⟩|⟨_,_,_,e,_⟩
  .cases e
  .injection e with _ e
 refine⟨(aF (a:=(af g j)) fun e:g=Hb=>i (by show some g=_;rw[e])).trans h.blk,t1 ai,t2 ai,?_,t4 ai,t5 ai,t6,h.jl,h.Qw⟩;rw[kP,kM];exact(h.jH.stored j (vTr x)).1
theorem iY.V4 {g n c:Nat} (h:iY w X Hb Cb mb cv tv av (aA g n c) ch T al eQ A N wk) (j:Nat) (x:Int):iY (w.setCell (af g j) (.int .i64 x)) X Hb Cb mb cv tv av (aA g n c) ch T al (eQ.set j x) A N wk:=by
 have i:=h.zM h.nz ai;have b:ax (fun k=>k=g) w (w.setCell (af g j) (.int .i64 x)):=(ax.refl (fun k=>k=g) w).set _ (.inl rfl);obtain⟨t1,t2,t3,t4,-,t6⟩:=h.ty (t:=3) b (fun k f=>.inr (by obtain⟨l,d⟩:=dH h.nz (k:=k) (by rw[f];rfl);exact⟨_,_,d⟩));obtain rfl:n=eQ.length:=by
  rcases h.nz.2 with⟨e,_⟩|⟨_,_,_,e,_⟩
  .cases e
  .injection e with _ e
 refine⟨(aF (a:=(af g j)) fun e:g=Hb=>i (by show some g=_;rw[e])).trans h.blk,t1 ai,t2 ai,t3 ai,t4 ai,?_,t6,h.jl,h.Qw⟩;rw[kP,kM];exact(h.nz.stored j (.int .i64 x)).1
theorem iY.V5 {g n c:Nat} (h:iY w X Hb Cb mb cv tv (aA g n c) lv ch T al eQ A N wk) (j:Nat) (x:Bool):iY (w.setCell (af g j) (.bool x)) X Hb Cb mb cv tv (aA g n c) lv ch T (al.set j x) eQ A N wk:=by
 have i:=h.zM h.dO ai;have b:ax (fun k=>k=g) w (w.setCell (af g j) (.bool x)):=(ax.refl (fun k=>k=g) w).set _ (.inl rfl);obtain⟨t1,t2,t3,-,t5,t6⟩:=h.ty (t:=4) b (fun k f=>.inr (by obtain⟨l,d⟩:=dH h.dO (k:=k) (by rw[f];rfl);exact⟨_,_,d⟩));obtain rfl:n=al.length:=by
  rcases h.dO.2 with⟨e,_⟩|⟨_,_,_,e,_⟩
  .cases e
  .injection e with _ e
 refine⟨(aF (a:=(af g j)) fun e:g=Hb=>i (by show some g=_;rw[e])).trans h.blk,t1 ai,t2 ai,t3 ai,?_,t5 ai,t6,h.jl,h.Qw⟩;rw[kP,kM];exact(h.dO.stored j (.bool x)).1
theorem iY.PT {f:Value} {g:List Ae} {p u:Int} (h:iY w X Hb Cb mb cv tv av lv ch T al eQ A N wk) (K:ax (fun k=>k=Cb\/cv.ownBlock=some k) w w') (d:mi w' 0 Cb f g p u) (i:qW w' g) (B:Nw w.heap.size ch g) (c:f.ownBlock=cv.ownBlock\/f.ownBlock=none\/∃b,f.ownBlock=some b/\w.heap.size<=b):
  iY w' (fun k=>X k\/w.heap.size<=k/\(f.ownBlock=some k\/∃h∈g,h.2.1≠[]/\∃a,h.1=some a/\a.block=k)) Hb Cb mb f tv av lv g T al eQ A p u:=by
 have t:∀{b:Nat} {cs:Array Value} {j:TypeId} {fr:Nat×Nat},w.heap[b]? =some (Obj.cells cs j fr)->j≠278->j≠213->w'.heap[b]? =w.heap[b]? :=fun{b cs j fr} c l m=>K.block b (aY.1 c).1 fun h9=>by
  rcases h9 with rfl|h9
  .exact dY c h.fJ.blk l rfl
  .obtain⟨q,d⟩:=dH h.fJ.row h9;exact dY c d m rfl
 have o:∀{e:TypeId} {sz n:Nat} {v:Value} {xs:List Value},w.ownsRow 0 e sz v n xs->e≠278->e≠213->w'.ownsRow 0 e sz v n xs:=fun{e sz n v xs} i l m=>aZ i fun F y=>by
  have⟨q,d⟩:=dH i y;exact t d l m
 refine⟨(t h.blk ai ai).trans h.blk,d,i,o h.jH ai ai,o h.dO ai ai,o h.nz ai ai,h.map.same ?_,⟨.inl h.jl.1,.inl h.jl.2.1,.inl h.jl.2.2.1,fun k e=>?_,fun k e=>.inl (h.jl.2.2.2.2.1 k e),fun k e=>.inl (h.jl.2.2.2.2.2.1 k e),fun k e=>.inl (h.jl.2.2.2.2.2.2 k e)⟩,fun x s r a e=>?_⟩
 .refine K.block _ h.map.lt fun h9=>?_;obtain⟨D,⟨E,C,c,-⟩,-⟩:=h.map;rcases h9 with e|e
  .rw[e,h.fJ.blk]at c;cases c
  .obtain⟨q,d⟩:=dH h.fJ.row e;rw[d]at c;cases c
 .rcases c with e1|e1|⟨b,e1,c⟩
  .exact .inl (h.jl.2.2.2.1 k (by rw[<-e1];exact e))
  .rw[e1]at e;cases e
  .have:b=k:=by rw[e1]at e;injection e
   exact .inr ⟨aa,.inl e⟩
 .rcases B x s with z|h9
  .exact .inl (h.Qw x z r a e)
  .exact .inr ⟨h9 a e,.inr ⟨x,s,r,a,e,rfl⟩⟩
end
end
section
open Go.RowKit Go.Sort Go.Shelf Go.Lib Go.Maps
attribute [local irreducible] wpQuiet
attribute [local go_sem] Oper.fB
theorem Va:eP prog 111 106 1 8:=.mk' (z:=.pointer none) underlying111 aM rfl ai
theorem J8:eY 52:=bO func52 aM rfl
def CE (Hb:Nat) (w:World):Nat:=match w.cell? (af Hb 3)with|some (.slice _ n _)=>n|_=>0
section
variable {w w' w6:World} {X S:Nat->Prop} {F:Nat->Nat->Prop} {Hb Cb mb:Nat} {cv tv av lv:Value} {ch:List Ae} {T:List (Option Nat)} {al:List Bool} {eQ:List Int} {A:List eX} {N wk:Int}
theorem iY.CE (h:iY w X Hb Cb mb cv tv av lv ch T al eQ A N wk):CE Hb w=T.length:=by
 obtain⟨a,b,rfl,-,-,-⟩:=Rd.aJ (enc:=vTr) h.jH;unfold Proofs.YtkjdbndekceffaaGreat.CE;rw[h.cell.2.2.2.1]
def zW (T:List (Option Nat)) (i tb:Nat):List (Option Nat):=(T++List.replicate (i+1-T.length) none).set i (some tb)
def Vb (w:World) (X:Nat->Prop) (Hb Cb mb:Nat) (cv tv av lv:Value) (ch:List Ae) (T:List (Option Nat)) (al:List Bool) (eQ:List Int) (A:List eX) (N wk:Int) (l:List eX) (i:Nat) (e:Ending) (w':World):Prop:=
 e=.returned (.tuple #[])/\∃(tv':Value) (tb m:Nat) (Fn:Nat->Prop),iY w' (fun k=>X k\/w.heap.size<=k/\k<m) Hb Cb mb cv tv' av lv ch (zW T i tb) al (il eQ l i) A N wk/\Bk w' Fn tb (sM al l).length (sM al l)/\(∀k,Fn k->m<=k)/\(w.heap.size<=m/\m<=w'.heap.size)/\
  (tv'.ownBlock=tv.ownBlock\/∃b,tv'.ownBlock=some b/\w.heap.size<=b)/\ax (fun k=>k=Hb\/tv.ownBlock=some k\/lv.ownBlock=some k) w w'
theorem Li (h:iY w X Hb Cb mb cv tv av lv ch T al eQ A N wk) (a:Option Addr) (c:Nat) (l:List eX) (i:Nat) (bq:L6 w a l) (hi:i<=20) (cN:T.length<=100) (c7:l.length<=5000) (bv:∀c∈l,∃k:Nat,c.2=k/\k<al.length) (bt:eQ.length=al.length) (cQ:al.length<=10000) (bE:IA (sM al l)) (hu:(ids (sM al l)).Nodup) (bm:∀k,X k->k<w.heap.size):
  aK 136 #[aj Hb,ae i,.slice a l.length c] w (Vb w X Hb Cb mb cv tv av lv ch T al eQ A N wk l i):=by
 have H:=ag h;have bV:Hid (∀W',ax (fun k=>k=Hb\/tv.ownBlock=some k\/lv.ownBlock=some k) w W'->bY lF 4 W' a l):=fun W' K=>(bq.kept fun b bi fr hb=>K.block b (aY.1 hb).1 (by
  rintro(rfl|e|e)
  .exact dY hb h.blk ai rfl
  .obtain⟨bi,aW⟩:=dH h.jH e;exact dY hb aW ai rfl
  .obtain⟨bi,aW⟩:=dH h.nz e;exact dY hb aW ai rfl)).NH
 have bQ:=ag bv;have b3:=ag bE;have b2:=ag hu;have a8:=ag bt;have b4:=ag bm;have cC:Hid (∀m,tv.ownBlock=some m->m<w.heap.size):=fun m e=>(h.jH.lt m e).2;have bP:Hid (∀m,lv.ownBlock=some m->m<w.heap.size):=fun m e=>(h.nz.lt m e).2;clear h bq bv bE hu bt bm;go_enter func136,ntmps136
 go_upto_block 0 with fail
 go_cut []from 10 to 26 (fun D=>∃tv':Value,Hid (iY D (fun b=>X b\/w.heap.size<=b/\b<D.heap.size) Hb Cb mb cv tv' av lv ch (T++List.replicate (i+1-T.length) none) al eQ A N wk)/\Hid (tv'.ownBlock=tv.ownBlock\/∃b,tv'.ownBlock=some b/\w.heap.size<=b)/\Hid (ax (fun b=>b=Hb\/tv.ownBlock=some b) w D))
 case first=>
  go_wp2_with fail
  go_loopw [] (fun wr=>∃(k:Nat) (tv':Value),k<=i+1-T.length/\Hid (iY wr (fun b=>X b\/w.heap.size<=b/\b<wr.heap.size) Hb Cb mb cv tv' av lv ch (T++List.replicate k none) al eQ A N wk)/\Hid (tv'.ownBlock=tv.ownBlock\/∃b,tv'.ownBlock=some b/\w.heap.size<=b)/\Hid (ax (fun b=>b=Hb\/tv.ownBlock=some b) w wr)) (fun wr=>i+1-CE Hb wr)
  case atStart=>exact⟨0,tv,bD _,ag (by rw[List.replicate_zero,iP];exact H.o.more fun k hk=>.inl hk),.inl rfl,ax.refl _ _⟩
  case round=>
   obtain⟨k,tv',hk,d,E,B⟩:=hrel;obtain⟨cu,tc,F,-,da,-⟩:=Rd.aJ (enc:=vTr) d.o.jH;obtain⟨-,-,-,aw,-⟩:=d.o.cell;have cz:=ag d.o.CE;have bs:(T++List.replicate k (none:Option Nat)).length=T.length+k:=ay;by_cases c5:T.length+k<=i
   .have bB:=d.o.jH;have bN:Hid (∀z,wr.grownBy z tv'.ownBlock->z.heap[Hb]? =some (Obj.cells (vW Cb mb tv' av lv) q8 (0,0))):=fun z u=>(u.block Hb d.o.lt fun e=>d.o.zM d.o.jH ai e.symm).trans d.o.blk;have cD:=B.o.size;rw[bs]at bB F;subst F
    go_wp2_with (at_builtin;go_loud (refine bZ Va 0 bB [.pointer none] rfl (by simp[Value.oneCell']) rfl _ _ rfl rfl _ rfl dJ aa (bD _) ?_;intro cw z ac u aU;obtain⟨M,az,rfl,cS,cT,cU,cV⟩:=aV ac aa;have bG:=bN.o z u;have de:z.cell? (af Hb 3)=some (.slice cu (T.length+k) tc):=(aD bG);have df:z.frozen? (af Hb 3)=false:=(aD bG)))
    have cp:z.ownsRow 0 106 1 (aA M (T.length+k+1) az) (T++List.replicate (k+1) none).length ((T++List.replicate (k+1) none).map vTr):=by
     rw[bS,iA,<-uX,rA,<-ed,bM (l₁:=T++_)];exact ac
    have aT:=gI aU;have bp:=d.o.Sy u cp (d.o.U8 (d.o.zM d.o.jH ai) aT);have cZ:=u.size;have bn:Value.ownBlock (aA M (T.length+k+1) az)=tv.ownBlock\/∃b,Value.ownBlock (aA M (T.length+k+1) az)=some b/\w.heap.size<=b:=by
     rcases aT with f|⟨b,f,aQ⟩
     .rw[f];exact E.o
     .exact .inr ⟨b,f,aa⟩
    have a4:=ag bp;have a3:=ag bn;clear aT aU bp bn;go_roundw
    case rel=>
     refine⟨k+1,_,aa,a4.o.more ?_,a3,(B.o.grown u ?_).set (a:=(af Hb 3)) _ (.inl (.inl rfl))⟩
     .rintro b ((hb|hb)|hb)
      .exact .inl hb
      .exact .inr ⟨hb.1,aH⟩
      .have aE:M=b:=by injection hb
       rcases a3.o with f|⟨bd,f,aQ⟩
       .exact .inl (H.o.jl.2.2.2.2.1 b (f.symm.trans hb))
       .have cK:M=bd:=by injection f
        exact .inr ⟨aa,aH⟩
     .intro b hb;rcases E.o with f|⟨bd,f,aQ⟩
      .exact .inl (.inr (f.symm.trans hb))
      .rw[f]at hb;injection hb with hb;exact .inr aa
    case measure=>
     rw[a4.o.CE,d.o.CE];simp;omega
   .have e:k=i+1-T.length:=aa;subst e;have cJ:¬((T.length+(i+1-T.length):Nat):Int)<=(i:Int):=aa;rw[bs]at F;subst F
    go_wp2_with fail
    go_meet;exact⟨_,d,E,B⟩
 case rest=>
  obtain⟨tv',d,E,B⟩:=hcut;obtain⟨w1,ce⟩:∃w1:World,w1=wc:=⟨_,rfl⟩;subst ce;have cP:(T++List.replicate (i+1-T.length) (none:Option Nat)).length=max T.length (i+1):=aH;have b1:Hid (∀tb,(T++List.replicate (i+1-T.length) (none:Option Nat)).set i (some tb)=zW T i tb):=fun tb=>rfl;generalize T++List.replicate (i+1-T.length) (none:Option Nat)=ab at*;have cq:=B.o.size
  go_upto_block 2 with fail
  go_cut [7,9,29]from 30 to 54 (fun pv cL an D=>∃y:Value,y=pv/\Hid (iY D (fun b=>X b\/w.heap.size<=b/\b<w1.heap.size) Hb Cb mb cv tv' av lv ch ab al (il eQ l i) A N wk)/\Hid (D.ownsRow w1.heap.size 29 3 y (sM al l).length ((sM al l).flatMap dw))/\Hid (ax (fun b=>lv.ownBlock=some b) w1 D))
  case first=>
   go_wp2_with fail
   go_loopw [29,7] (fun an pv wr=>∃(j:Nat) (y:Value),an=.int .i64 j/\y=pv/\j<=l.length/\Hid (iY wr (fun b=>X b\/w.heap.size<=b/\b<w1.heap.size) Hb Cb mb cv tv' av lv ch ab al (il eQ (l.take j) i) A N wk)/\Hid (wr.ownsRow w1.heap.size 29 3 y (sM al (l.take j)).length ((sM al (l.take j)).flatMap dw))/\Hid (ax (fun b=>lv.ownBlock=some b) w1 wr)) (fun an _ _=>l.length-(intOf an).toNat)
   case atStart=>exact⟨0,_,rfl,rfl,bD _,d,dx _ _ _ _,ax.refl _ _⟩
   case round=>
    obtain⟨j,y,rfl,rfl,c1,I,HO,U⟩:=hrel;have c9:=U.o.size;by_cases C:j<l.length
    .obtain⟨cF,dc,ca,cR,P⟩:=(bV.o wr ((B.o.mono fun k h=>h.imp id .inl).trans (U.o.mono fun k h=>.inr (.inr h)))).get aa;have aZ:=P j C 0 aa;have x1:=P j C 1 aa;have x2:=P j C 2 aa;have a0:=P j C 3 aa;simp only[lF,fZ,dC,dK]at aZ x1 x2 a0;obtain⟨q,am,bw⟩:=bQ.o l[j] (bF C);have cn:(il eQ (l.take j) i).length=al.length:=by rw[nk];exact a8.o
     obtain⟨gl,lc,bj,-,cX,-,-⟩:=aV I.o.nz aa;rw[cn]at bj;obtain⟨cG,b5,cb,-,-,bx⟩:=Rd.aJ I.o.dO;obtain⟨lb,lo,cc,c4,br⟩:=bx.get aa;have a1:=br q bw;have L:Hid (sM al (l.take (j+1))=sM al (l.take j)++(if al[q]=true then[(l[j]).1]else[])):=by
      show _=_;unfold sM;rw[ic C,mK,bM];congr 1;unfold cO;rw[l7,am];simp only[gY,cB bw];cases al[q]<;>simp
     have ba:Hid (il eQ (l.take (j+1)) i=(il eQ (l.take j) i).set q i):=by
      show _=_;rw[ic C,GU,am,gY]
     have c3:(sM al (l.take j)).length<=5000:=by
      unfold sM;rw[bR];have O:=fO (cO al) (l.take j);have aP:(l.take j).length<=l.length:=by rw[eH];omega
      omega
     rw[am]at a0;clear P br bx am;generalize sM al (l.take j)=cE at*;generalize cm:il eQ (l.take j) i=bc at*;have co:bc.length=al.length:=by rw[<-cm,nk];exact a8.o
     generalize al[q]=be at*;generalize l[j]=x at*;obtain⟨⟨s,t,r⟩,dd⟩:=x;simp only at aZ x1 x2 L;subst ca cc cb bj;have cY:=bP.o gl rfl;have c8:(q:Int)<(al.length:Int):=aa;have c2:(j:Int)<(l.length:Int):=aa;have S:Below wr.heap.size wr (wr.alloc (.cells #[ae s,ae t,ak r,ae q] 187)):=(aI _ _).alloc (aB _) _;have aX:(wr.alloc (.cells #[ae s,ae t,ak r,ae q] 187)).heap[wr.heap.size]? =some (.cells #[ae s,ae t,ak r,ae q] 187 (0,0)):=bW _ _;have cs:(wr.alloc (.cells #[ae s,ae t,ak r,ae q] 187)).heap.size=wr.heap.size+1:=ay;have a2:=(S.cell (p:=(af lb (lo+q))) (gW wr _ a1)).trans a1;have J:=ag (I.o.below S);have ar:=ag (HO.o.alloc (.cells #[ae s,ae t,ak r,ae q] 187));have a6:Hid (ax (fun b=>Value.ownBlock (aA gl al.length lc)=some b) w1 (wr.alloc (.cells #[ae s,ae t,ak r,ae q] 187))):=U.o.below S
     go_wp2_with fail
     generalize(wr.alloc (.cells #[ae s,ae t,ak r,ae q] 187))=n at*;clear aZ x1 x2 a0 a1 S;obtain⟨-,-,-,-,-,bh,-⟩:=J.o.cell;have cj:=ah bh;have aL:=ah (w:=n) (ad:=(af wr.heap.size 3)) (v:=.int .i64 q) (dV aX);have Q:=J.o.nz;rw[co]at Q;have bK:=Q.cellAt q aa;rw[cB (by rw[bR];omega)]at bK;have cg:=Q.frozenAt q;have cA:=ag (Q.lt gl rfl).2;clear Q;refine au (fun W=>∃p:aS n,W=p.W) [7,8] [(0,false),(1,false),(2,false),(3,true),(4,false),(5,true),(6,false)] ⟨⟨_,(aI _ _).drew⟩,rfl⟩ 2 ?_;refine aG [7,8] ?_;clear cj aL bh;have bb:=ag (J.o.V4 q i);have ao:(n.setCell (af gl q) (.int .i64 i)).heap[wr.heap.size]? =some (.cells #[ae s,ae t,ak r,ae q] 187 (0,0)):=(aF (a:=(af gl q)) (fun e:gl=wr.heap.size=>aa)).trans aX;have Z:ax (fun k=>k=gl) n (n.setCell (af gl q) (.int .i64 i)):=(ax.refl (fun k=>k=gl) n).set _ (.inl rfl);have cx:(n.setCell (af gl q) (.int .i64 i)).cell? (af lb (lo+q))=some (.bool be):=(dD (Z.block lb (gW _ _ a2) (by
      intro e;obtain⟨cH,O⟩:=dH J.o.dO (k:=lb) rfl;obtain⟨cI,aP⟩:=dH J.o.nz (k:=gl) rfl;exact dY O aP ai e))).trans a2
     have bU:=ag (aR ar.o Z (fun m e (h:m=gl)=>by have:=(ar.o.lt m e).1;omega));have V:Hid (ax (fun b=>Value.ownBlock (aA gl al.length lc)=some b) w1 (n.setCell (af gl q) (.int .i64 i))):=a6.o.trans (Z.mono fun k h=>by rw[h];rfl);have ct:(n.setCell (af gl q) (.int .i64 i)).heap.size=n.heap.size:=ay;have b0:Hid (w1.heap.size<=(n.setCell (af gl q) (.int .i64 i)).heap.size):=by show _<=_;omega
     clear aX Z a2 ct cs
     go_wp2_with fail
     generalize n.setCell (af gl q) (.int .i64 i)=g at*;clear bK cg ar a6;obtain⟨-,-,-,-,b6,-,-⟩:=bb.o.cell;have b7:g.cell? (af wr.heap.size 0)=some (ae s):=dV ao;have b8:g.cell? (af wr.heap.size 1)=some (ae t):=dV ao;have b9:g.cell? (af wr.heap.size 2)=some (ak r):=dV ao;have aE:g.cell? (af wr.heap.size 3)=some (ae q):=dV ao;have a9:=ag (bb.o.below ((aI _ _).drew).drew);have a7:Hid (ax (fun b=>Value.ownBlock (aA gl al.length lc)=some b) w1 g.drew.drew):=V.o.drew.drew;have Y:=ag ((bU.o.bu 1).bu 1);have cl:=ah (w:=g.drew) b6;have ck:=ah (w:=g.drew) aE;have cr:=ah (w:=g.drew) cx;refine au (fun W=>∃p:aS g.drew,W=p.W) [] [(0,false),(1,false),(2,false),(3,true),(4,false),(5,true),(6,false),(7,true)] ⟨⟨_,(aI _ _).drew⟩,rfl⟩ 0 ?_;refine lD aM ?_;clear cl ck cr;cases be
     .rw[aN ai,iP]at L;go_wp2;go_roundw
      case rel=>exact⟨j+1,_,by go_num,rfl,aa,by rw[ba.o];exact a9,by rw[L.o];exact Y,a7⟩
      case measure=>exact eT
     .rw[aO rfl]at L;have f0:g.drew.drew.cell? (af wr.heap.size 0)=some (ae s):=b7;have f1:g.drew.drew.cell? (af wr.heap.size 1)=some (ae t):=b8;have f2:g.drew.drew.cell? (af wr.heap.size 2)=some (ak r):=b9
      go_wp2_with (at_builtin;go_loud (refine bZ OY w1.heap.size Y.o [.int .i64 s,.int .i64 t,.int .u32 r] rfl (by simp[Value.oneCell']) rfl _ _ rfl rfl _ (by first|rfl|(show aA g.heap.size 1 1=_;simp)) dJ aa b0.o ?_;intro cw w6 ac u aU))
      have bO:Hid (ax (fun b=>Value.ownBlock (aA gl al.length lc)=some b) w1 w6):=a7.o.grown u (fun b hb=>.inr (Y.o.lt b hb).1);have bX:Hid (iY w6 (fun b=>X b\/w.heap.size<=b/\b<w1.heap.size) Hb Cb mb cv tv' (.slice (some (af lb lo)) al.length b5) (aA gl al.length lc) ch ab al (bc.set q i) A N wk):=a9.o.kept ((ax.refl (fun b=>y.ownBlock=some b) g.drew.drew).grown u fun b hb=>.inl hb) (fun k hk e=>by
       have O:=(Y.o.lt k e).1;rcases hk with hk|hk
       .have:=b4.o k hk;omega
       .omega)
      go_roundw
      case rel=>exact⟨j+1,_,by go_num,rfl,aa,by rw[ba.o];exact bX,by rw[L.o,bS,gX];exact ac,bO⟩
      case measure=>exact eT
    .obtain rfl:j=l.length:=aa;rw[jO]at I HO;have cW:¬(l.length:Int)<(l.length:Int):=aa
     go_wp2_with fail
     go_meet;exact⟨_,rfl,I,HO,U⟩
  case rest=>
   obtain⟨y,rfl,ap,bT,a5⟩:=hcut;obtain⟨w2,cf⟩:∃w2:World,w2=wc:=⟨_,rfl⟩;subst cf;have bC:=a5.o.size;obtain⟨G,tc,F,-,c0,-,-⟩:=aV ap.o.jH aa;subst F;obtain⟨bH,bI,cd,-,-,bz⟩:=bY.aJ bg ai bT.o;subst cd;have c6:(sM al l).length<=5000:=by
    unfold sM;rw[bR];have O:=fO (cO al) l;omega
   have CB:=ag (fun p:aS w2=>Ub bH bI (sM al l) p.W (bz.below p.h) aa b3.o b2.o);obtain⟨bf,-,-,aw,-,-,-⟩:=ap.o.cell;have ci:=ah bf;have aL:=ah aw;clear bf aw;have db:(i:Int)<(ab.length:Int):=aa
   go_wp2_with fail
   refine au (fun W=>∃p:aS w2,W=p.W) [11,12] [(0,false),(1,false),(2,false),(3,true),(4,false),(5,false),(6,false),(7,false),(8,true),(9,false)] ⟨⟨_,(aI _ _).drew⟩,rfl⟩ 3 ?_;clear ci aL;refine aC 10 rfl fun K bl=>?_;refine Cz J8 rfl _ _ _ rfl rfl (vals:=#[.slice bH (sM al l).length bI]) rfl (CB.o ⟨_,(aI _ _).drew⟩) ?_;rintro e bJ ⟨tb,rfl,bk,bo⟩;have R:Below w2.heap.size w2 bJ:=(aI _ _).drew.trans bo;refine⟨_,rfl,?_⟩;refine bl _ _ (fun _ _=>⟨⟨_,R⟩,rfl⟩) ?_;clear bl K;have bL:=ag bk;have aq:=ag (ap.o.below R);have cy:=aq.o.jH.cellAt i aa;rw[cB (by rw[bR];omega)]at cy;have cM:=aq.o.jH.frozenAt i;have V:=ag R;clear bk bo R CB bz;refine aG [11,12] ?_;go_wp2
   go_end0
   have hP:=aq.o.U9 i (some tb);rw[b1.o]at hP;refine⟨rfl,_,tb,w1.heap.size,_,hP,bL.o.kept ((ax.refl (fun k=>k=G) bJ).set (a:=(af G i)) _ (.inl rfl)) (fun k hk h=>?_),fun k hk=>bA bC hk.1,⟨cq,by have:=V.o.size;simp;omega⟩,E.o,?_⟩
   .have O:=(d.o.jH.lt G rfl).2;have aP:=bA bC hk.1;omega
   .refine(((B.o.mono fun k h=>h.imp id .inl).trans (a5.o.mono fun k h=>.inr (.inr h))).below V.o).set (a:=(af G i)) _ ?_;rcases E.o with f|⟨b,f,aQ⟩
    .exact .inl (.inr (.inl f.symm))
    .have aE:G=b:=by injection f
     exact .inr (show w.heap.size<=G by omega)
end
end
section
open Go.RowKit Go.Sort Go.Shelf Go.Lib Go.Maps
attribute [local irreducible] wpQuiet
def dX (CB:List (List eX)) (m:Nat):List Nat:=((List.range CB.length).drop m).reverse.filter fun i=>!(CB.getD i []).isEmpty
theorem Nc (CB:List (List eX)):dX CB CB.length=[]:=by
 unfold dX;rw[oC ay];rfl
theorem J9 (CB:List (List eX)) (k:Nat) (h:k<CB.length):dX CB k=dX CB (k+1)++if CB[k]=[]then[]else[k]:=by
 unfold dX;rw[mJ (aQ h),AX,mK];congr 1;rw[xW,l7,jb,cB h,gH];by_cases e:CB[k]=[]
 .simp[e]
 .simp[e]
theorem zg (CB:List (List eX)) (m:Nat):(dX CB m).length<=CB.length:=by
 unfold dX;refine bA (fO _ _) ?_;simp
def Sz (T:List (Option Nat)) (k:Nat):Value:=vTr (T.getD k none)
section
variable {w w':World} {X S:Nat->Prop} {F:Nat->Nat->Prop} {Hb Cb mb:Nat} {cv tv av lv:Value} {ch:List Ae} {T:List (Option Nat)} {al:List Bool} {eQ:List Int} {A:List eX} {N wk:Int}
theorem PU (h:iY w X Hb Cb mb cv tv av lv ch T al eQ A N wk) (E:oh (ch.map (·.2.1)) al A N) (ab:∀(i:Nat) (hi:i<(ch.map (·.2.1)).length),(ch.map (·.2.1))[i]≠[]->i<T.length):
  aK 61 #[aj Hb] w fun e w'=>∃v,e=.returned v/\w'.ownsRow w.heap.size 106 1 v (dX (ch.map (·.2.1)) 0).length ((dX (ch.map (·.2.1)) 0).map (Sz T))/\Below w.heap.size w w':=by
 have H:=ag h;have P:=ag E;have M:=ag ab;have aw:ch.length<=13:=by have:=E.levels.1;simpa using this
 have I:=ag (uj h);have G:=ag (yC h.fJ aa);obtain⟨-,-,S,-⟩:=h.cell;have O:Hid (∀m,(dX (ch.map (·.2.1)) m).length<=13):=fun m=>by have:=zg (ch.map (·.2.1)) m;rw[bR]at this;show _<=_;omega
 go_enter func61,ntmps61
 go_wp2_with (first|(go_at_call 134;refine I.o.mono ?_;rintro e w1 ⟨rfl,x⟩;have W:=x.symm;clear x;subst W)|(go_at_call 141;refine G.o.mono ?_;rintro e w2 ⟨rfl,C⟩;have K:=ag C;clear C))
 go_loopw [4,3] (fun q ao wr=>∃(m:Nat) (lw:Value),q=.int .i64 ((m:Int)-1)/\lw=ao/\m<=ch.length/\Hid (wr.ownsRow w.heap.size 106 1 lw (dX (ch.map (·.2.1)) m).length ((dX (ch.map (·.2.1)) m).map (Sz T)))/\Hid (Below w.heap.size w wr)) (fun q _ _=>(intOf q+1).toNat)
 case atStart=>exact⟨ch.length,_,by go_num,rfl,aB _,by have:=Nc (ch.map (·.2.1));rw[bR]at this;rw[this];exact dx _ _ _ _,K⟩
 case round=>
  obtain⟨m,lw,rfl,rfl,aE,HO,c⟩:=hrel;rcases qO m with zS|zS
  .subst zS
   go_wp2_with fail
   go_ret;exact⟨_,rfl,HO.o,c.o⟩
  .obtain⟨k,rfl⟩:∃k,m=k+1:=⟨m-1,aa⟩;have ad:(((k+1:Nat):Int)-1)=(k:Int):=aa;rw[ad];have aC:(0:Int)<=(k:Int):=aa;have n:k<(ch.map (·.2.1)).length:=by rw[bR];omega
   have a:=ag (J9 (ch.map (·.2.1)) k n);have B:=M.o k n;rw[fP]at a B;have ae:k<ch.length:=aa;have aH:ch[k].2.1.length<=5000:=by
    have:=P.o.few k n;rwa [fP]at this
   have d:=ag (H.o.below c.o);have CB:=ag (yD d.o.fJ d.o.rows aa k ae aa);obtain⟨-,-,S,-⟩:=d.o.cell;generalize ch[k].2.1=lk at*;have aD:=O.o (k+1);generalize dX (ch.map (·.2.1)) (k+1)=L at*;obtain⟨F,Y⟩:∃F:World,F=wr:=⟨_,rfl⟩;subst Y;have ak:=c.o.size
   go_wp2_with fail
   refine CB.o.mono ?_;rintro e w3 ⟨aL,rfl,ai,f⟩;have aG:=f.size;have r:Hid (Below w.heap.size w w3):=c.o.trans (f.mono ak);have l:=ag (az HO.o f);obtain⟨aq,ar,V,-,-,-⟩:=L6.aJ ai;subst V;have j:=ag (d.o.below f);by_cases g:lk=[]
   .subst g;rw[aO rfl,iP]at a;have am:¬(0:Int)<((([]:List eX).length:Nat):Int):=ay;go_wp2;go_roundw
    case rel=>exact⟨k,_,by go_num,rfl,aa,by rw[a.o];exact l,r⟩
    case measure=>simp[intOf]
   .rw[aN g]at a;have D:=B g;have aF:0<lk.length:=Aw.2 g;have am:(0:Int)<((lk.length:Nat):Int):=aa;obtain⟨Z,tc,u,-,ax,-,-⟩:=aV j.o.jH aa;have ap:w3.cell? (af Z k)=some (Sz T k):=by
     have y:=j.o.jH;rw[u]at y;have z:=y.cellAt k aa;rw[iB,cB D]at z;unfold Sz;rw[jb,cB D];exact z
    have Q:Hid (∃p,Sz T k=.pointer p):=by
     unfold Sz vTr;split<;>exact⟨_,rfl⟩
    have⟨an,t⟩:=Q.o;have J:=ag t;obtain⟨-,-,-,U,-⟩:=j.o.cell;rw[u]at U;rw[t]at ap;have aA:(k:Int)<(T.length:Int):=aa;have s:Hid (w.heap.size<=w3.heap.size):=by show _<=_;omega
    go_wp2_with (at_builtin;refine bZ Va w.heap.size l.o [.pointer an] rfl (by simp[Value.oneCell']) rfl _ _ rfl rfl _ rfl dJ aa s.o ?_;intro aI w6 ah ac au)
    have R:Below w.heap.size w w6:=r.o.grown ac (by have:=s.o;omega) (fun b e=>(l.o.lt b e).1);go_roundw
    case rel=>exact⟨k,_,by go_num,rfl,aa,by rw[a.o,bS,bM,l8,pV,J.o];exact ah,R⟩
    case measure=>simp[intOf]
end
end
section
open Go.RowKit Go.Sort Go.Shelf Go.Lib Go.Maps
attribute [local irreducible] wpQuiet
attribute [local go_sem] Oper.fB
def kK (al:List Bool) (CB:List (List eX)) (m:Nat):List eX:=((CB.drop m).reverse.flatten).filter (cO al)
theorem Nf (al:List Bool) (CB:List (List eX)):kK al CB CB.length=[]:=by unfold kK;rw[List.drop_length];rfl
theorem Ka (al:List Bool) (CB:List (List eX)) (k:Nat) (h:k<CB.length):kK al CB k=kK al CB (k+1)++CB[k].filter (cO al):=by
 unfold kK;rw[mJ h,AX,ll,mK];simp
theorem D6 (al:List Bool) (CB:List (List eX)) (m:Nat):(kK al CB m).length<=CB.flatten.length:=by
 unfold kK;refine bA (fO _ _) ?_;rw[((uQ (CB.drop m)).flatten).length_eq];have a:(CB.take m).flatten++(CB.drop m).flatten=CB.flatten:=by rw[<-ll,jJ]
 have:=congrArg List.length a;rw[bS]at this;omega
section
variable {w w':World} {X S:Nat->Prop} {F:Nat->Nat->Prop} {Hb Cb mb:Nat} {cv tv av lv:Value} {ch:List Ae} {T:List (Option Nat)} {al:List Bool} {eQ:List Int} {A:List eX} {N wk:Int} {A':List eX}
theorem PV (h:iY w X Hb Cb mb cv tv av lv ch T al eQ A N wk) (V:oh (ch.map (·.2.1)) al A' N):
  aK 213 #[aj Hb] w fun e w'=>∃v,e=.returned v/\w'.ownsRow w.heap.size 187 4 v (kK al (ch.map (·.2.1)) 0).length ((kK al (ch.map (·.2.1)) 0).flatMap lF)/\Below w.heap.size w w':=by
 have H:=ag h;have ax:=ag V;have U:=V.levels;have bw:ch.length<=13:=by have:=U.1;simpa using this
 have aX:Hid (∀m,(kK al (ch.map (·.2.1)) m).length<=5000):=fun m=>bA (D6 _ _ _) U.2.1;have aU:=ag (yC h.fJ aa);obtain⟨-,-,aC,-⟩:=h.cell;clear h V U;go_enter func213,ntmps213
 go_wp2_with (go_at_call 141;refine aU.o.mono ?_;rintro e w2 ⟨rfl,aF⟩;have aV:=ag aF;clear aF)
 go_loopw [4,3] (fun W ab wr=>∃(m:Nat) (lw:Value),W=.int .i64 ((m:Int)-1)/\lw=ab/\m<=ch.length/\Hid (wr.ownsRow w.heap.size 187 4 lw (kK al (ch.map (·.2.1)) m).length ((kK al (ch.map (·.2.1)) m).flatMap lF))/\Hid (Below w.heap.size w wr)) (fun W _ _=>(intOf W+1).toNat)
 case atStart=>exact⟨ch.length,_,by go_num,rfl,aB _,by have:=Nf al (ch.map (·.2.1));rw[bR]at this;rw[this];exact dx _ _ _ _,aV⟩
 case round=>
  obtain⟨m,lw,rfl,rfl,bJ,HO,u⟩:=hrel;rcases qO m with zS|zS
  .subst zS;have bx:¬(0:Int)<=((0:Nat):Int)-1:=aa
   go_wp2_with fail
   go_ret;exact⟨_,rfl,HO.o,u.o⟩
  .obtain⟨k,rfl⟩:∃k,m=k+1:=⟨m-1,aa⟩;have bh:(((k+1:Nat):Int)-1)=(k:Int):=aa;rw[bh];have bG:(0:Int)<=(k:Int):=aa;have aH:k<(ch.map (·.2.1)).length:=by rw[bR];omega
   have aw:=ag (Ka al (ch.map (·.2.1)) k aH);have aL:k<ch.length:=aa;have bM:ch[k].2.1.length<=5000:=by
    have:=ax.o.few k aH;rwa [fP]at this
   have aY:Hid (∀x∈ch[k].2.1,∃k:Nat,x.2=(k:Int)/\k<al.length):=fun x bk=>ax.o.num (pJ.2 ⟨_,dA.2 ⟨_,bF aL,rfl⟩,bk⟩);have O:=ag (H.o.below u.o);have CB:=ag (yD O.o.fJ O.o.rows aa k aL aa);obtain⟨-,-,aC,-⟩:=O.o.cell;rw[fP]at aw;generalize ch[k].2.1=lk at*;have bI:=aX.o (k+1);generalize kK al (ch.map (·.2.1)) (k+1)=L at*;obtain⟨F,bb⟩:∃F:World,F=wr:=⟨_,rfl⟩;subst bb;have bj:=u.o.size
   go_wp2_with fail
   refine CB.o.mono ?_;rintro e w3 ⟨bn,rfl,B,z⟩;have bL:=z.size;have aW:Hid (Below w.heap.size w w3):=u.o.trans (z.mono bj);have aZ:=ag (az HO.o z);have a2:Hid (∀a,bn.ownBlock=some a->lw.ownBlock≠some a):=fun a e i=>by
    have aE:=(B.lt a e).1;have bc:=(HO.o.lt a i).2;omega
   have a0:=ag B;obtain⟨ay,s,S,-,-,-⟩:=L6.aJ B;subst S;clear B z CB aC
   go_wp2_with fail
   go_loopw [24,3] (fun Y ab wr=>∃(j:Nat) (D:Value),Y=.int .i64 j/\D=ab/\j<=lk.length/\Hid (wr.ownsRow w.heap.size 187 4 D (L++(lk.take j).filter (cO al)).length ((L++(lk.take j).filter (cO al)).flatMap lF))/\Hid (wr.ownsRow F.heap.size 187 4 (.slice ay lk.length s) lk.length (lk.flatMap lF))/\Hid (∀a,Value.ownBlock (.slice ay lk.length s)=some a->D.ownBlock≠some a)/\Hid (Below w.heap.size w wr)) (fun Y _ _=>lk.length-(intOf Y).toNat)
   case atStart=>exact⟨0,_,rfl,rfl,bD _,by rw[lQ,ED,iP];exact aZ,a0,a2,aW⟩
   case round=>
    obtain⟨j,D,rfl,rfl,bB,I,aq,K,y⟩:=hrel;have aT:=y.o.size;by_cases n:j<lk.length
    .obtain⟨br,bs,R,-,-,aS⟩:=L6.aJ aq.o;injection R with R _ S;subst R S;obtain⟨Q,Z,a8,bv,t⟩:=aS.NH.get aa;have ac:=t j n 0 aa;have x1:=t j n 1 aa;have x2:=t j n 2 aa;have ad:=t j n 3 aa;simp only[lF,fZ,dC,dK]at ac x1 x2 ad;obtain⟨q,C,aQ⟩:=aY.o lk[j] (bF n);have P:=H.o.below y.o;obtain⟨bN,lc,ba,-,-,aR⟩:=Rd.aJ P.dO;obtain⟨lb,lo,a9,bH,aP⟩:=aR.get aa;have am:=aP q aQ;obtain⟨-,-,-,-,an,-⟩:=P.cell;have r:Hid (L++(lk.take (j+1)).filter (cO al)=(L++(lk.take j).filter (cO al))++(if al[q]=true then[lk[j]]else[])):=by
      show _=_;rw[ic n,mK,<-ed];congr 1;unfold cO;rw[l7,C];simp only[gY,cB aQ];cases al[q]<;>simp
     have bE:(L++(lk.take j).filter (cO al)).length<=5000+5000:=by
      rw[bS];have aE:=fO (cO al) (lk.take j);have bc:(lk.take j).length<=lk.length:=by rw[eH];omega
      omega
     rw[C]at ad;have M:=ag C;clear t aP C aR aS P;generalize L++(lk.take j).filter (cO al)=bq at*;generalize al[q]=a5 at*;generalize lk[j]=x at*;obtain⟨⟨f,g,d⟩,bO⟩:=x;simp only at ac x1 x2 r M;obtain rfl:=M.o;clear M;subst a8 a9 ba;have bC:(j:Int)<(lk.length:Int):=aa;have bK:(q:Int)<(al.length:Int):=aa;have G:Below wr.heap.size wr (wr.alloc (.cells #[ae f,ae g,ak d,ae q] 187)):=(aI _ _).alloc (aB _) _;have E:(wr.alloc (.cells #[ae f,ae g,ak d,ae q] 187)).heap[wr.heap.size]? =some (.cells #[ae f,ae g,ak d,ae q] 187 (0,0)):=bW _ _;have ap:Hid (w.heap.size<=(wr.alloc (.cells #[ae f,ae g,ak d,ae q] 187)).heap.size):=by show _<=_;simp;omega
     have bo:=(G.cell (p:=(af lb (lo+q))) (gW wr _ am)).trans am;have bp:=(G.cell (p:=(af Hb 4)) (gW wr _ an)).trans an;have ar:=ag (I.o.alloc (.cells #[ae f,ae g,ak d,ae q] 187));have J:=ag (aq.o.alloc (.cells #[ae f,ae g,ak d,ae q] 187));have ao:=ag (y.o.alloc aT (.cells #[ae f,ae g,ak d,ae q] 187));clear aT
     go_wp2_with fail
     generalize(wr.alloc (.cells #[ae f,ae g,ak d,ae q] 187))=c at*;clear ac x1 x2 ad G am an;have a6:c.cell? (af wr.heap.size 0)=some (ae f):=dV E;have a7:c.cell? (af wr.heap.size 1)=some (ae g):=dV E;have i:c.cell? (af wr.heap.size 2)=some (ak d):=dV E;have aD:c.cell? (af wr.heap.size 3)=some (ae q):=dV E;have be:=ah (w:=c) bp;have bd:=ah (w:=c) aD;have bl:=ah (w:=c) bo;refine kQ [(0,false),(1,false),(2,false),(3,true),(4,false),(5,true),(6,false),(7,true)] 0 ?_;refine lD aM ?_;clear be bd bl;cases a5
     .rw[aN ai,iP]at r;go_wp2;go_roundw
      case rel=>exact⟨j+1,_,by go_num,rfl,aa,by rw[r.o];exact ar.o.bu 1,J.o.bu 1,K,ao.o.drew⟩
      case measure=>exact eT
     .rw[aO rfl]at r;have au:=ag (ar.o.bu 1);have f0:c.drew.cell? (af wr.heap.size 0)=some (ae f):=a6;have f1:c.drew.cell? (af wr.heap.size 1)=some (ae g):=a7;have f2:c.drew.cell? (af wr.heap.size 2)=some (ak d):=i;have f3:c.drew.cell? (af wr.heap.size 3)=some (ae q):=aD
      go_wp2_with (at_builtin;go_loud (refine bZ Gp w.heap.size au.o [.int .i64 f,.int .i64 g,.int .u32 d,.int .i64 q] rfl (by simp[Value.oneCell']) rfl _ _ rfl rfl _ (by first|rfl|(show aA c.heap.size 1 1=_;simp)) dJ aa ap.o ?_;intro bm w6 bi aG bg))
      have a4:Below w.heap.size w w6:=ao.o.drew.grown aG (by have:=ap.o;exact this) (fun b e=>(au.o.lt b e).1);have a1:Hid (w6.ownsRow F.heap.size 187 4 (.slice (some (af Q Z)) lk.length s) lk.length (lk.flatMap lF)):=by
       refine(J.o.bu 1).kept aG ?_;rcases II (Value.ownBlock (.slice (some (af Q Z)) lk.length s))with l|⟨a,l⟩
       .exact .inl l
       .exact .inr (fun e=>K.o a l (e.symm.trans l))
      have a3:Hid (∀a,Value.ownBlock (.slice (some (af Q Z)) lk.length s)=some a->bm.ownBlock≠some a):=fun a e i=>by
       have aE:=(J.o.lt a e).2;rcases gI bg with l|⟨b,l,bf⟩
       .exact K.o a e (l.symm.trans i)
       .rw[l]at i;injection i with i;have bt:c.heap.size<=b:=bf;omega
      go_roundw
      case rel=>exact⟨j+1,_,by go_num,rfl,aa,by rw[r.o,bS,gX];exact bi,a1,a3,a4⟩
      case measure=>exact eT
    .obtain rfl:j=lk.length:=aa;rw[jO,<-aw.o]at I;have bz:¬(lk.length:Int)<(lk.length:Int):=aa;go_wp2;go_roundw
     case rel=>exact⟨k,_,by go_num,rfl,aa,I,y⟩
     case measure=>simp[intOf]
end
end
end Go.Proofs.YtkjdbndekceffaaGreat
