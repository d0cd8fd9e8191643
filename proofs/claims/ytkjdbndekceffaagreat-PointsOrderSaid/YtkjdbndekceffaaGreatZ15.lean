/- Made small by a program. -/
import Derived.Test.YtkjdbndekceffaaGreatZ14
set_option linter.unusedSimpArgs false
set_option linter.unusedVariables false
set_option maxRecDepth 100000
set_option maxHeartbeats 16000000
namespace Go.Proofs.YtkjdbndekceffaaGreat
open Tryz
section
open Go.RowKit Go.Sort Go.Shelf Go.Lib Go.Maps
attribute [local irreducible] wpQuiet
attribute [local go_sem] Oper.eF
section
variable {w:World} {F:Nat->Prop} {tb n0:Nat} {l:List Pt} {lo m0 m1 m2 m3 m4 hi bx cn hp lw ob:Nat} {tl sv:Value} {dn:Bool}
theorem l7.top (h:l7 w F tb n0 l lo m0 m1 m2 m3 m4 hi bx cn hp lw ob tl sv dn):hi<=w.heap.size:=by
 have a:=h.ord;have b:=h.TA;have c:=h.fin.2.2 (hi-1) (h.fin.1 (hi-1) (by have:=h.row;omega) aa);omega
theorem Rp (h:l7 w F tb n0 l lo m0 m1 m2 m3 m4 hi bx cn hp lw ob tl sv dn) (x y d:Int) (M:(x,y,d)∈l):
  aK 53 #[aj tb,iT x y d] w fun e w'=>e=.returned (.bool true)/\
   ∃bA bB,l7 w' (fun k=>F k\/w.heap.size<=k/\k<w'.heap.size) tb n0 (l.filter fun q=>decide (q≠(x,y,d))) lo m0 m1 m2 m3 m4 hi bx cn hp lw bA bB sv false/\ax F w w':=by
 have bU:=h.top;have bS:l.length<=20000:=bD h.box.Ff.1 h.box.Ff.2;have bt:∃g c,tl=au g l.length c:=by
  rcases h.row.2 with⟨rfl,bu⟩|⟨g,bi,bN,rfl,_⟩
  .have bO:=h.row.1;have:l=[]:=gX bu;rw[this]at M;cases M
  .exact⟨g,bi,rfl⟩
 obtain⟨g,c,rfl⟩:=bt;have bP:=h.R4 g rfl;have bQ:=(h.row.lt g rfl).1;obtain⟨br,bs⟩:=h.TA;obtain⟨bV,bW,bY,bZ,b0⟩:=h.ord;have bo:=EX h.und.1;have H:=ag h;have C:=ag M;have L:ax (fun _=>False) w (w.alloc (.cells #[af x,af y,ay d] 29)):=(ax.refl _ w).alloc _;have aD:=cB w (.cells #[af x,af y,ay d] 29);have b1:(w.alloc (.cells #[af x,af y,ay d] 29)).heap.size=w.heap.size+1:=aA;have S:=bz L h.blk (fun h=>h);have aE:=aT h.row L (fun _ _ h=>h);have ai:=ag (OB (x,y,d) w.heap.size g c l.length lo l _ (by rw[ek _ _ _ _ rfl];rfl) (by rw[ek _ _ _ _ rfl];rfl) (by rw[ek _ _ _ _ rfl];rfl) aE rfl aa aa bo);have bf:(w.alloc (.cells #[af x,af y,ay d] 29)).cell? (ae tb 0)=some (au g l.length c):=aG S;have am:=ag S;have Q:=ag aD;have X:=ag L;clear h M S aD aE L;go_enter func53,ntmps53
 go_wp2_with fail
 generalize w.alloc (.cells #[af x,af y,ay d] 29)=w1 at*;refine ai.o.mono ?_;rintro e w2 ⟨n',rfl,aS,aU,B⟩;have J:=bz B am.o aa;have aR:(au g n' c).ownBlock≠some tb:=fun e=>by
  have u:g=tb:=by injection e
  omega
 have a8:=ag (bz B Q.o aa);have bT:=B.size;have f2:w2.frozen? (ae tb 0)=false:=aG J;have bg:w2.cell? (ae tb 0)=some (au g l.length c):=aG J;have aL:(w2.setCell (ae tb 0) (au g n' c)).heap[tb]? =some (Obj.cells #[au g n' c,aj bx,aj cn,aj hp,aj lw,aj ob,sv] 120 (0,0)):=by
  rw[dC w2 tb 0 _ _ _ J];rfl
 have ao:ax (fun k=>k=g\/k=tb) w1 (w2.setCell (ae tb 0) (au g n' c)):=(B.mono fun k h=>.inl h).set _ (.inl (.inr rfl));have aV:(w2.setCell (ae tb 0) (au g n' c)).heap.size=w2.heap.size:=aA;have aF:(w2.setCell (ae tb 0) (au g n' c)).ownsRow lo 29 3 (au g n' c) n' ((l.filter fun q=>decide (q≠(x,y,d))).flatMap bX):=aY aU fun i e=>aC fun U=>aR (by rw[e,<-U]);have ap:=ao.alloc (.cells #[ay 0,.int .i32 0,ay 0] 199);have R:=cB (w2.setCell (ae tb 0) (au g n' c)) (.cells #[ay 0,.int .i32 0,ay 0] 199);have T:ax (fun _=>False) (w2.setCell (ae tb 0) (au g n' c)) ((w2.setCell (ae tb 0) (au g n' c)).alloc (.cells #[ay 0,.int .i32 0,ay 0] 199)):=(ax.refl _ _).alloc _;have K:=bz T aL (fun h=>h);have aI:=ag (aT aF T (fun _ _ h=>h));have aW:((w2.setCell (ae tb 0) (au g n' c)).alloc (.cells #[ay 0,.int .i32 0,ay 0] 199)).heap.size=w2.heap.size+1:=aA;have bh:((w2.setCell (ae tb 0) (au g n' c)).alloc (.cells #[ay 0,.int .i32 0,ay 0] 199)).cell? (ae tb 5)=some (aj ob):=aG K;have f4:((w2.setCell (ae tb 0) (au g n' c)).alloc (.cells #[ay 0,.int .i32 0,ay 0] 199)).frozen? (ae tb 5)=false:=aG K;rw[aV]at R;have P:=ag ap;have an:=ag K;have al:=ag R;have a3:=ag aS;clear ai bf aU B J aL ao aF ap T K R aS
 go_wp2_with fail
 generalize((w2.setCell (ae tb 0) (au g n' c)).alloc (.cells #[ay 0,.int .i32 0,ay 0] 199))=w4 at*;have aM:Hid ((w4.setCell (ae tb 5) (aj w2.heap.size)).heap[tb]? =some (Obj.cells #[au g n' c,aj bx,aj cn,aj hp,aj lw,aj w2.heap.size,sv] 120 (0,0))):=by
  show _=_;rw[dC w4 tb 5 _ _ _ an.o];rfl
 have aq:Hid (ax (fun k=>k=g\/k=tb) w (w4.setCell (ae tb 5) (aj w2.heap.size))):=((X.o.mono fun _ h=>h.elim).trans P.o).set _ (.inl (.inr rfl));have a9:Hid ((w4.setCell (ae tb 5) (aj w2.heap.size)).ownsRow lo 29 3 (au g n' c) n' ((l.filter fun q=>decide (q≠(x,y,d))).flatMap bX)):=aY aI.o fun i e=>aC fun U=>aR (by rw[e,<-U]);have D:Hid ((w4.setCell (ae tb 5) (aj w2.heap.size)).heap[w.heap.size]? =some (Obj.cells #[af x,af y,ay d] 29 (0,0))):=(aC (by simp only;omega)).trans (bz P.o Q.o aa);have a4:Hid ((w4.setCell (ae tb 5) (aj w2.heap.size)).heap[w2.heap.size]? =some (Obj.cells #[ay 0,.int .i32 0,ay 0] 199 (0,0))):=(aC (by simp only;omega)).trans al.o;have b2:(w4.setCell (ae tb 5) (aj w2.heap.size)).heap.size=w2.heap.size+1:=by simp[aW]
 clear f2 bg aV aI aW bh f4 P an al X am Q a8;generalize w4.setCell (ae tb 5) (aj w2.heap.size)=r at*;have Y:=ag (H.o.UF.kept ((aq.o.drew)) (fun k z A V=>aa));have bj:=ah (w:=r) (ad:=(ae tb 2)) (v:=aj cn) (aG aM.o);have bC:=ah (w:=r) (ad:=(ae w.heap.size 0)) (v:=.int .i64 x) (aG D.o);have bI:=ah (w:=r) (ad:=(ae w.heap.size 1)) (v:=.int .i64 y) (aG D.o);have d5:=ah (w:=r) (ad:=(ae w.heap.size 2)) (v:=.int .u32 d) (aG D.o);refine ak (fun W=>∃p:aQ r,W=p.W) [5] [(0,false),(1,false),(2,false),(3,true),(4,true)] ⟨⟨_,(aJ _ _).drew⟩,rfl⟩ 1 ?_;refine aH [5] ?_;clear bj bC bI d5
 go_wp2_with fail
 refine(Ro Y.o (x,y,d) C.o).mono ?_;rintro e w6 ⟨rfl,b,a⟩;have aX:=ag b;have t:Hid (ax (fun k=>m2<=k/\k<m3) r w6):=((ax.refl _ r).drew).trans a;have aN:=ag (bz t.o aM.o aa);have E:=ag (bz t.o D.o aa);have a5:=ag (bz t.o a4.o aa);have ba:=ag (aT a9.o t.o (fun i e=>by have u:g=i:=(by injection e);omega));have ar:Hid (ax (fun k=>(k=g\/k=tb)\/(m2<=k/\k<m3)) w w6):=(aq.o.mono fun k h=>aa).trans (t.o.mono fun k h=>aa);have b3:=a.size;clear b a Y
 go_wp2_with fail
 have Z:=ag (H.o.UG.kept ((ar.o.drew)) (fun k z A V=>aa));have bk:=ah (w:=w6) (ad:=(ae tb 3)) (v:=aj hp) (aG aN.o);have bE:=ah (w:=w6) (ad:=(ae w.heap.size 0)) (v:=.int .i64 x) (aG E.o);have bJ:=ah (w:=w6) (ad:=(ae w.heap.size 1)) (v:=.int .i64 y) (aG E.o);have d6:=ah (w:=w6) (ad:=(ae w.heap.size 2)) (v:=.int .u32 d) (aG E.o);refine ak (fun W=>∃p:aQ w6,W=p.W) [5] [(0,false),(1,false),(2,false),(3,true),(4,true)] ⟨⟨_,(aJ _ _).drew⟩,rfl⟩ 1 ?_;refine aH [5] ?_;clear bk bE bJ d6
 go_wp2_with fail
 refine(TB Z.o (x,y,d) C.o).mono ?_;rintro e f ⟨rfl,b,a⟩;have a0:=ag b;have s:Hid (ax (fun k=>m3<=k/\k<m4) w6 f):=((ax.refl _ w6).drew).trans a;have aO:=ag (bz s.o aN.o aa);have G:=ag (bz s.o E.o aa);have a6:=ag (bz s.o a5.o aa);have bb:=ag (aT ba.o s.o (fun i e=>by have u:g=i:=(by injection e);omega));have av:Hid (ax (fun k=>(k=g\/k=tb)\/(m2<=k/\k<m4)) w f):=(ar.o.mono fun k h=>aa).trans (s.o.mono fun k h=>aa);have b4:=a.size;clear b a Z
 go_wp2_with fail
 have ab:=ag (H.o.low.kept ((av.o.drew)) (fun k z A V=>aa));have bl:=ah (w:=f) (ad:=(ae tb 4)) (v:=aj lw) (aG aO.o);have bG:=ah (w:=f) (ad:=(ae w.heap.size 0)) (v:=.int .i64 x) (aG G.o);have bK:=ah (w:=f) (ad:=(ae w.heap.size 1)) (v:=.int .i64 y) (aG G.o);have d7:=ah (w:=f) (ad:=(ae w.heap.size 2)) (v:=.int .u32 d) (aG G.o);refine ak (fun W=>∃p:aQ f,W=p.W) [5] [(0,false),(1,false),(2,false),(3,true),(4,true)] ⟨⟨_,(aJ _ _).drew⟩,rfl⟩ 1 ?_;refine aH [5] ?_;clear bl bG bK d7
 go_wp2_with fail
 refine(TC ab.o (x,y,d) C.o).mono ?_;rintro e j ⟨rfl,b,a⟩;have a1:=ag b;have n:Hid (ax (fun k=>m4<=k/\k<hi) f j):=((ax.refl _ f).drew).trans a;have aP:=ag (bz n.o aO.o aa);have I:=ag (bz n.o G.o aa);have a7:=ag (bz n.o a6.o aa);have bc:=ag (aT bb.o n.o (fun i e=>by have u:g=i:=(by injection e);omega));have aw:Hid (ax (fun k=>(k=g\/k=tb)\/(m2<=k/\k<hi)) w j):=(av.o.mono fun k h=>aa).trans (n.o.mono fun k h=>aa);have b5:=a.size;clear b a ab
 go_wp2_with fail
 have ac:=ag (H.o.box.kept ((aw.o.drew)) (fun k z A V=>aa));have bm:=ah (w:=j) (ad:=(ae tb 1)) (v:=aj bx) (aG aP.o);have bH:=ah (w:=j) (ad:=(ae w.heap.size 0)) (v:=.int .i64 x) (aG I.o);have bL:=ah (w:=j) (ad:=(ae w.heap.size 1)) (v:=.int .i64 y) (aG I.o);have d8:=ah (w:=j) (ad:=(ae w.heap.size 2)) (v:=.int .u32 d) (aG I.o);refine ak (fun W=>∃p:aQ j,W=p.W) [5,6] [(0,false),(1,false),(2,false),(3,true),(4,true)] ⟨⟨_,(aJ _ _).drew⟩,rfl⟩ 2 ?_;refine aH [5,6] ?_;clear bm bH bL d8
 go_wp2_with fail
 refine(Py ac.o (x,y,d) C.o).mono ?_;rintro e O ⟨rfl,b,a⟩;have a2:=ag b;have m:Hid (ax (fun k=>m1<=k/\k<m2) j O):=((ax.refl _ j).drew).trans a;have be:=ag (bz m.o aP.o aa);have bM:=ag (bz m.o I.o aa);have aB:=ag (bz m.o a7.o aa);have bd:=ag (aT bc.o m.o (fun i e=>by have u:g=i:=(by injection e);omega));have az:Hid (ax (fun k=>(k=g\/k=tb)\/(m2<=k/\k<hi)\/(m1<=k/\k<m2)) w O):=(aw.o.mono fun k h=>aa).trans (m.o.mono fun k h=>aa);have b6:=a.size;clear b a ac;go_wp2;go_ret;have bw:ax (fun k=>(m3<=k/\k<m4)\/(m4<=k/\k<hi)\/(m1<=k/\k<m2)) w6 O:=(s.o.mono fun k h=>.inl h).trans ((n.o.mono fun k h=>.inr (.inl h)).trans (m.o.mono fun k h=>.inr (.inr h)));have bv:ax (fun k=>(m4<=k/\k<hi)\/(m1<=k/\k<m2)) f O:=(n.o.mono fun k h=>.inl h).trans (m.o.mono fun k h=>.inr h);have bq:=az.o.size;have bn:=a3.o;subst bn;refine⟨rfl,w2.heap.size,_,⟨be.o,bd.o,fun k e=>?_,⟨br,bs⟩,a2.o,aX.o.kept bw (fun k _ _ h=>aa),a0.o.kept bv (fun k _ _ h=>aa),a1.o.kept m.o (fun k _ _ h=>aa),H.o.ord,?_,?_,(fun h=>by cases h),⟨fun k z A=>.inl (H.o.fin.1 k z A),.inr ?_,?_⟩,OC H.o.und.1 _,fun q bp=>H.o.und.2 q (bF.1 bp).1⟩,az.o.mono fun k hk=>H.o.fin.1 k aa aa⟩
 .have u:g=k:=by injection e
  omega
 .have N:=aB.o;exact⟨aG N,aG N,aG N,aG N⟩
 .exact⟨aa,.inr aa⟩
 .have:=(aZ.1 aB.o).1;omega
 .rintro k (hk|hk)
  .exact bR (H.o.fin.2.2 k hk) bq
  .exact hk.2
end
theorem G6:gF 148:=di func148 aO rfl
theorem Pz:gF 147:=di func147 aO rfl
theorem Rq {W:World} {V tb:Nat} {a:Option Addr} {c:Nat} {l:List Pt} {v1 u x y z sv:Value} (n:W.cell? (ae V 0)=some (aj tb)) (h:W.heap[tb]? =some (Obj.cells #[.slice a l.length c,v1,u,x,y,z,sv] 120 (0,0))) (s:bQ bX 3 W a l) (D:l.length<=20000) (t:KT l) (hu:lH l=true):
  aK 147 #[aj V] W fun e w'=>e=.returned (.tuple #[])/\∃v d,Below W.heap.size W d/\d.ownsRow W.heap.size 29 3 v (bM l).length ((bM l).flatMap bX)/\w'=d.setCell (ae tb 6) v:=by
 have k:=ag (fun W' (q:Below W.heap.size W W')=>Tz a l l.length c W' rfl (s.below q) aa t hu);have f:=ag h;have B:=ah n;have C:=ah (w:=W) (ad:=(ae tb 0)) (v:=.slice a l.length c) (aG h);go_enter func147,ntmps147
 go_wp2_with fail
 refine ak (fun W'=>∃p:aQ W,W'=p.W) [9,10,11] [(0,true),(1,true),(2,false),(3,false),(4,true)] ⟨⟨_,(aJ _ _).drew⟩,rfl⟩ 7 ?_;refine aF 5 rfl fun K m=>?_;refine bf G6 rfl _ _ rfl (vals:=#[.slice a l.length c]) rfl (k.o _ (aJ _ _).drew) ?_;rintro e w2 ⟨v,rfl,i,r⟩;obtain⟨E,F,rfl,-,-,-⟩:=bQ.aI bg ai i;have b:Below W.heap.size W w2:=(aJ _ _).drew.trans r;refine⟨_,rfl,?_⟩;refine m _ _ (fun _ _=>⟨⟨_,b⟩,rfl⟩) ?_;have HO:=ag i;have j:=ag b;refine bu [(6,false),(7,false),(8,false)] ⟨⟨_,b⟩,rfl⟩ rfl ?_;refine aH [9,10,11] ?_;have g:=(aS b f.o).trans f.o;have A:w2.cell? (ae tb 6)=some sv:=aG g;have f2:w2.frozen? (ae tb 6)=false:=aG g
 go_wp2_with fail
 go_end0
 exact⟨rfl,_,w2,j.o,HO.o,rfl⟩
section
variable {w:World} {F:Nat->Prop} {tb n0:Nat} {l:List Pt} {lo m0 m1 m2 m3 m4 hi bx cn hp lw ob:Nat} {tl sv:Value} {dn:Bool}
theorem l7.more {d:Nat->Prop} (h:l7 w F tb n0 l lo m0 m1 m2 m3 m4 hi bx cn hp lw ob tl sv dn) (f:∀k,F k->d k) (i:∀k,d k->k<w.heap.size):l7 w d tb n0 l lo m0 m1 m2 m3 m4 hi bx cn hp lw ob tl sv dn:=
 ⟨h.blk,h.row,h.R4,h.TA,h.box,h.UF,h.UG,h.low,h.ord,h.Ub,h.VE,fun hd=>by
  have⟨a,c,e,j,m,g⟩:=h.Dm hd;exact⟨a,c,e,j,m,fun x e=>⟨(g x e).1,(g x e).2.1,f _ (g x e).2.2⟩⟩,⟨fun k a b=>f k (h.fin.1 k a b),f _ h.fin.2.1,i⟩,h.und⟩
theorem TD (h:l7 w F tb n0 l lo m0 m1 m2 m3 m4 hi bx cn hp lw ob tl sv dn):
  aK 63 #[aj tb] w fun e w'=>∃a c,e=.returned (.slice a (bM l).length c)/\(bM l).length<=c/\bQ bX 3 w' a (bM l)/\
   ∃aL,l7 w' (fun k=>F k\/w.heap.size<=k/\k<w'.heap.size) tb n0 l lo m0 m1 m2 m3 m4 hi bx cn hp lw ob tl aL true/\ax F w w':=by
 have aV:=h.top;have au:l.length<=20000:=bD h.box.Ff.1 h.box.Ff.2;have⟨az,aD⟩:=h.TA;have⟨aW,aX,aY,aZ,a0⟩:=h.ord;have N:=h.VE;have H:=ag h;have n:ax (fun _=>False) w (w.alloc (.cells #[aj tb] 106)):=(ax.refl _ w).alloc _;have I:=cB w (.cells #[aj tb] 106);have a3:(w.alloc (.cells #[aj tb] 106)).heap.size=w.heap.size+1:=aA;have m:=ag (bz n h.blk (fun h=>h));have y:=ag n;have U:=ag I;have aH:(w.alloc (.cells #[aj tb] 106)).cell? (ae tb 5)=some (aj ob):=aG m.o;have aU:=h.fin.2.2 _ h.fin.2.1;have d:=ag ((h.kept n (fun _ _ h=>h)).Ub);have z:=ag (aT h.row n (fun _ _ h=>h));have T:=ag (h.kept n (fun _ _ h=>h));cases dn with
 |true=>
  obtain⟨a,c,rfl,ar,av,M⟩:=h.Dm rfl;have W:=ag (av.below ((aJ _ w).alloc (aB _) (.cells #[aj tb] 106)));have a1:(w.alloc (.cells #[aj tb] 106)).cell? (ae tb 6)=some (.slice a (bM l).length c):=aG m.o;have P:=ag (Dv (ae ob 0) (.func (.func 147) #[] #[aj w.heap.size]) _ d.o.c0);have a2:(w.alloc (.cells #[aj tb] 106)).cell? (ae w.heap.size 0)=some (aj tb):=by rw[ek _ _ _ _ rfl];rfl
  go_enter func63,ntmps63
  go_wp2_with fail
  generalize w.alloc (.cells #[aj tb] 106)=w1 at*;refine P.o.mono ?_;rintro e w2 ⟨rfl,rfl⟩;go_wp2;go_ret;refine⟨a,c,rfl,ar,W.o,.slice a (bM l).length c,?_,y.o.mono fun _ h=>h.elim⟩;exact T.o.more (by intro k hk;exact .inl hk) (by rintro k (hk|hk);exact bR (H.o.fin.2.2 k hk) y.o.size;exact hk.2)
 |false=>
  have aE:lH l=true:=by unfold lH;exact rH h.und.1
  obtain⟨aM,tc,rfl,-,-,aR⟩:=bQ.aI bg ai z.o;have A:ax (fun k=>k=ob) (w.alloc (.cells #[aj tb] 106)) ((w.alloc (.cells #[aj tb] 106)).setCell (ae ob 1) (.int .i32 1)):=(ax.refl _ _).set _ (.inl rfl);have aS:ob≠tb:=N.1;have al:=bz A m.o aa;have ao:=bz A I aa;have ad:=aT z.o A (fun f e=>by have p:=h.R4 f e;have s:=(h.row.lt f e).1;omega);obtain⟨a4,a5,B,-,-,aq⟩:=bQ.aI bg ai ad;injection B with B _ ap;subst B ap;have S:=Rq (V:=w.heap.size) (tb:=tb) (fC ao) al aq au h.und.2 aE;have L:ob<(w.alloc (.cells #[aj tb] 106)).heap.size:=aa;have Q:=ag (zh Pz (R:=fun C=>∃v b,Below ((w.alloc (.cells #[aj tb] 106)).setCell (ae ob 1) (.int .i32 1)).heap.size ((w.alloc (.cells #[aj tb] 106)).setCell (ae ob 1) (.int .i32 1)) b/\b.ownsRow ((w.alloc (.cells #[aj tb] 106)).setCell (ae ob 1) (.int .i32 1)).heap.size 29 3 v (bM l).length ((bM l).flatMap bX)/\C=b.setCell (ae tb 6) v) ob 0 (aj w.heap.size) _ d.o.c0 d.o.c1 d.o.f0 d.o.f1 (by
   refine S.mono ?_;rintro e C ⟨rfl,v,b,q,i,rfl⟩;have t:(b.setCell (ae tb 6) v).heap[ob]? =((w.alloc (.cells #[aj tb] 106)).setCell (ae ob 1) (.int .i32 1)).heap[ob]? :=(aC (by simp only;omega)).trans (q.block ob (aP L));refine⟨rfl,⟨v,b,q,i,rfl⟩,(dz (a:=(ae ob 0)) t).trans ?_,(dz (a:=(ae ob 1)) t).trans ?_,(vY (a:=(ae ob 0)) t).trans ?_,(vY (a:=(ae ob 1)) t).trans ?_⟩
   .exact(xC _ (ae ob 1) (ae ob 0) _ aA).trans d.o.c0
   .simp[Aa,d.o.c1]
   .simp[d.o.f0]
   .simp[d.o.f1]))
  have aH:(w.alloc (.cells #[aj tb] 106)).cell? (ae tb 5)=some (aj ob):=aG m.o;go_enter func63,ntmps63
  go_wp2_with fail
  generalize(w.alloc (.cells #[aj tb] 106))=w1 at*;refine Q.o.mono ?_;rintro e w6 ⟨rfl,C,⟨v,b,q,i,rfl⟩,rfl⟩;rw[show(w1.setCell (ae ob 1) (.int .i32 1)).heap.size=w1.heap.size by simp]at i;have r:ax (fun k=>k=ob) w1 b:=((ax.refl (fun k=>k=ob) w1).set (a:=(ae ob 1)) (.int .i32 1) (.inl rfl)).below q;have af:=bz r m.o aa;have am:=bz r U.o aa;have ac:=aT z.o r (fun f e=>by have p:=H.o.R4 f e;have s:=(H.o.row.lt f e).1;omega);have ah:(b.setCell (ae tb 6) v).heap[tb]? =some (Obj.cells #[.slice aM l.length tc,aj bx,aj cn,aj hp,aj lw,aj ob,v] 120 (0,0)):=by
   rw[dC b tb 6 _ _ _ af];rfl
  have G:ax (fun k=>k=ob\/k=tb) w1 (b.setCell (ae tb 6) v):=(r.mono fun k h=>.inl h).set _ (.inl (.inr rfl));have Z:ax (fun k=>k=ob\/k=tb) w ((((b.setCell (ae tb 6) v).drew).setCell (ae ob 0) (.int .u32 1)).setCell (ae ob (0+1)) (.int .i32 0)):=(((((y.o.mono fun _ h=>h.elim).trans G).drew).set (a:=(ae ob 0)) _ (.inl (.inl rfl))).set (a:=(ae ob (0+1))) _ (.inl (.inl rfl)));have j:ax (fun k=>k=ob) (b.setCell (ae tb 6) v) ((((b.setCell (ae tb 6) v).drew).setCell (ae ob 0) (.int .u32 1)).setCell (ae ob (0+1)) (.int .i32 0)):=((((ax.refl (fun k=>k=ob) _).drew).set (a:=(ae ob 0)) _ (.inl rfl)).set (a:=(ae ob (0+1))) _ (.inl rfl));have ak:=bz j ah aa;have an:=bz j ((aC (by simp only;omega)).trans am) aa;have u:(b.setCell (ae tb 6) v).heap[ob]? =(w1.setCell (ae ob 1) (.int .i32 1)).heap[ob]? :=(aC (by simp only;omega)).trans (q.block ob (aP L));have aO:(b.setCell (ae tb 6) v).cell? (ae ob 0)=some (ay 0):=((dz (a:=(ae ob 0)) u).trans ((xC _ (ae ob 1) (ae ob 0) _ aA).trans d.o.c0));have aQ:(b.setCell (ae tb 6) v).cell? (ae ob 1)=some (.int .i32 1):=((dz (a:=(ae ob 1)) u).trans (by simp[Aa,d.o.c1]));have aN:(b.setCell (ae tb 6) v).frozen? (ae ob 0)=false:=((vY (a:=(ae ob 0)) u).trans (by simp[d.o.f0]));have y1:(b.setCell (ae tb 6) v).frozen? (ae ob 1)=false:=((vY (a:=(ae ob 1)) u).trans (by simp[d.o.f1]));have ab:Hid (R3 ((((b.setCell (ae tb 6) v).drew).setCell (ae ob 0) (.int .u32 1)).setCell (ae ob (0+1)) (.int .i32 0)) ob true):=by
   refine⟨?_,?_,?_,?_⟩
   .refine(xC _ (ae ob (0+1)) (ae ob 0) _ aA).trans ?_;simp[Aa,aO]
   .have:(((b.setCell (ae tb 6) v).drew).setCell (ae ob 0) (.int .u32 1)).cell? (ae ob 1)=some (.int .i32 1):=(xC _ (ae ob 0) (ae ob 1) _ aA).trans (aP aQ);simp[Aa,this]
   .simpa using aN
   .simpa using y1
  have D:Hid ((((b.setCell (ae tb 6) v).drew).setCell (ae ob 0) (.int .u32 1)).setCell (ae ob (0+1)) (.int .i32 0)|>.ownsRow w1.heap.size 29 3 v (bM l).length ((bM l).flatMap bX)):=aT (aT i ((ax.refl (fun k=>k=tb) b).set (a:=(ae tb 6)) v (.inl rfl)) (fun f e=>by have:=(i.lt f e).1;omega)) j (fun f e=>by have:=(i.lt f e).1;omega);have E:=ag ak;have Y:=ag an;have g:=ag Z;have X:=ag (aT ac ((G.mono (fun k h=>h)).trans (j.mono fun k h=>.inl h)|>fun h=>(((ax.refl (fun k=>k=ob\/k=tb) b).set (a:=(ae tb 6)) v (.inl (.inr rfl))).trans (j.mono fun k h=>.inl h))) (fun f e=>by have p:=H.o.R4 f e;have s:=(H.o.row.lt f e).1;omega));generalize(((b.setCell (ae tb 6) v).drew).setCell (ae ob 0) (.int .u32 1)).setCell (ae ob (0+1)) (.int .i32 0)=O at*;have u0:O.cell? (ae w.heap.size 0)=some (aj tb):=aG Y.o;have u1:O.cell? (ae tb 6)=some v:=aG E.o;go_wp2;go_ret;obtain⟨a,c,rfl,-,K,J⟩:=bQ.aI bg ai D.o;have aw:=g.o.size;have aF:=D.o.lt;refine⟨a,c,rfl,K,J,_,⟨E.o,X.o,H.o.R4,⟨az,aD⟩,H.o.box.kept g.o aa,H.o.UF.kept g.o aa,H.o.UG.kept g.o aa,H.o.low.kept g.o aa,H.o.ord,ab.o,N,fun _=>⟨a,c,rfl,K,J,fun x M=>?_⟩,⟨fun k p s=>.inl (H.o.fin.1 k p s),.inl H.o.fin.2.1,?_⟩,H.o.und⟩,g.o.mono ?_⟩
  .have p:=aF x.block (by rw[M];rfl);exact⟨aa,aa,.inr aa⟩
  .rintro k (hk|hk)
   .exact bR (H.o.fin.2.2 k hk) aw
   .exact hk.2
  .rintro k (rfl|rfl)
   .exact H.o.fin.2.1
   .exact H.o.tF
end
end
section
open Go.RowKit Go.Maps
attribute [local irreducible] wpQuiet
def TE (W:World) (base Cb:Nat) (wk:Int) (l:List eO) (e:Ending) (w':World):Prop:=
 ∃(Cz:Value) (qP:List zT) (Kj:Int),e=.returned (af l.length)/\mU w' base Cb Cz qP l.length Kj/\qQ w' qP/\qP.map (·.2.1)=setC (Lib.bitLen l.length) l/\
  (Cz.ownBlock=none\/∃b,Cz.ownBlock=some b/\W.heap.size<=b)/\ax (fun k=>k=Cb) W w'/\Nw W.heap.size [] qP/\Kj=wrap64 (wk+(l.length:Int))
theorem TF {W:World} {base Cb:Nat} {cv:Value} {ch:List zT} {N wk:Int} (h:mU W base Cb cv ch N wk) (ck:base<=W.heap.size) (a:Option Addr) (l:List eO) (c:Nat) (ba:LC W a l) (bP:l.length<=c) (aD:l.length<=10000):
  aK 212 #[aj Cb,.slice a l.length c] W (TE W base Cb wk l):=by
 have aR:=ag (wE h);have H:=ag h;have bH:=fu aD ai;have bJ:Lib.bitLen 10000=14:=ai;rw[bJ]at bH;have aZ:=ag ba;have a0:l.length<2^Lib.bitLen l.length:=by
  by_cases a6:l.length=0
  .rw[a6];decide
  .exact(bI _ aa a6).2.2
 have bo:=ag a0;clear a0;clear h ba;go_enter func212,ntmps212
 go_wp2_with fail
 refine aR.o.mono ?_;rintro e w2 ⟨rfl,B⟩;have C:=ag (H.o.below B);obtain⟨bA,bB,bC,bD⟩:=C.o.cell;have f1:=C.o.frozen 1;have Z:Hid (mU (w2.setCell (ae Cb 1) (aL)) base Cb (aL) [] N wk):=ik.LA (ch:=ch) C.o.blk C.o.hb C.o.ds (dw _ _ _ _) (by simp[Value.ownBlock]);obtain⟨d0,d1,d2,d3⟩:=Z.o.cell;have f2:=Z.o.frozen 2;have a2:Hid (mU ((w2.setCell (ae Cb 1) (aL)).setCell (ae Cb 2) (.int .i64 l.length)) base Cb (aL) [] l.length wk):=Z.o.Be _;have K2:Hid (ax (fun k=>k=Cb) W ((w2.setCell (ae Cb 1) (aL)).setCell (ae Cb 2) (.int .i64 l.length))):=(((ax.refl (fun k=>k=Cb) W).below B).set (a:=(ae Cb 1)) _ (.inl rfl)).set (a:=(ae Cb 2)) _ (.inl rfl);have ci:=H.o.lt;clear aR
 go_upto_block 0 with fail
 go_cut []from 19 to 33 (fun w=>∃v,Hid (mU w base Cb v (List.replicate (Lib.bitLen l.length) fG) l.length wk)/\Hid (v.ownBlock=none\/∃b,v.ownBlock=some b/\W.heap.size<=b)/\Hid (ax (fun k=>k=Cb) W w))
 case first=>
  go_wp2_with fail
  generalize((w2.setCell (ae Cb 1) (aL)).setCell (ae Cb 2) (.int .i64 l.length))=w3 at*
  go_loopw [5] (fun aO wr=>∃(k m:Nat) (v:Value),aO=.int .i64 m/\m<=10000/\Hid (k+Lib.bitLen m=Lib.bitLen l.length)/\Hid (mU wr base Cb v (List.replicate k fG) l.length wk)/\Hid (v.ownBlock=none\/∃b,v.ownBlock=some b/\W.heap.size<=b)/\Hid (ax (fun k=>k=Cb) W wr)) (fun aO _=>(intOf aO).toNat)
  case atStart=>exact⟨0,l.length,_,rfl,aD,(by show _=_;omega),a2,.inl rfl,K2⟩
  case round=>
   obtain⟨k,m,v,rfl,bX,aY,f,E,s⟩:=hrel;by_cases zG:m=0
   .subst zG;obtain rfl:k=Lib.bitLen l.length:=aY.o
    go_wp2_with fail
    go_meet;exact⟨v,f,E,s⟩
   .have aW:Hid (k+1+Lib.bitLen (m/2)=Lib.bitLen l.length):=by
     have:=Lib.bitLen_half m zG aa;have:=aY.o;show _=_;omega
    have ah:k+1<=14:=by have:=aW.o;omega
    have J:=f.o.row;rw[iw]at J;have bZ:=f.o.ne;have cw:(0:Int)<(m:Int):=aa;obtain⟨ay,az,aA,aC⟩:=f.o.cell;have bs:Hid (∀w6,wr.grownBy w6 v.ownBlock->w6.heap[Cb]? =some (Obj.cells #[.bool true,v,af l.length,af wk] 278 (0,0))):=fun w6 ac=>(ac.block Cb f.o.lt (fun e=>f.o.ne e.symm)).trans f.o.blk
    go_wp2_with (at_builtin;refine bW RU base J [aL] rfl (by simp[Value.oneCell']) rfl _ _ rfl rfl _ rfl dD aa (by have:=s.o.size;omega) ?_;intro cD w6 bc ac a9;obtain⟨a5,j,rfl,co,cp,cq,cr⟩:=aU bc aa;have aJ:=bs.o w6 ac;have cB:w6.cell? (ae Cb 1)=some v:=(aG aJ);have cC:w6.frozen? (ae Cb 1)=false:=(aG aJ))
    have cj:=f.o.lt;have b0:w6.ownsRow base 213 1 (au a5 (k+1) j) (List.replicate (k+1) (fG:zT)).length ((List.replicate (k+1) (fG:zT)).map dR):=by
     rw[iw,Dt,bL];exact bc
    have b1:Value.ownBlock (au a5 (k+1) j)≠some Cb:=by
     rcases a9 with h9|h9
     .rw[h9];exact bZ
     .rw[h9];simp;omega
    go_roundw
    case rel=>
     refine⟨k+1,m/2,_,by go_num,aa,aW,ik.LA (ch:=List.replicate k fG) aJ f.o.hb f.o.ds b0 b1,?_,(s.o.grown ac ?_).set (a:=(ae Cb 1)) _ (.inl rfl)⟩
     .rcases a9 with h9|h9
      .rw[h9];exact E
      .exact .inr ⟨_,h9,by have:=s.o.size;simp;omega⟩
     .intro b i;rcases E.o with h9|⟨b3,h9,Q⟩
      .rw[h9]at i;cases i
      .rw[h9]at i;injection i with i;subst i;exact .inr Q
    case measure=>exact dU
 case rest=>
  obtain⟨v,f,E,s⟩:=hcut;obtain⟨w3,bG⟩:∃w3:World,w3=wc:=⟨_,rfl⟩;subst bG;clear Z a2 K2 bA bB bC bD f1 f2 d0 d1 d2 d3 C B;generalize bK:Lib.bitLen l.length=K at*;obtain⟨x,aE⟩:∃x,x=v.ownBlock:=⟨_,rfl⟩;have a1:Hid (∀W',ax (fun k=>k=Cb\/x=some k) w3 W'->bQ lu 4 W' a l):=fun W' R=>((aZ.o.kept (H.o.eX rfl (s.o.mono (fun k h=>.inl h)))).kept (f.o.eX aE R)).Nu;have aw:=ag aE;clear aE;have ao:=f.o;have bt:Hid (qQ w3 (List.replicate K fG)):=Du _ _;have bp:Hid ((List.replicate K (fG:zT)).map (·.2.1)=List.replicate K []++[]):=by show _=_;simp
  have bn:Hid (l.length=l.length%2^K):=(Er bo.o).symm;obtain⟨av,P,bg,-,bR,-⟩:=Rd.aI (enc:=dR) ao.row;rw[iw]at bg bR;subst bg;obtain⟨b6,b7,b8,b9⟩:=ao.cell;clear ao
  go_upto_block 2 with fail
  go_cut []from 35 to 64 (fun w=>∃ch1,Hid (mU w base Cb (.slice av K P) ch1 l.length wk)/\Hid (Nw W.heap.size [] ch1)/\Hid (qQ w ch1)/\Hid (ch1.map (·.2.1)=setC K l)/\Hid (ax (fun k=>k=Cb\/x=some k) w3 w))
  case first=>
   go_wp2_with fail
   go_loopw [7,6] (fun aH b2 wr=>∃(m:Nat) (ad:Option Addr) (r:List eO) (y:Nat) (ch1:List zT) (T:List (List eO)),aH=.int .i64 ((m:Int)-1)/\b2=.slice ad r.length y/\m<=K/\r.length<=y/\Hid (r.length=l.length%2^m)/\Hid (∀W',ax (fun k=>k=Cb\/x=some k) w3 W'->bQ lu 4 W' ad r)/\
    Hid (mU wr base Cb (.slice av K P) ch1 l.length wk)/\Hid (Nw W.heap.size [] ch1)/\Hid (qQ wr ch1)/\Hid (ch1.map (·.2.1)=List.replicate m []++T)/\Hid (setC K l=setC m r++T)/\Hid (ax (fun k=>k=Cb\/x=some k) w3 wr)) (fun aH _ _=>(intOf aH+1).toNat)
   case atStart=>exact⟨K,a,l,c,_,[],by go_num,rfl,aB _,bP,bn,a1,f,Nw.Sw,bt,bp,(by show _=_;simp),ax.refl _ _⟩
   case round=>
    obtain⟨m,ad,r,y,ch1,T,rfl,rfl,bX,bf,X,M,q,L,D,A,Y,t⟩:=hrel;rcases qL m with zG|zG
    .subst zG;have cl:¬(0:Int)<=((0:Nat):Int)-1:=aa
     go_wp2_with fail
     go_meet;exact⟨ch1,q,L,D,(by have d:=A.o;have G:=Y.o;show _=_;rw[d,G];rfl),t⟩
    .obtain⟨k,rfl⟩:∃k,m=k+1:=⟨m-1,aa⟩;have ah:k<14:=aa;have ak:=Gr l.length k;have cu:r.length<=l.length:=by rw[X.o];exact Nat.mod_le _ _
     have bx:=Ox k ah;have O:=RY l.length k ah aD;have hp:=qp k ah;have bU:(((k+1:Nat):Int)-1)=(k:Int):=aa;have cs:(0:Int)<=(k:Int):=aa;have aF:ch1.length=K:=by
      have d:=congrArg List.length A.o;have G:=congrArg List.length Y.o;rw[eu,bS,eu]at G;simp at d;omega
     rw[bU];by_cases i:l.length.testBit k=true
     .rw[i]at O;simp only[gK]at O;have I:=ak.1 i;rw[<-X.o]at I;have al:2^k<=r.length:=aa;have ar:Hid (setC K l=setC k (r.drop (2^k))++r.take (2^k)::T):=by
       have d:=Y.o;rw[setC,aN al,dX]at d;exact d
      have V:Hid (∀hd:zT,hd.2.1=r.take (2^k)->(ch1.set k hd).map (·.2.1)=List.replicate k []++r.take (2^k)::T):=fun hd h9=>by
       rw[kK,A.o,h9,FZ]
      have aq:Hid ((r.drop (2^k)).length=l.length%2^k):=by
       show _=_;rw[mK];omega
      clear ak i I;generalize S:2^k=p at*;have ap:=ag S;clear S;obtain⟨b,off,bF,bO,-⟩:=(M.o wr t.o).get aa;subst bF;obtain⟨g,b4,ab,cm,cn,-,-⟩:=aU q.o.row aa;rw[aF]at ab;injection ab with ab _ bE;subst ab bE;obtain⟨ay,az,aA,aC⟩:=q.o.cell;have U:(r.take p).length=p:=by rw[eQ];omega
      have an:=ag (Bg (some (ae b off)) (r.take p) p y wr.drew U ((M.o wr.drew t.o.drew).take p) aa);have cy:(0:Int)<=(p:Int)/\(p:Int)<=(r.length:Int):=aa;have cx:(p:Int)<=(y:Int):=aa;have bd:((p:Int)!=0)=true:=by simp only[bne_iff_ne,ne_eq];omega
      go_upto_region 14 with fail
      simp only[bx,O,bd]
      go_cut []from 52 to 61 (fun w=>∃F,Hid (mU w base Cb (au g K P) F l.length wk)/\Hid (Nw W.heap.size [] F)/\Hid (qQ w F)/\Hid (F.map (·.2.1)=List.replicate k []++r.take p::T)/\Hid (ax (fun k=>k=Cb\/x=some k) w3 w))
      case first=>
       have bh:aK 208 #[.slice (some (ae b off)) p y] wr.drew fun e w6=>∃u j z,e=.returned (.slice u p j)/\Hid (p<=j)/\Hid (∀a,u=some a->W.heap.size<=a.block)/\Hid (LC w6 u (r.take p))/\Hid (mU w6 base Cb (au g K P) ch1 l.length wk)/\Hid (Below wr.drew.heap.size wr.drew w6)/\w6.cell? (ae Cb 1)=some (au g K P)/\w6.cell? (ae g k)=some z/\w6.frozen? (ae g k)=false:=by
        refine an.o.mono ?_;rintro e w6 ⟨cE,rfl,bb,a8⟩;obtain⟨u,j,rfl,cf,a7,bM⟩:=LC.aI bb;have am:=q.o.drew.below a8;obtain⟨cb,a4,cc,cd⟩:=am.cell;have J:=am.row;rw[aF]at J;have aQ:=J.cellAt k aa;have a3:=J.frozenAt k;rw[cz (show k<(ch1.map dR).length by simp;omega)]at aQ;rw[U]at a7;exact⟨u,j,_,by rw[U],a7,(fun a bN=>by have d:=(bb.lt a.block (by rw[bN];rfl)).1;have G:=t.o.size;have ce:=s.o.size;simp at d;omega),bM,am,a8,a4,aQ,a3⟩
       clear an;have ct:(k:Int)<(K:Int):=aa
       go_region_with (go_at_call 208;with_reducible refine bh.mono ?_;rintro e w6 ⟨u,j,z,rfl,bl,bi,bw,aV,aT,a4,aQ,a3⟩)
       all_goals go_wp2_with fail
       all_goals go_meet
       all_goals
        have bV:Value.slice u p j=dR (u,r.take p,j):=by unfold dR;simp only;rw[U]
        rw[bV];have bT:x=some g:=aw.o;exact⟨ch1.set k (u,r.take p,j),aV.o.Lx aF.symm k _,L.o.set bi.o,F3 (D.o.kept (W':=w6) fun b b5 fr i=>aS (W:=wr.drew) aT.o i) (aV.o.eX (W':=w6.setCell (ae g k) (dR (u,r.take p,j))) rfl ((ax.refl _ w6).set (a:=(ae g k)) _ (.inl (.inr rfl)))) bw.o (by show(r.take p).length<=j;rw[U];exact bl.o),V.o _ rfl,(((t.o.drew).below aT.o).set (a:=(ae g k)) _ (.inl (.inr bT)))⟩
      case rest=>
       obtain⟨F,bj,br,bu,bq,aX⟩:=hcut;clear an q D A V t ay az aA aC bO bd X
       go_wp2_with (refine qw F5 (M.o _ aX.o) bf p r.length al (aB _) rfl _ _ _ rfl rfl rfl rfl ?_;intro bz be;simp only[jk]at be)
       go_roundw
       case rel=>exact⟨k,bz,r.drop p,y-p,F,r.take p::T,rfl,(by rw[mK]),aa,(by rw[mK];omega),(by rw[ap.o];exact aq),(fun W' R=>be W' (M.o W' R)),bj,br,bu,bq,ar,aX⟩
       case measure=>simp[intOf]
     .have B:l.length.testBit k=false:=aP i;rw[B]at O;simp only[jN,qM]at O;have I:=ak.2 B;rw[<-X.o]at I;have al:¬2^k<=r.length:=by have:=pU l.length (pR (n:=k) (show 0<2 by decide));omega
      have ar:Hid (setC K l=setC k r++[]::T):=by
       have d:=Y.o;rw[setC,aM al,dX]at d;exact d
      have V:Hid (ch1.map (·.2.1)=List.replicate k []++[]::T):=by
       have d:=A.o;rw[ru,dX]at d;exact d
      have aq:=ag I;clear ak i B I;generalize S:2^k=p at*;have ap:=ag S;clear S
      go_wp2_with fail
      go_roundw
      case rel=>exact⟨k,ad,r,y,ch1,[]::T,rfl,rfl,aa,bf,by rw[ap.o];exact aq,M,q,L,D,V,ar,t⟩
      case measure=>simp[intOf]
  case rest=>
   obtain⟨ch1,q,L,D,A,t⟩:=hcut;obtain⟨ay,az,aA,aC⟩:=q.o.cell;have ca:=q.o.frozen 3;have bk:=ag (q.o.Qt (wrap64 (wk+(l.length:Int))));have bv:Hid (qQ (wc.setCell (ae Cb 3) (.int .i64 (wrap64 (wk+(l.length:Int))))) ch1):=D.o.kept (q.o.eX rfl ((ax.refl _ wc).set (a:=(ae Cb 3)) _ (.inl (.inl rfl))));have bm:Hid (ax (fun k=>k=Cb) W (wc.setCell (ae Cb 3) (.int .i64 (wrap64 (wk+(l.length:Int)))))):=by
    have cA:=s.o.size;have d:ax (fun k=>k=Cb\/W.heap.size<=k) W wc:=(s.o.mono (fun k h=>.inl h)).trans (t.o.mono (fun k h=>h.imp id (fun h9=>by
     rcases E.o with Q|⟨b,Q,cg⟩
     .rw[aw.o,Q]at h9;cases h9
     .rw[aw.o,Q]at h9;injection h9 with h9;omega)))
    have G:ax (fun k=>k=Cb) W wc:=⟨d.os,d.tape,d.output,d.size,fun k R bY=>d.block k R (fun h9=>by rcases h9 with h9|h9;exact bY h9;omega)⟩;exact G.set (a:=(ae Cb 3)) _ (.inl rfl)
   clear s t a1 f aZ;go_wp2;go_ret;exact⟨_,ch1,_,rfl,bk.o,bv.o,by rw[bK];exact A.o,E.o,bm.o,L.o,rfl⟩
end
section
open Go.RowKit Go.Sort Go.Shelf Go.Lib Go.Maps
open Go.ChangeMaps (setBlock)
def Bk (w:World) (F:Nat->Prop) (tb n0:Nat) (l:List Pt):Prop:=∃lo m0 m1 m2 m3 m4 hi bx cn hp lw ob tl sv dn,l7 w F tb n0 l lo m0 m1 m2 m3 m4 hi bx cn hp lw ob tl sv dn
section
variable {w w':World} {F S:Nat->Prop} {tb n0:Nat} {l:List Pt}
theorem Bk.kept (h:Bk w F tb n0 l) (K:ax S w w') (hS:∀k,F k->¬S k):Bk w' F tb n0 l:=by
 have⟨lo,m0,m1,m2,m3,m4,hi,bx,cn,hp,lw,ob,tl,sv,dn,h⟩:=h;exact⟨lo,m0,m1,m2,m3,m4,hi,bx,cn,hp,lw,ob,tl,sv,dn,h.kept K hS⟩
theorem Bk.below (h:Bk w F tb n0 l) (a:Below w.heap.size w w'):Bk w' F tb n0 l:=h.kept (S:=fun _=>False) ((ax.refl _ _).below a) fun _ _ h=>h
theorem Bk.lt (h:Bk w F tb n0 l):∀k,F k->k<w.heap.size:=by
 have⟨lo,m0,m1,m2,m3,m4,hi,bx,cn,hp,lw,ob,tl,sv,dn,h⟩:=h;exact h.fin.2.2
theorem TG (a:Option Addr) (c:Nat) (l:List Pt) (w:World) (f:bQ bX 3 w a l) (g:l.length<=20000) (i:H9 l) (hu:(ids l).Nodup):
  aK 52 #[.slice a l.length c] w fun e w'=>∃tb,e=.returned (aj tb)/\Bk w' (fun k=>w.heap.size<=k/\k<w'.heap.size) tb l.length l/\Below w.heap.size w w':=by
 refine(Px a c l w f g i (by unfold lH;exact rH hu)).mono ?_;rintro e w' ⟨tb,m0,m1,m2,m3,m4,bx,cn,hp,lw,ob,tl,d,h,b⟩;exact⟨tb,d,⟨_,_,_,_,_,_,_,_,_,_,_,_,_,_,_,h⟩,b⟩
theorem UH (h:Bk w F tb n0 l) (p:Pt) (d:p∈l):
  aK 53 #[aj tb,iT p.1 p.2.1 p.2.2] w fun e w'=>e=.returned (.bool true)/\Bk w' (fun k=>F k\/w.heap.size<=k/\k<w'.heap.size) tb n0 (l.filter fun q=>decide (q≠p))/\ax F w w':=by
 have⟨lo,m0,m1,m2,m3,m4,hi,bx,cn,hp,lw,ob,tl,sv,dn,h⟩:=h;refine(Rp h p.1 p.2.1 p.2.2 d).mono ?_;rintro e w' ⟨c,f,g,a,b⟩;exact⟨c,⟨_,_,_,_,_,_,_,_,_,_,_,_,_,_,_,a⟩,b⟩
theorem VF (h:Bk w F tb n0 l):
  aK 63 #[aj tb] w fun e w'=>∃a c,e=.returned (.slice a (bM l).length c)/\(bM l).length<=c/\bQ bX 3 w' a (bM l)/\Bk w' (fun k=>F k\/w.heap.size<=k/\k<w'.heap.size) tb n0 l/\ax F w w':=by
 have⟨lo,m0,m1,m2,m3,m4,hi,bx,cn,hp,lw,ob,tl,sv,dn,h⟩:=h;refine(TD h).mono ?_;rintro e w' ⟨a,c,g,f,i,j,b,d⟩;exact⟨a,c,g,f,i,⟨_,_,_,_,_,_,_,_,_,_,_,_,_,_,_,b⟩,d⟩
end
def vTr:Option Nat->Value
 |none=>.pointer none
 |some b=>aj b
def lG (w:World) (mb:Nat) (A:List eO):Prop:=∃D,w.ownsMap prog 29 (plainElem prog 3) mb A.length D/\su D A
theorem lG.fit {w:World} {mb n:Nat} {A:List eO} {D:DataW Unit} (h:w.ownsMap prog 29 (plainElem prog 3) mb n D) (a:su D A):lG w mb A:=by
 refine⟨D,?_,a⟩;rw[<-a.2.1];obtain⟨c,b,d,F,e,rfl⟩:=h;exact⟨c,b,d,F,by simp[Maps.size,length_sorted],rfl⟩
theorem lG.lt {w:World} {mb:Nat} {A:List eO} (h:lG w mb A):mb<w.heap.size:=by
 obtain⟨D,⟨c,b,a,-⟩,-⟩:=h;exact(aZ.1 a).1
theorem lG.same {w w':World} {mb:Nat} {A:List eO} (h:lG w mb A) (e:w'.heap[mb]? =w.heap[mb]?):lG w' mb A:=by
 obtain⟨D,⟨b,a,d,r⟩,c⟩:=h;exact⟨D,⟨b,a,e.trans d,r⟩,c⟩
theorem lG.look {w:World} {mb:Nat} {A:List eO} (h:lG w mb A) {p:Pt} (hp:zi p) (s:(A.map (·.1)).Nodup):
  (∃c∈A,c.1=p/\(Instr.lookup 188 (.map (some mb)) (iT p.1 p.2.1 p.2.2) true).run prog w=.ok (.tuple #[af c.2,.bool true]) w)\/
  (p∉A.map (·.1)/\(Instr.lookup 188 (.map (some mb)) (iT p.1 p.2.1 p.2.2) true).run prog w=.ok (.tuple #[af 0,.bool false]) w):=by
 have⟨D,n,j⟩:=h;have⟨v,r,d,f⟩:=n.look_ok (Keyed.of_law Gh) underlying188 (zeroValue3 w) (rO underlying3 ai) (yw hp);rw[(j.2.2 p hp).2]at d;rw[(j.2.2 p hp).1]at f;have l:∀x:Int,plainElem (H:=Unit) prog 3 v=some (DataW.lit (.int .i64 x),r)->v=.int .i64 x:=fun x q=>by
  obtain⟨a,rfl,e,t⟩:=plainElem_int_inv underlying3 q;simp at e;rw[e.1]
 cases b:A.find? fun c=>decide (c.1=p)with
 |none=>
  right;rw[b]at f;have m:=List.find?_eq_none.1 b;have i:(A.any fun c=>decide (c.1=p))=false:=Em.2 m;rw[i,l 0 f]at d;exact⟨fun o=>by
   have⟨c,g,e⟩:=dh.1 o;exact m c g (aP e),d⟩
 |some c=>
  left;rw[b]at f;have g:=List.mem_of_find?_eq_some b;have k:c.1=p:=by simpa using List.find?_some b
  have i:(A.any fun c=>decide (c.1=p))=true:=List.any_eq_true.2 ⟨c,g,aP k⟩;rw[i,l c.2 f]at d;exact⟨c,g,k,d⟩
theorem lG.size {w:World} {mb:Nat} {A:List eO} (h:lG w mb A):(Builtin.len_ #[188] 3 #[.map (some mb)]).run prog w=.ok (.int .i64 A.length) w:=by
 have⟨D,a,b⟩:=h;rw[a.len underlying188 3,b.2.1]
abbrev yV:Value:=.func (.func 52) #[] #[]
abbrev DK:Value:=.func (.func 53) #[] #[]
structure iX (w:World) (X:Nat->Prop) (Hb Cb mb:Nat) (cv tv av lv:Value) (ch:List zT) (T:List (Option Nat)) (al:List Bool) (eH:List Int) (A:List eO) (N wk:Int):Prop where
 blk:w.heap[Hb]? =some (Obj.cells #[yV,DK,aj Cb,tv,av,lv,.map (some mb)] 190 (0,0))
 fI:mU w 0 Cb cv ch N wk
 rows:qQ w ch
 jA:w.ownsRow 0 106 1 tv T.length (T.map vTr)
 dL:w.ownsRow 0 4 1 av al.length (al.map Value.bool)
 nk:w.ownsRow 0 3 1 lv eH.length (eH.map (Value.int .i64))
 map:lG w mb A
 jh:X Hb/\X Cb/\X mb/\(∀k,cv.ownBlock=some k->X k)/\(∀k,tv.ownBlock=some k->X k)/\(∀k,av.ownBlock=some k->X k)/\(∀k,lv.ownBlock=some k->X k)
 Qh:∀h∈ch,h.2.1≠[]->∀a,h.1=some a->X a.block
structure nN (w:World) (F:Nat->Nat->Prop) (X:Nat->Prop) (CB:List (List eO)) (T:List (Option Nat)) (al:List Bool):Prop where
 tr:∀(i:Nat) (h:i<CB.length),CB[i]≠[]->∃tb n0,T[i]? =some (some tb)/\n0<=CB[i].length/\Bk w (F i) tb n0 (sJ al CB[i])
 off:∀i k,F i k->¬X k
 ap:∀i j k,F i k->F j k->i=j
 lt:∀i k,F i k->k<w.heap.size
section
variable {w w':World} {X S:Nat->Prop} {F:Nat->Nat->Prop} {Hb Cb mb:Nat} {cv tv av lv:Value} {ch:List zT} {T:List (Option Nat)} {al:List Bool} {eH:List Int} {A:List eO} {N wk:Int} {CB:List (List eO)}
theorem iX.kept (h:iX w X Hb Cb mb cv tv av lv ch T al eH A N wk) (K:ax S w w') (hS:∀k,X k->¬S k):iX w' X Hb Cb mb cv tv av lv ch T al eH A N wk:=
 ⟨bz K h.blk (hS _ h.jh.1),⟨aX _,h.fI.ds,bz K h.fI.blk (hS _ h.jh.2.1),aT h.fI.row K fun a e=>hS _ (h.jh.2.2.2.1 a e)⟩,h.rows.NN h.Qh K hS,aT h.jA K fun a e=>hS _ (h.jh.2.2.2.2.1 a e),aT h.dL K fun a e=>hS _ (h.jh.2.2.2.2.2.1 a e),aT h.nk K fun a e=>hS _ (h.jh.2.2.2.2.2.2 a e),h.map.same (K.block _ h.map.lt (hS _ h.jh.2.2.1)),h.jh,h.Qh⟩
theorem iX.below (h:iX w X Hb Cb mb cv tv av lv ch T al eH A N wk) (a:Below w.heap.size w w'):iX w' X Hb Cb mb cv tv av lv ch T al eH A N wk:=h.kept (S:=fun _=>False) ((ax.refl _ _).below a) fun _ _ h=>h
theorem iX.cell (h:iX w X Hb Cb mb cv tv av lv ch T al eH A N wk):w.cell? (ae Hb 0)=some yV/\w.cell? (ae Hb 1)=some DK/\w.cell? (ae Hb 2)=some (aj Cb)/\w.cell? (ae Hb 3)=some tv/\w.cell? (ae Hb 4)=some av/\w.cell? (ae Hb 5)=some lv/\w.cell? (ae Hb 6)=some (.map (some mb)):=by
 have:=h.blk;refine⟨?_,?_,?_,?_,?_,?_,?_⟩<;>simp[World.cell?,this]
theorem iX.frozen (h:iX w X Hb Cb mb cv tv av lv ch T al eH A N wk) (j:Nat):w.frozen? (ae Hb j)=false:=by
 have:=h.blk;simp[World.frozen?,this]
theorem iX.lt (h:iX w X Hb Cb mb cv tv av lv ch T al eH A N wk):Hb<w.heap.size:=(aZ.1 h.blk).1
theorem nN.kept (h:nN w F X CB T al) (K:ax S w w') (hS:∀i k,F i k->¬S k):nN w' F X CB T al:=
 ⟨fun i hi e=>by
  have⟨tb,n0,a,b,c⟩:=h.tr i hi e;exact⟨tb,n0,a,b,c.kept K (hS i)⟩,h.off,h.ap,fun i k d=>bR (h.lt i k d) K.size⟩
theorem xu (h:iX w X Hb Cb mb cv tv av lv ch T al eH A N wk):aK 134 #[aj Hb] w fun e w'=>e=.returned (.bool false)/\w'=w:=by
 obtain⟨-,-,a,-⟩:=h.cell;go_enter func134,ntmps134;go_wp2;go_ret;exact⟨rfl,rfl⟩
theorem TH (h:iX w X Hb Cb mb cv tv av lv ch T al eH A N wk):aK 60 #[aj Hb] w fun e w'=>e=.returned (af A.length)/\w'=w:=by
 have a:=ag (xu h);obtain⟨-,-,-,-,-,-,b⟩:=h.cell;have c:=h.map.size;go_enter func60,ntmps60
 go_wp2_with (go_at_call 134;refine a.o.mono ?_;rintro e w1 ⟨rfl,rfl⟩)
 go_ret;exact⟨rfl,rfl⟩
theorem MS (h:iX w X Hb Cb mb cv tv av lv ch T al eH A N wk):aK 87 #[aj Hb] w (fV w (af N)):=by
 have b:=ag (xu h);have a:=ag (NP h.fI);obtain⟨-,-,d,-⟩:=h.cell;go_enter func87,ntmps87
 go_wp2_with (first|(go_at_call 134;refine b.o.mono ?_;rintro e w1 ⟨rfl,rfl⟩)|(go_at_call 139;refine a.o.mono ?_;rintro e w1 ⟨rfl,c⟩))
 go_ret;exact⟨rfl,c⟩
end
end
section
open Go.RowKit Go.Sort Go.Shelf Go.Lib Go.Maps
theorem dI {W:World} {base:Nat} {e:TypeId} {sz n:Nat} {v:Value} {xs:List Value} (d:W.ownsRow base e sz v n xs) {k:Nat} (b:v.ownBlock=some k):∃a,W.heap[k]? =some (Obj.cells a e (0,0)):=by
 rcases d.2 with⟨rfl,_⟩|⟨g,f,a,rfl,_,c,_⟩
 .cases b
 .simp only[Value.ownBlock,ji]at b;subst b;exact⟨a,c⟩
theorem Ck {P:Program} {ops:Array Oper} {o:Oper} {a:Act} {K:Act->World->Prop} {Q:Exit->Act->World->Prop} {E0:Prop} {f:FuncId} {w:World} {vals:Array Value} {R:Ending->World->Prop} (j:∀args w,(callFunc f args).run P w=.ok (.enter f args) w) (k:o.guard=none) (c:Operand) (args:Array Operand) (q:Array TypeId) (m:o.op=.call {callee:=.value c,args:=args,argTypes:=q}) (g:a.eval c=.func (.func f) #[] #[]) (d:vals=(args.toList.map a.eval).toArray)
  (C:Calls P f vals w R) (h:∀e w',R e w'->∃v,e=.returned v/\K (a.put o.dst v) w'):
  if Region.wanted o (yielded ops a.tmps)=true then Oper.wp P o a w K Q else E0:=by
 have p:Region.wanted o (yielded ops a.tmps)=true:=by simp[Region.wanted,k]
 rw[aN p];unfold Oper.wp;have b:args.map a.eval=vals:=by rw[d,<-Eo]
 have i:(execOp a.eval o).run P w=.ok (.enter f vals) w:=by
  simp[execOp,m,resolve,invoke,b,g,Deferred.ofValue,j]
 rw[i,Oper.upon_enter];refine C.mono fun e w' n=>?_;obtain⟨v,rfl,l⟩:=h e w' n;exact l
abbrev qW:TypeId:=190
abbrev vS (Cb mb:Nat) (tv av lv:Value):Array Value:=#[yV,DK,aj Cb,tv,av,lv,.map (some mb)]
section
variable {w w' w6:World} {X S:Nat->Prop} {F:Nat->Nat->Prop} {Hb Cb mb:Nat} {cv tv av lv:Value} {ch:List zT} {T:List (Option Nat)} {al:List Bool} {eH:List Int} {A:List eO} {N wk:Int} {CB:List (List eO)}
theorem iX.more {X':Nat->Prop} (h:iX w X Hb Cb mb cv tv av lv ch T al eH A N wk) (b:∀k,X k->X' k):iX w X' Hb Cb mb cv tv av lv ch T al eH A N wk:=
 ⟨h.blk,h.fI,h.rows,h.jA,h.dL,h.nk,h.map,⟨b _ h.jh.1,b _ h.jh.2.1,b _ h.jh.2.2.1,fun k e=>b _ (h.jh.2.2.2.1 k e),fun k e=>b _ (h.jh.2.2.2.2.1 k e),fun k e=>b _ (h.jh.2.2.2.2.2.1 k e),fun k e=>b _ (h.jh.2.2.2.2.2.2 k e)⟩,fun x d c a e=>b _ (h.Qh x d c a e)⟩
theorem iX.ty (h:iX w X Hb Cb mb cv tv av lv ch T al eH A N wk) {t:TypeId} (K:ax S w w') (hS:∀k,S k->k=Hb\/∃cs fr,w.heap[k]? =some (Obj.cells cs t fr)):
  (t≠278/\t≠213->mU w' 0 Cb cv ch N wk)/\(t≠187->qQ w' ch)/\(t≠106->w'.ownsRow 0 106 1 tv T.length (T.map vTr))/\
  (t≠4->w'.ownsRow 0 4 1 av al.length (al.map Value.bool))/\(t≠3->w'.ownsRow 0 3 1 lv eH.length (eH.map (Value.int .i64)))/\lG w' mb A:=by
 have l:∀{b:Nat} {cs:Array Value} {d:TypeId} {fr:Nat×Nat},w.heap[b]? =some (Obj.cells cs d fr)->d≠qW->t≠d->w'.heap[b]? =w.heap[b]? :=fun{b cs d fr} a f g=>K.block b (aZ.1 a).1 fun j=>by
  rcases hS b j with rfl|⟨o,r,i⟩
  .exact dV a h.blk f rfl
  .exact dV i a g rfl
 have c:∀{e:TypeId} {sz n:Nat} {v:Value} {xs:List Value},w.ownsRow 0 e sz v n xs->e≠qW->t≠e->w'.ownsRow 0 e sz v n xs:=fun{e sz n v xs} m f g=>aY m fun y q=>by
  have⟨p,s⟩:=dI m q;exact l s f g
 refine⟨fun ht=>⟨aX _,h.fI.ds,(l h.fI.blk ai ht.1).trans h.fI.blk,c h.fI.row ai ht.2⟩,fun ht=>h.rows.kept fun b p fr a=>l a ai ht,fun ht=>c h.jA ai ht,fun ht=>c h.dL ai ht,fun ht=>c h.nk ai ht,h.map.same ?_⟩;refine K.block _ h.map.lt fun j=>?_;obtain⟨D,⟨x,u,a,-⟩,-⟩:=h.map;rcases hS mb j with e|⟨o,r,i⟩
 .rw[e,h.blk]at a;cases a
 .rw[i]at a;cases a
theorem iX.zz (h:iX w X Hb Cb mb cv tv av lv ch T al eH A N wk) {e:TypeId} {n:Nat} {v:Value} {xs:List Value} (d:w.ownsRow 0 e 1 v n xs) (c:e≠qW):v.ownBlock≠some Hb:=fun a=>by
 have⟨f,b⟩:=dI d a;exact dV h.blk b (fun h=>c h.symm) rfl
theorem iX.UI (h:iX w X Hb Cb mb cv tv av lv ch T al eH A N wk) {v a:Value} (f:v.ownBlock≠some Hb) (d:a.ownBlock=v.ownBlock\/∃b,a.ownBlock=some b/\w.heap.size<=b):a.ownBlock≠some Hb:=by
 rcases d with e|⟨b,e,d⟩
 .rw[e];exact f
 .rw[e];intro c;injection c with c;have:=h.lt;omega
theorem iX.R5 (h:iX w X Hb Cb mb cv tv av lv ch T al eH A N wk) (c:w.grownBy w6 tv.ownBlock) {tv':Value} {T':List (Option Nat)} (m:w6.ownsRow 0 106 1 tv' T'.length (T'.map vTr)) (l:tv'.ownBlock≠some Hb):
  iX (w6.setCell (ae Hb 3) tv') (fun k=>X k\/tv'.ownBlock=some k) Hb Cb mb cv tv' av lv ch T' al eH A N wk:=by
 have b:=h.zz h.jA ai;have d:ax (fun k=>k=Hb\/tv.ownBlock=some k) w (w6.setCell (ae Hb 3) tv'):=(((ax.refl (fun k=>k=Hb\/tv.ownBlock=some k) w).grown c fun k e=>.inl (.inr e)).set _ (.inl (.inl rfl)));obtain⟨t1,t2,-,t4,t5,t6⟩:=h.ty (t:=106) d (fun k j=>j.imp id fun e=>by obtain⟨o,i⟩:=dI h.jA e;exact⟨_,_,i⟩);have g:w6.heap[Hb]? =some (Obj.cells (vS Cb mb tv av lv) qW (0,0)):=(c.block Hb h.lt fun e=>b e.symm).trans h.blk;refine⟨?_,t1 ai,t2 ai,aY m fun p e=>aC fun f=>l (by rw[e,<-f]),t4 ai,t5 ai,t6,⟨.inl h.jh.1,.inl h.jh.2.1,.inl h.jh.2.2.1,fun k e=>.inl (h.jh.2.2.2.1 k e),fun k e=>.inr e,fun k e=>.inl (h.jh.2.2.2.2.2.1 k e),fun k e=>.inl (h.jh.2.2.2.2.2.2 k e)⟩,fun x n b a e=>.inl (h.Qh x n b a e)⟩;rw[dC w6 Hb 3 _ _ _ g];rfl
theorem iX.UJ {g n c:Nat} (h:iX w X Hb Cb mb cv (au g n c) av lv ch T al eH A N wk) (j:Nat) (x:Option Nat):iX (w.setCell (ae g j) (vTr x)) X Hb Cb mb cv (au g n c) av lv ch (T.set j x) al eH A N wk:=by
 have i:=h.zz h.jA ai;have b:ax (fun k=>k=g) w (w.setCell (ae g j) (vTr x)):=(ax.refl (fun k=>k=g) w).set _ (.inl rfl);obtain⟨t1,t2,-,t4,t5,t6⟩:=h.ty (t:=106) b (fun k f=>.inr (by obtain⟨l,d⟩:=dI h.jA (k:=k) (by rw[f];rfl);exact⟨_,_,d⟩));obtain rfl:n=T.length:=by
  rcases h.jA.2 with⟨e,_⟩|⟨_,_,_,e,_⟩
  .cases e
  .injection e with _ e
 refine⟨(aC (a:=(ae g j)) fun e:g=Hb=>i (by show some g=_;rw[e])).trans h.blk,t1 ai,t2 ai,?_,t4 ai,t5 ai,t6,h.jh,h.Qh⟩;rw[kK,kI];exact(h.jA.stored j (vTr x)).1
theorem iX.VG {g n c:Nat} (h:iX w X Hb Cb mb cv tv av (au g n c) ch T al eH A N wk) (j:Nat) (x:Int):iX (w.setCell (ae g j) (.int .i64 x)) X Hb Cb mb cv tv av (au g n c) ch T al (eH.set j x) A N wk:=by
 have i:=h.zz h.nk ai;have b:ax (fun k=>k=g) w (w.setCell (ae g j) (.int .i64 x)):=(ax.refl (fun k=>k=g) w).set _ (.inl rfl);obtain⟨t1,t2,t3,t4,-,t6⟩:=h.ty (t:=3) b (fun k f=>.inr (by obtain⟨l,d⟩:=dI h.nk (k:=k) (by rw[f];rfl);exact⟨_,_,d⟩));obtain rfl:n=eH.length:=by
  rcases h.nk.2 with⟨e,_⟩|⟨_,_,_,e,_⟩
  .cases e
  .injection e with _ e
 refine⟨(aC (a:=(ae g j)) fun e:g=Hb=>i (by show some g=_;rw[e])).trans h.blk,t1 ai,t2 ai,t3 ai,t4 ai,?_,t6,h.jh,h.Qh⟩;rw[kK,kI];exact(h.nk.stored j (.int .i64 x)).1
theorem iX.VH {g n c:Nat} (h:iX w X Hb Cb mb cv tv (au g n c) lv ch T al eH A N wk) (j:Nat) (x:Bool):iX (w.setCell (ae g j) (.bool x)) X Hb Cb mb cv tv (au g n c) lv ch T (al.set j x) eH A N wk:=by
 have i:=h.zz h.dL ai;have b:ax (fun k=>k=g) w (w.setCell (ae g j) (.bool x)):=(ax.refl (fun k=>k=g) w).set _ (.inl rfl);obtain⟨t1,t2,t3,-,t5,t6⟩:=h.ty (t:=4) b (fun k f=>.inr (by obtain⟨l,d⟩:=dI h.dL (k:=k) (by rw[f];rfl);exact⟨_,_,d⟩));obtain rfl:n=al.length:=by
  rcases h.dL.2 with⟨e,_⟩|⟨_,_,_,e,_⟩
  .cases e
  .injection e with _ e
 refine⟨(aC (a:=(ae g j)) fun e:g=Hb=>i (by show some g=_;rw[e])).trans h.blk,t1 ai,t2 ai,t3 ai,?_,t5 ai,t6,h.jh,h.Qh⟩;rw[kK,kI];exact(h.dL.stored j (.bool x)).1
theorem iX.PD {f:Value} {g:List zT} {p u:Int} (h:iX w X Hb Cb mb cv tv av lv ch T al eH A N wk) (K:ax (fun k=>k=Cb\/cv.ownBlock=some k) w w') (d:mU w' 0 Cb f g p u) (i:qQ w' g) (B:Nw w.heap.size ch g) (c:f.ownBlock=cv.ownBlock\/f.ownBlock=none\/∃b,f.ownBlock=some b/\w.heap.size<=b):
  iX w' (fun k=>X k\/w.heap.size<=k/\(f.ownBlock=some k\/∃h∈g,h.2.1≠[]/\∃a,h.1=some a/\a.block=k)) Hb Cb mb f tv av lv g T al eH A p u:=by
 have t:∀{b:Nat} {cs:Array Value} {j:TypeId} {fr:Nat×Nat},w.heap[b]? =some (Obj.cells cs j fr)->j≠278->j≠213->w'.heap[b]? =w.heap[b]? :=fun{b cs j fr} c l m=>K.block b (aZ.1 c).1 fun h9=>by
  rcases h9 with rfl|h9
  .exact dV c h.fI.blk l rfl
  .obtain⟨q,d⟩:=dI h.fI.row h9;exact dV c d m rfl
 have o:∀{e:TypeId} {sz n:Nat} {v:Value} {xs:List Value},w.ownsRow 0 e sz v n xs->e≠278->e≠213->w'.ownsRow 0 e sz v n xs:=fun{e sz n v xs} i l m=>aY i fun F y=>by
  have⟨q,d⟩:=dI i y;exact t d l m
 refine⟨(t h.blk ai ai).trans h.blk,d,i,o h.jA ai ai,o h.dL ai ai,o h.nk ai ai,h.map.same ?_,⟨.inl h.jh.1,.inl h.jh.2.1,.inl h.jh.2.2.1,fun k e=>?_,fun k e=>.inl (h.jh.2.2.2.2.1 k e),fun k e=>.inl (h.jh.2.2.2.2.2.1 k e),fun k e=>.inl (h.jh.2.2.2.2.2.2 k e)⟩,fun x s r a e=>?_⟩
 .refine K.block _ h.map.lt fun h9=>?_;obtain⟨D,⟨E,C,c,-⟩,-⟩:=h.map;rcases h9 with e|e
  .rw[e,h.fI.blk]at c;cases c
  .obtain⟨q,d⟩:=dI h.fI.row e;rw[d]at c;cases c
 .rcases c with e1|e1|⟨b,e1,c⟩
  .exact .inl (h.jh.2.2.2.1 k (by rw[<-e1];exact e))
  .rw[e1]at e;cases e
  .have:b=k:=by rw[e1]at e;injection e
   exact .inr ⟨aa,.inl e⟩
 .rcases B x s with z|h9
  .exact .inl (h.Qh x z r a e)
  .exact .inr ⟨h9 a e,.inr ⟨x,s,r,a,e,rfl⟩⟩
end
end
section
open Go.RowKit Go.Sort Go.Shelf Go.Lib Go.Maps
attribute [local irreducible] wpQuiet
attribute [local go_sem] Oper.eF
theorem UK:eD prog 111 106 1 8:=.mk' (z:=.pointer none) underlying111 aO rfl ai
theorem JN:gF 52:=di func52 aO rfl
def Cm (Hb:Nat) (w:World):Nat:=match w.cell? (ae Hb 3)with|some (.slice _ n _)=>n|_=>0
section
variable {w w' w6:World} {X S:Nat->Prop} {F:Nat->Nat->Prop} {Hb Cb mb:Nat} {cv tv av lv:Value} {ch:List zT} {T:List (Option Nat)} {al:List Bool} {eH:List Int} {A:List eO} {N wk:Int}
theorem iX.Cm (h:iX w X Hb Cb mb cv tv av lv ch T al eH A N wk):Cm Hb w=T.length:=by
 obtain⟨a,b,rfl,-,-,-⟩:=Rd.aI (enc:=vTr) h.jA;unfold Proofs.YtkjdbndekceffaaGreat.Cm;rw[h.cell.2.2.2.1]
def zK (T:List (Option Nat)) (i tb:Nat):List (Option Nat):=(T++List.replicate (i+1-T.length) none).set i (some tb)
def UL (w:World) (X:Nat->Prop) (Hb Cb mb:Nat) (cv tv av lv:Value) (ch:List zT) (T:List (Option Nat)) (al:List Bool) (eH:List Int) (A:List eO) (N wk:Int) (l:List eO) (i:Nat) (e:Ending) (w':World):Prop:=
 e=.returned (.tuple #[])/\∃(tv':Value) (tb m:Nat) (Fn:Nat->Prop),iX w' (fun k=>X k\/w.heap.size<=k/\k<m) Hb Cb mb cv tv' av lv ch (zK T i tb) al (il eH l i) A N wk/\Bk w' Fn tb (sJ al l).length (sJ al l)/\(∀k,Fn k->m<=k)/\(w.heap.size<=m/\m<=w'.heap.size)/\
  (tv'.ownBlock=tv.ownBlock\/∃b,tv'.ownBlock=some b/\w.heap.size<=b)/\ax (fun k=>k=Hb\/tv.ownBlock=some k\/lv.ownBlock=some k) w w'
theorem KX (h:iX w X Hb Cb mb cv tv av lv ch T al eH A N wk) (a:Option Addr) (c:Nat) (l:List eO) (i:Nat) (bs:LC w a l) (hi:i<=20) (cP:T.length<=100) (c8:l.length<=5000) (bw:∀c∈l,∃k:Nat,c.2=k/\k<al.length) (bv:eH.length=al.length) (cR:al.length<=10000) (bF:H9 (sJ al l)) (hu:(ids (sJ al l)).Nodup) (bn:∀k,X k->k<w.heap.size):
  aK 136 #[aj Hb,af i,.slice a l.length c] w (UL w X Hb Cb mb cv tv av lv ch T al eH A N wk l i):=by
 have H:=ag h;have bY:Hid (∀W',ax (fun k=>k=Hb\/tv.ownBlock=some k\/lv.ownBlock=some k) w W'->bQ lu 4 W' a l):=fun W' K=>(bs.kept fun b bj fr hb=>K.block b (aZ.1 hb).1 (by
  rintro(rfl|e|e)
  .exact dV hb h.blk ai rfl
  .obtain⟨bj,aW⟩:=dI h.jA e;exact dV hb aW ai rfl
  .obtain⟨bj,aW⟩:=dI h.nk e;exact dV hb aW ai rfl)).Nu
 have bR:=ag bw;have b3:=ag bF;have b2:=ag hu;have a9:=ag bv;have b4:=ag bn;have cD:Hid (∀m,tv.ownBlock=some m->m<w.heap.size):=fun m e=>(h.jA.lt m e).2;have bP:Hid (∀m,lv.ownBlock=some m->m<w.heap.size):=fun m e=>(h.nk.lt m e).2;clear h bs bw bF hu bv bn;go_enter func136,ntmps136
 go_upto_block 0 with fail
 go_cut []from 10 to 26 (fun D=>∃tv':Value,Hid (iX D (fun b=>X b\/w.heap.size<=b/\b<D.heap.size) Hb Cb mb cv tv' av lv ch (T++List.replicate (i+1-T.length) none) al eH A N wk)/\Hid (tv'.ownBlock=tv.ownBlock\/∃b,tv'.ownBlock=some b/\w.heap.size<=b)/\Hid (ax (fun b=>b=Hb\/tv.ownBlock=some b) w D))
 case first=>
  go_wp2_with fail
  go_loopw [] (fun wr=>∃(k:Nat) (tv':Value),k<=i+1-T.length/\Hid (iX wr (fun b=>X b\/w.heap.size<=b/\b<wr.heap.size) Hb Cb mb cv tv' av lv ch (T++List.replicate k none) al eH A N wk)/\Hid (tv'.ownBlock=tv.ownBlock\/∃b,tv'.ownBlock=some b/\w.heap.size<=b)/\Hid (ax (fun b=>b=Hb\/tv.ownBlock=some b) w wr)) (fun wr=>i+1-Cm Hb wr)
  case atStart=>exact⟨0,tv,aX _,ag (by rw[List.replicate_zero,iJ];exact H.o.more fun k hk=>.inl hk),.inl rfl,ax.refl _ _⟩
  case round=>
   obtain⟨k,tv',hk,d,E,B⟩:=hrel;obtain⟨cu,tc,F,-,db,-⟩:=Rd.aI (enc:=vTr) d.o.jA;obtain⟨-,-,-,aw,-⟩:=d.o.cell;have cA:=ag d.o.Cm;have bu:(T++List.replicate k (none:Option Nat)).length=T.length+k:=aA;by_cases c6:T.length+k<=i
   .have bC:=d.o.jA;have bN:Hid (∀z,wr.grownBy z tv'.ownBlock->z.heap[Hb]? =some (Obj.cells (vS Cb mb tv' av lv) qW (0,0))):=fun z u=>(u.block Hb d.o.lt fun e=>d.o.zz d.o.jA ai e.symm).trans d.o.blk;have cE:=B.o.size;rw[bu]at bC F;subst F
    go_wp2_with (at_builtin;go_loud (refine bW UK 0 bC [.pointer none] rfl (by simp[Value.oneCell']) rfl _ _ rfl rfl _ rfl dD aa (aX _) ?_;intro cw z ac u aV;obtain⟨M,az,rfl,cT,cU,cV,cW⟩:=aU ac aa;have bG:=bN.o z u;have df:z.cell? (ae Hb 3)=some (.slice cu (T.length+k) tc):=(aG bG);have dg:z.frozen? (ae Hb 3)=false:=(aG bG)))
    have cp:z.ownsRow 0 106 1 (au M (T.length+k+1) az) (T++List.replicate (k+1) none).length ((T++List.replicate (k+1) none).map vTr):=by
     rw[bS,iw,<-rJ,ru,<-dX,bL (l₁:=T++_)];exact ac
    have aS:=fQ aV;have br:=d.o.R5 u cp (d.o.UI (d.o.zz d.o.jA ai) aS);have c0:=u.size;have bo:Value.ownBlock (au M (T.length+k+1) az)=tv.ownBlock\/∃b,Value.ownBlock (au M (T.length+k+1) az)=some b/\w.heap.size<=b:=by
     rcases aS with f|⟨b,f,aR⟩
     .rw[f];exact E.o
     .exact .inr ⟨b,f,aa⟩
    have a5:=ag br;have a4:=ag bo;clear aS aV br bo;go_roundw
    case rel=>
     refine⟨k+1,_,aa,a5.o.more ?_,a4,(B.o.grown u ?_).set (a:=(ae Hb 3)) _ (.inl (.inl rfl))⟩
     .rintro b ((hb|hb)|hb)
      .exact .inl hb
      .exact .inr ⟨hb.1,aD⟩
      .have aE:M=b:=by injection hb
       rcases a4.o with f|⟨be,f,aR⟩
       .exact .inl (H.o.jh.2.2.2.2.1 b (f.symm.trans hb))
       .have cL:M=be:=by injection f
        exact .inr ⟨aa,aD⟩
     .intro b hb;rcases E.o with f|⟨be,f,aR⟩
      .exact .inl (.inr (f.symm.trans hb))
      .rw[f]at hb;injection hb with hb;exact .inr aa
    case measure=>
     rw[a5.o.Cm,d.o.Cm];simp;omega
   .have e:k=i+1-T.length:=aa;subst e;have cK:¬((T.length+(i+1-T.length):Nat):Int)<=(i:Int):=aa;rw[bu]at F;subst F
    go_wp2_with fail
    go_meet;exact⟨_,d,E,B⟩
 case rest=>
  obtain⟨tv',d,E,B⟩:=hcut;obtain⟨w1,ce⟩:∃w1:World,w1=wc:=⟨_,rfl⟩;subst ce;have cQ:(T++List.replicate (i+1-T.length) (none:Option Nat)).length=max T.length (i+1):=aD;have b1:Hid (∀tb,(T++List.replicate (i+1-T.length) (none:Option Nat)).set i (some tb)=zK T i tb):=fun tb=>rfl;generalize T++List.replicate (i+1-T.length) (none:Option Nat)=ab at*;have cq:=B.o.size
  go_upto_block 2 with fail
  go_cut [7,9,29]from 30 to 54 (fun pv cM an D=>∃y:Value,y=pv/\Hid (iX D (fun b=>X b\/w.heap.size<=b/\b<w1.heap.size) Hb Cb mb cv tv' av lv ch ab al (il eH l i) A N wk)/\Hid (D.ownsRow w1.heap.size 29 3 y (sJ al l).length ((sJ al l).flatMap bX))/\Hid (ax (fun b=>lv.ownBlock=some b) w1 D))
  case first=>
   go_wp2_with fail
   go_loopw [29,7] (fun an pv wr=>∃(j:Nat) (y:Value),an=.int .i64 j/\y=pv/\j<=l.length/\Hid (iX wr (fun b=>X b\/w.heap.size<=b/\b<w1.heap.size) Hb Cb mb cv tv' av lv ch ab al (il eH (l.take j) i) A N wk)/\Hid (wr.ownsRow w1.heap.size 29 3 y (sJ al (l.take j)).length ((sJ al (l.take j)).flatMap bX))/\Hid (ax (fun b=>lv.ownBlock=some b) w1 wr)) (fun an _ _=>l.length-(intOf an).toNat)
   case atStart=>exact⟨0,_,rfl,rfl,aX _,d,dw _ _ _ _,ax.refl _ _⟩
   case round=>
    obtain⟨j,y,rfl,rfl,c2,I,HO,U⟩:=hrel;have da:=U.o.size;by_cases C:j<l.length
    .obtain⟨cG,dd,ca,cS,P⟩:=(bY.o wr ((B.o.mono fun k h=>h.imp id .inl).trans (U.o.mono fun k h=>.inr (.inr h)))).get aa;have a0:=P j C 0 aa;have x1:=P j C 1 aa;have x2:=P j C 2 aa;have a1:=P j C 3 aa;simp only[lu,fw,fD,dx]at a0 x1 x2 a1;obtain⟨q,am,bx⟩:=bR.o l[j] (bB C);have cn:(il eH (l.take j) i).length=al.length:=by rw[mY];exact a9.o
     obtain⟨gl,lc,bk,-,cY,-,-⟩:=aU I.o.nk aa;rw[cn]at bk;obtain⟨cH,b5,cb,-,-,bz⟩:=Rd.aI I.o.dL;obtain⟨lb,lo,cc,c5,bt⟩:=bz.get aa;have a2:=bt q bx;have L:Hid (sJ al (l.take (j+1))=sJ al (l.take j)++(if al[q]=true then[(l[j]).1]else[])):=by
      show _=_;unfold sJ;rw[gW C,kX,bL];congr 1;unfold cO;rw[lY,am];simp only[ib,cz bx];cases al[q]<;>simp
     have bb:Hid (il eH (l.take (j+1)) i=(il eH (l.take j) i).set q i):=by
      show _=_;rw[gW C,Gu,am,ib]
     have c4:(sJ al (l.take j)).length<=5000:=by
      unfold sJ;rw[bT];have O:=gT (cO al) (l.take j);have aP:(l.take j).length<=l.length:=by rw[eQ];omega
      omega
     rw[am]at a1;clear P bt bz am;generalize sJ al (l.take j)=cF at*;generalize cm:il eH (l.take j) i=bd at*;have co:bd.length=al.length:=by rw[<-cm,mY];exact a9.o
     generalize al[q]=bf at*;generalize l[j]=x at*;obtain⟨⟨s,t,r⟩,de⟩:=x;simp only at a0 x1 x2 L;subst ca cc cb bk;have cZ:=bP.o gl rfl;have c9:(q:Int)<(al.length:Int):=aa;have c3:(j:Int)<(l.length:Int):=aa;have S:Below wr.heap.size wr (wr.alloc (.cells #[af s,af t,ay r,af q] 187)):=(aJ _ _).alloc (aB _) _;have aY:(wr.alloc (.cells #[af s,af t,ay r,af q] 187)).heap[wr.heap.size]? =some (.cells #[af s,af t,ay r,af q] 187 (0,0)):=cB _ _;have cs:(wr.alloc (.cells #[af s,af t,ay r,af q] 187)).heap.size=wr.heap.size+1:=aA;have a3:=(S.cell (p:=(ae lb (lo+q))) (gY wr _ a2)).trans a2;have J:=ag (I.o.below S);have ar:=ag (HO.o.alloc (.cells #[af s,af t,ay r,af q] 187));have a7:Hid (ax (fun b=>Value.ownBlock (au gl al.length lc)=some b) w1 (wr.alloc (.cells #[af s,af t,ay r,af q] 187))):=U.o.below S
     go_wp2_with fail
     generalize(wr.alloc (.cells #[af s,af t,ay r,af q] 187))=n at*;clear a0 x1 x2 a1 a2 S;obtain⟨-,-,-,-,-,bi,-⟩:=J.o.cell;have cj:=ah bi;have aL:=ah (w:=n) (ad:=(ae wr.heap.size 3)) (v:=.int .i64 q) (fC aY);have Q:=J.o.nk;rw[co]at Q;have bK:=Q.cellAt q aa;rw[cz (by rw[bT];omega)]at bK;have cg:=Q.frozenAt q;have cC:=ag (Q.lt gl rfl).2;clear Q;refine ak (fun W=>∃p:aQ n,W=p.W) [7,8] [(0,false),(1,false),(2,false),(3,true),(4,false),(5,true),(6,false)] ⟨⟨_,(aJ _ _).drew⟩,rfl⟩ 2 ?_;refine aH [7,8] ?_;clear cj aL bi;have bc:=ag (J.o.VG q i);have ao:(n.setCell (ae gl q) (.int .i64 i)).heap[wr.heap.size]? =some (.cells #[af s,af t,ay r,af q] 187 (0,0)):=(aC (a:=(ae gl q)) (fun e:gl=wr.heap.size=>aa)).trans aY;have Z:ax (fun k=>k=gl) n (n.setCell (ae gl q) (.int .i64 i)):=(ax.refl (fun k=>k=gl) n).set _ (.inl rfl);have cx:(n.setCell (ae gl q) (.int .i64 i)).cell? (ae lb (lo+q))=some (.bool bf):=(dz (Z.block lb (gY _ _ a3) (by
      intro e;obtain⟨cI,O⟩:=dI J.o.dL (k:=lb) rfl;obtain⟨cJ,aP⟩:=dI J.o.nk (k:=gl) rfl;exact dV O aP ai e))).trans a3
     have bV:=ag (aT ar.o Z (fun m e (h:m=gl)=>by have:=(ar.o.lt m e).1;omega));have V:Hid (ax (fun b=>Value.ownBlock (au gl al.length lc)=some b) w1 (n.setCell (ae gl q) (.int .i64 i))):=a7.o.trans (Z.mono fun k h=>by rw[h];rfl);have ct:(n.setCell (ae gl q) (.int .i64 i)).heap.size=n.heap.size:=aA;have b0:Hid (w1.heap.size<=(n.setCell (ae gl q) (.int .i64 i)).heap.size):=by show _<=_;omega
     clear aY Z a3 ct cs
     go_wp2_with fail
     generalize n.setCell (ae gl q) (.int .i64 i)=g at*;clear bK cg ar a7;obtain⟨-,-,-,-,b6,-,-⟩:=bc.o.cell;have b7:g.cell? (ae wr.heap.size 0)=some (af s):=fC ao;have b8:g.cell? (ae wr.heap.size 1)=some (af t):=fC ao;have b9:g.cell? (ae wr.heap.size 2)=some (ay r):=fC ao;have aE:g.cell? (ae wr.heap.size 3)=some (af q):=fC ao;have ba:=ag (bc.o.below ((aJ _ _).drew).drew);have a8:Hid (ax (fun b=>Value.ownBlock (au gl al.length lc)=some b) w1 g.drew.drew):=V.o.drew.drew;have Y:=ag ((bV.o.bq 1).bq 1);have cl:=ah (w:=g.drew) b6;have ck:=ah (w:=g.drew) aE;have cr:=ah (w:=g.drew) cx;refine ak (fun W=>∃p:aQ g.drew,W=p.W) [] [(0,false),(1,false),(2,false),(3,true),(4,false),(5,true),(6,false),(7,true)] ⟨⟨_,(aJ _ _).drew⟩,rfl⟩ 0 ?_;refine lq aO ?_;clear cl ck cr;cases bf
     .rw[aM ai,iJ]at L;go_wp2;go_roundw
      case rel=>exact⟨j+1,_,by go_num,rfl,aa,by rw[bb.o];exact ba,by rw[L.o];exact Y,a8⟩
      case measure=>exact dU
     .rw[aN rfl]at L;have f0:g.drew.drew.cell? (ae wr.heap.size 0)=some (af s):=b7;have f1:g.drew.drew.cell? (ae wr.heap.size 1)=some (af t):=b8;have f2:g.drew.drew.cell? (ae wr.heap.size 2)=some (ay r):=b9
      go_wp2_with (at_builtin;go_loud (refine bW OL w1.heap.size Y.o [.int .i64 s,.int .i64 t,.int .u32 r] rfl (by simp[Value.oneCell']) rfl _ _ rfl rfl _ (by first|rfl|(show au g.heap.size 1 1=_;simp)) dD aa b0.o ?_;intro cw w6 ac u aV))
      have bO:Hid (ax (fun b=>Value.ownBlock (au gl al.length lc)=some b) w1 w6):=a8.o.grown u (fun b hb=>.inr (Y.o.lt b hb).1);have bZ:Hid (iX w6 (fun b=>X b\/w.heap.size<=b/\b<w1.heap.size) Hb Cb mb cv tv' (.slice (some (ae lb lo)) al.length b5) (au gl al.length lc) ch ab al (bd.set q i) A N wk):=ba.o.kept ((ax.refl (fun b=>y.ownBlock=some b) g.drew.drew).grown u fun b hb=>.inl hb) (fun k hk e=>by
       have O:=(Y.o.lt k e).1;rcases hk with hk|hk
       .have:=b4.o k hk;omega
       .omega)
      go_roundw
      case rel=>exact⟨j+1,_,by go_num,rfl,aa,by rw[bb.o];exact bZ,by rw[L.o,bS,gZ];exact ac,bO⟩
      case measure=>exact dU
    .obtain rfl:j=l.length:=aa;rw[jk]at I HO;have cX:¬(l.length:Int)<(l.length:Int):=aa
     go_wp2_with fail
     go_meet;exact⟨_,rfl,I,HO,U⟩
  case rest=>
   obtain⟨y,rfl,ap,bU,a6⟩:=hcut;obtain⟨w2,cf⟩:∃w2:World,w2=wc:=⟨_,rfl⟩;subst cf;have bE:=a6.o.size;obtain⟨G,tc,F,-,c1,-,-⟩:=aU ap.o.jA aa;subst F;obtain⟨bH,bI,cd,-,-,bA⟩:=bQ.aI bg ai bU.o;subst cd;have c7:(sJ al l).length<=5000:=by
    unfold sJ;rw[bT];have O:=gT (cO al) l;omega
   have CB:=ag (fun p:aQ w2=>TG bH bI (sJ al l) p.W (bA.below p.h) aa b3.o b2.o);obtain⟨bh,-,-,aw,-,-,-⟩:=ap.o.cell;have ci:=ah bh;have aL:=ah aw;clear bh aw;have dc:(i:Int)<(ab.length:Int):=aa
   go_wp2_with fail
   refine ak (fun W=>∃p:aQ w2,W=p.W) [11,12] [(0,false),(1,false),(2,false),(3,true),(4,false),(5,false),(6,false),(7,false),(8,true),(9,false)] ⟨⟨_,(aJ _ _).drew⟩,rfl⟩ 3 ?_;clear ci aL;refine aF 10 rfl fun K bm=>?_;refine Ck JN rfl _ _ _ rfl rfl (vals:=#[.slice bH (sJ al l).length bI]) rfl (CB.o ⟨_,(aJ _ _).drew⟩) ?_;rintro e bJ ⟨tb,rfl,bl,bp⟩;have R:Below w2.heap.size w2 bJ:=(aJ _ _).drew.trans bp;refine⟨_,rfl,?_⟩;refine bm _ _ (fun _ _=>⟨⟨_,R⟩,rfl⟩) ?_;clear bm K;have bM:=ag bl;have aq:=ag (ap.o.below R);have cy:=aq.o.jA.cellAt i aa;rw[cz (by rw[bT];omega)]at cy;have cN:=aq.o.jA.frozenAt i;have V:=ag R;clear bl bp R CB bA;refine aH [11,12] ?_;go_wp2
   go_end0
   have hP:=aq.o.UJ i (some tb);rw[b1.o]at hP;refine⟨rfl,_,tb,w1.heap.size,_,hP,bM.o.kept ((ax.refl (fun k=>k=G) bJ).set (a:=(ae G i)) _ (.inl rfl)) (fun k hk h=>?_),fun k hk=>bD bE hk.1,⟨cq,by have:=V.o.size;simp;omega⟩,E.o,?_⟩
   .have O:=(d.o.jA.lt G rfl).2;have aP:=bD bE hk.1;omega
   .refine(((B.o.mono fun k h=>h.imp id .inl).trans (a6.o.mono fun k h=>.inr (.inr h))).below V.o).set (a:=(ae G i)) _ ?_;rcases E.o with f|⟨b,f,aR⟩
    .exact .inl (.inr (.inl f.symm))
    .have aE:G=b:=by injection f
     exact .inr (show w.heap.size<=G by omega)
end
end
section
open Go.RowKit Go.Sort Go.Shelf Go.Lib Go.Maps
attribute [local irreducible] wpQuiet
def dS (CB:List (List eO)) (m:Nat):List Nat:=((List.range CB.length).drop m).reverse.filter fun i=>!(CB.getD i []).isEmpty
theorem MU (CB:List (List eO)):dS CB CB.length=[]:=by
 unfold dS;rw[ou aA];rfl
theorem JO (CB:List (List eO)) (k:Nat) (h:k<CB.length):dS CB k=dS CB (k+1)++if CB[k]=[]then[]else[k]:=by
 unfold dS;rw[jJ (aP h),Aw,kX];congr 1;rw[xK,lY,ja,cz h,gG];by_cases e:CB[k]=[]
 .simp[e]
 .simp[e]
theorem yX (CB:List (List eO)) (m:Nat):(dS CB m).length<=CB.length:=by
 unfold dS;refine bD (gT _ _) ?_;simp
def R6 (T:List (Option Nat)) (k:Nat):Value:=vTr (T.getD k none)
section
variable {w w':World} {X S:Nat->Prop} {F:Nat->Nat->Prop} {Hb Cb mb:Nat} {cv tv av lv:Value} {ch:List zT} {T:List (Option Nat)} {al:List Bool} {eH:List Int} {A:List eO} {N wk:Int}
theorem PE (h:iX w X Hb Cb mb cv tv av lv ch T al eH A N wk) (E:nX (ch.map (·.2.1)) al A N) (ab:∀(i:Nat) (hi:i<(ch.map (·.2.1)).length),(ch.map (·.2.1))[i]≠[]->i<T.length):
  aK 61 #[aj Hb] w fun e w'=>∃v,e=.returned v/\w'.ownsRow w.heap.size 106 1 v (dS (ch.map (·.2.1)) 0).length ((dS (ch.map (·.2.1)) 0).map (R6 T))/\Below w.heap.size w w':=by
 have H:=ag h;have P:=ag E;have M:=ag ab;have aw:ch.length<=13:=by have:=E.levels.1;simpa using this
 have I:=ag (xu h);have G:=ag (yl h.fI aa);obtain⟨-,-,S,-⟩:=h.cell;have O:Hid (∀m,(dS (ch.map (·.2.1)) m).length<=13):=fun m=>by have:=yX (ch.map (·.2.1)) m;rw[bT]at this;show _<=_;omega
 go_enter func61,ntmps61
 go_wp2_with (first|(go_at_call 134;refine I.o.mono ?_;rintro e w1 ⟨rfl,x⟩;have W:=x.symm;clear x;subst W)|(go_at_call 141;refine G.o.mono ?_;rintro e w2 ⟨rfl,C⟩;have K:=ag C;clear C))
 go_loopw [4,3] (fun q ao wr=>∃(m:Nat) (lw:Value),q=.int .i64 ((m:Int)-1)/\lw=ao/\m<=ch.length/\Hid (wr.ownsRow w.heap.size 106 1 lw (dS (ch.map (·.2.1)) m).length ((dS (ch.map (·.2.1)) m).map (R6 T)))/\Hid (Below w.heap.size w wr)) (fun q _ _=>(intOf q+1).toNat)
 case atStart=>exact⟨ch.length,_,by go_num,rfl,aB _,by have:=MU (ch.map (·.2.1));rw[bT]at this;rw[this];exact dw _ _ _ _,K⟩
 case round=>
  obtain⟨m,lw,rfl,rfl,aE,HO,c⟩:=hrel;rcases qL m with zG|zG
  .subst zG
   go_wp2_with fail
   go_ret;exact⟨_,rfl,HO.o,c.o⟩
  .obtain⟨k,rfl⟩:∃k,m=k+1:=⟨m-1,aa⟩;have ad:(((k+1:Nat):Int)-1)=(k:Int):=aa;rw[ad];have aC:(0:Int)<=(k:Int):=aa;have n:k<(ch.map (·.2.1)).length:=by rw[bT];omega
   have a:=ag (JO (ch.map (·.2.1)) k n);have B:=M.o k n;rw[fM]at a B;have af:k<ch.length:=aa;have aH:ch[k].2.1.length<=5000:=by
    have:=P.o.few k n;rwa [fM]at this
   have d:=ag (H.o.below c.o);have CB:=ag (ym d.o.fI d.o.rows aa k af aa);obtain⟨-,-,S,-⟩:=d.o.cell;generalize ch[k].2.1=lk at*;have aD:=O.o (k+1);generalize dS (ch.map (·.2.1)) (k+1)=L at*;obtain⟨F,Y⟩:∃F:World,F=wr:=⟨_,rfl⟩;subst Y;have ak:=c.o.size
   go_wp2_with fail
   refine CB.o.mono ?_;rintro e w3 ⟨aL,rfl,ai,f⟩;have aG:=f.size;have r:Hid (Below w.heap.size w w3):=c.o.trans (f.mono ak);have l:=ag (az HO.o f);obtain⟨aq,ar,V,-,-,-⟩:=LC.aI ai;subst V;have j:=ag (d.o.below f);by_cases g:lk=[]
   .subst g;rw[aN rfl,iJ]at a;have am:¬(0:Int)<((([]:List eO).length:Nat):Int):=aA;go_wp2;go_roundw
    case rel=>exact⟨k,_,by go_num,rfl,aa,by rw[a.o];exact l,r⟩
    case measure=>simp[intOf]
   .rw[aM g]at a;have D:=B g;have aF:0<lk.length:=xI.2 g;have am:(0:Int)<((lk.length:Nat):Int):=aa;obtain⟨Z,tc,u,-,ax,-,-⟩:=aU j.o.jA aa;have ap:w3.cell? (ae Z k)=some (R6 T k):=by
     have y:=j.o.jA;rw[u]at y;have z:=y.cellAt k aa;rw[iy,cz D]at z;unfold R6;rw[ja,cz D];exact z
    have Q:Hid (∃p,R6 T k=.pointer p):=by
     unfold R6 vTr;split<;>exact⟨_,rfl⟩
    have⟨an,t⟩:=Q.o;have J:=ag t;obtain⟨-,-,-,U,-⟩:=j.o.cell;rw[u]at U;rw[t]at ap;have ay:(k:Int)<(T.length:Int):=aa;have s:Hid (w.heap.size<=w3.heap.size):=by show _<=_;omega
    go_wp2_with (at_builtin;refine bW UK w.heap.size l.o [.pointer an] rfl (by simp[Value.oneCell']) rfl _ _ rfl rfl _ rfl dD aa s.o ?_;intro aJ w6 ah ac au)
    have R:Below w.heap.size w w6:=r.o.grown ac (by have:=s.o;omega) (fun b e=>(l.o.lt b e).1);go_roundw
    case rel=>exact⟨k,_,by go_num,rfl,aa,by rw[a.o,bS,bL,jK,pJ,J.o];exact ah,R⟩
    case measure=>simp[intOf]
end
end
section
open Go.RowKit Go.Sort Go.Shelf Go.Lib Go.Maps
attribute [local irreducible] wpQuiet
attribute [local go_sem] Oper.eF
def kG (al:List Bool) (CB:List (List eO)) (m:Nat):List eO:=((CB.drop m).reverse.flatten).filter (cO al)
theorem MV (al:List Bool) (CB:List (List eO)):kG al CB CB.length=[]:=by unfold kG;rw[List.drop_length];rfl
theorem JP (al:List Bool) (CB:List (List eO)) (k:Nat) (h:k<CB.length):kG al CB k=kG al CB (k+1)++CB[k].filter (cO al):=by
 unfold kG;rw[jJ h,Aw,kW,kX];simp
theorem DL (al:List Bool) (CB:List (List eO)) (m:Nat):(kG al CB m).length<=CB.flatten.length:=by
 unfold kG;refine bD (gT _ _) ?_;rw[((uM (CB.drop m)).flatten).length_eq];have a:(CB.take m).flatten++(CB.drop m).flatten=CB.flatten:=by rw[<-kW,jB]
 have:=congrArg List.length a;rw[bS]at this;omega
section
variable {w w':World} {X S:Nat->Prop} {F:Nat->Nat->Prop} {Hb Cb mb:Nat} {cv tv av lv:Value} {ch:List zT} {T:List (Option Nat)} {al:List Bool} {eH:List Int} {A:List eO} {N wk:Int} {A':List eO}
theorem PG (h:iX w X Hb Cb mb cv tv av lv ch T al eH A N wk) (V:nX (ch.map (·.2.1)) al A' N):
  aK 213 #[aj Hb] w fun e w'=>∃v,e=.returned v/\w'.ownsRow w.heap.size 187 4 v (kG al (ch.map (·.2.1)) 0).length ((kG al (ch.map (·.2.1)) 0).flatMap lu)/\Below w.heap.size w w':=by
 have H:=ag h;have ax:=ag V;have U:=V.levels;have bx:ch.length<=13:=by have:=U.1;simpa using this
 have aY:Hid (∀m,(kG al (ch.map (·.2.1)) m).length<=5000):=fun m=>bD (DL _ _ _) U.2.1;have aU:=ag (yl h.fI aa);obtain⟨-,-,aC,-⟩:=h.cell;clear h V U;go_enter func213,ntmps213
 go_wp2_with (go_at_call 141;refine aU.o.mono ?_;rintro e w2 ⟨rfl,aF⟩;have aV:=ag aF;clear aF)
 go_loopw [4,3] (fun W ab wr=>∃(m:Nat) (lw:Value),W=.int .i64 ((m:Int)-1)/\lw=ab/\m<=ch.length/\Hid (wr.ownsRow w.heap.size 187 4 lw (kG al (ch.map (·.2.1)) m).length ((kG al (ch.map (·.2.1)) m).flatMap lu))/\Hid (Below w.heap.size w wr)) (fun W _ _=>(intOf W+1).toNat)
 case atStart=>exact⟨ch.length,_,by go_num,rfl,aB _,by have:=MV al (ch.map (·.2.1));rw[bT]at this;rw[this];exact dw _ _ _ _,aV⟩
 case round=>
  obtain⟨m,lw,rfl,rfl,bJ,HO,u⟩:=hrel;rcases qL m with zG|zG
  .subst zG;have bz:¬(0:Int)<=((0:Nat):Int)-1:=aa
   go_wp2_with fail
   go_ret;exact⟨_,rfl,HO.o,u.o⟩
  .obtain⟨k,rfl⟩:∃k,m=k+1:=⟨m-1,aa⟩;have bi:(((k+1:Nat):Int)-1)=(k:Int):=aa;rw[bi];have bG:(0:Int)<=(k:Int):=aa;have aH:k<(ch.map (·.2.1)).length:=by rw[bT];omega
   have aw:=ag (JP al (ch.map (·.2.1)) k aH);have aL:k<ch.length:=aa;have bM:ch[k].2.1.length<=5000:=by
    have:=ax.o.few k aH;rwa [fM]at this
   have aZ:Hid (∀x∈ch[k].2.1,∃k:Nat,x.2=(k:Int)/\k<al.length):=fun x bl=>ax.o.num (pz.2 ⟨_,dh.2 ⟨_,bB aL,rfl⟩,bl⟩);have O:=ag (H.o.below u.o);have CB:=ag (ym O.o.fI O.o.rows aa k aL aa);obtain⟨-,-,aC,-⟩:=O.o.cell;rw[fM]at aw;generalize ch[k].2.1=lk at*;have bI:=aY.o (k+1);generalize kG al (ch.map (·.2.1)) (k+1)=L at*;obtain⟨F,bc⟩:∃F:World,F=wr:=⟨_,rfl⟩;subst bc;have bk:=u.o.size
   go_wp2_with fail
   refine CB.o.mono ?_;rintro e w3 ⟨bo,rfl,B,z⟩;have bL:=z.size;have aW:Hid (Below w.heap.size w w3):=u.o.trans (z.mono bk);have a0:=ag (az HO.o z);have a3:Hid (∀a,bo.ownBlock=some a->lw.ownBlock≠some a):=fun a e i=>by
    have aE:=(B.lt a e).1;have bd:=(HO.o.lt a i).2;omega
   have a1:=ag B;obtain⟨aA,s,S,-,-,-⟩:=LC.aI B;subst S;clear B z CB aC
   go_wp2_with fail
   go_loopw [24,3] (fun Y ab wr=>∃(j:Nat) (D:Value),Y=.int .i64 j/\D=ab/\j<=lk.length/\Hid (wr.ownsRow w.heap.size 187 4 D (L++(lk.take j).filter (cO al)).length ((L++(lk.take j).filter (cO al)).flatMap lu))/\Hid (wr.ownsRow F.heap.size 187 4 (.slice aA lk.length s) lk.length (lk.flatMap lu))/\Hid (∀a,Value.ownBlock (.slice aA lk.length s)=some a->D.ownBlock≠some a)/\Hid (Below w.heap.size w wr)) (fun Y _ _=>lk.length-(intOf Y).toNat)
   case atStart=>exact⟨0,_,rfl,rfl,aX _,by rw[xS,Eu,iJ];exact a0,a1,a3,aW⟩
   case round=>
    obtain⟨j,D,rfl,rfl,bC,I,ap,K,y⟩:=hrel;have aT:=y.o.size;by_cases n:j<lk.length
    .obtain⟨bt,bu,R,-,-,aS⟩:=LC.aI ap.o;injection R with R _ S;subst R S;obtain⟨Q,Z,a9,bw,t⟩:=aS.Nu.get aa;have ac:=t j n 0 aa;have x1:=t j n 1 aa;have x2:=t j n 2 aa;have ad:=t j n 3 aa;simp only[lu,fw,fD,dx]at ac x1 x2 ad;obtain⟨q,C,aQ⟩:=aZ.o lk[j] (bB n);have P:=H.o.below y.o;obtain⟨bN,lc,bb,-,-,aR⟩:=Rd.aI P.dL;obtain⟨lb,lo,ba,bH,aP⟩:=aR.get aa;have ak:=aP q aQ;obtain⟨-,-,-,-,am,-⟩:=P.cell;have r:Hid (L++(lk.take (j+1)).filter (cO al)=(L++(lk.take j).filter (cO al))++(if al[q]=true then[lk[j]]else[])):=by
      show _=_;rw[gW n,kX,<-dX];congr 1;unfold cO;rw[lY,C];simp only[ib,cz aQ];cases al[q]<;>simp
     have bF:(L++(lk.take j).filter (cO al)).length<=5000+5000:=by
      rw[bS];have aE:=gT (cO al) (lk.take j);have bd:(lk.take j).length<=lk.length:=by rw[eQ];omega
      omega
     rw[C]at ad;have M:=ag C;clear t aP C aR aS P;generalize L++(lk.take j).filter (cO al)=bs at*;generalize al[q]=a6 at*;generalize lk[j]=x at*;obtain⟨⟨f,g,d⟩,bO⟩:=x;simp only at ac x1 x2 r M;obtain rfl:=M.o;clear M;subst a9 ba bb;have bE:(j:Int)<(lk.length:Int):=aa;have bK:(q:Int)<(al.length:Int):=aa;have G:Below wr.heap.size wr (wr.alloc (.cells #[af f,af g,ay d,af q] 187)):=(aJ _ _).alloc (aB _) _;have E:(wr.alloc (.cells #[af f,af g,ay d,af q] 187)).heap[wr.heap.size]? =some (.cells #[af f,af g,ay d,af q] 187 (0,0)):=cB _ _;have ao:Hid (w.heap.size<=(wr.alloc (.cells #[af f,af g,ay d,af q] 187)).heap.size):=by show _<=_;simp;omega
     have bp:=(G.cell (p:=(ae lb (lo+q))) (gY wr _ ak)).trans ak;have br:=(G.cell (p:=(ae Hb 4)) (gY wr _ am)).trans am;have aq:=ag (I.o.alloc (.cells #[af f,af g,ay d,af q] 187));have J:=ag (ap.o.alloc (.cells #[af f,af g,ay d,af q] 187));have an:=ag (y.o.alloc aT (.cells #[af f,af g,ay d,af q] 187));clear aT
     go_wp2_with fail
     generalize(wr.alloc (.cells #[af f,af g,ay d,af q] 187))=c at*;clear ac x1 x2 ad G ak am;have a7:c.cell? (ae wr.heap.size 0)=some (af f):=fC E;have a8:c.cell? (ae wr.heap.size 1)=some (af g):=fC E;have i:c.cell? (ae wr.heap.size 2)=some (ay d):=fC E;have aD:c.cell? (ae wr.heap.size 3)=some (af q):=fC E;have bf:=ah (w:=c) br;have be:=ah (w:=c) aD;have bm:=ah (w:=c) bp;refine kM [(0,false),(1,false),(2,false),(3,true),(4,false),(5,true),(6,false),(7,true)] 0 ?_;refine lq aO ?_;clear bf be bm;cases a6
     .rw[aM ai,iJ]at r;go_wp2;go_roundw
      case rel=>exact⟨j+1,_,by go_num,rfl,aa,by rw[r.o];exact aq.o.bq 1,J.o.bq 1,K,an.o.drew⟩
      case measure=>exact dU
     .rw[aN rfl]at r;have ar:=ag (aq.o.bq 1);have f0:c.drew.cell? (ae wr.heap.size 0)=some (af f):=a7;have f1:c.drew.cell? (ae wr.heap.size 1)=some (af g):=a8;have f2:c.drew.cell? (ae wr.heap.size 2)=some (ay d):=i;have f3:c.drew.cell? (ae wr.heap.size 3)=some (af q):=aD
      go_wp2_with (at_builtin;go_loud (refine bW F5 w.heap.size ar.o [.int .i64 f,.int .i64 g,.int .u32 d,.int .i64 q] rfl (by simp[Value.oneCell']) rfl _ _ rfl rfl _ (by first|rfl|(show au c.heap.size 1 1=_;simp)) dD aa ao.o ?_;intro bn w6 bj aG bh))
      have a5:Below w.heap.size w w6:=an.o.drew.grown aG (by have:=ao.o;exact this) (fun b e=>(ar.o.lt b e).1);have a2:Hid (w6.ownsRow F.heap.size 187 4 (.slice (some (ae Q Z)) lk.length s) lk.length (lk.flatMap lu)):=by
       refine(J.o.bq 1).kept aG ?_;rcases Ih (Value.ownBlock (.slice (some (ae Q Z)) lk.length s))with l|⟨a,l⟩
       .exact .inl l
       .exact .inr (fun e=>K.o a l (e.symm.trans l))
      have a4:Hid (∀a,Value.ownBlock (.slice (some (ae Q Z)) lk.length s)=some a->bn.ownBlock≠some a):=fun a e i=>by
       have aE:=(J.o.lt a e).2;rcases fQ bh with l|⟨b,l,bg⟩
       .exact K.o a e (l.symm.trans i)
       .rw[l]at i;injection i with i;have bv:c.heap.size<=b:=bg;omega
      go_roundw
      case rel=>exact⟨j+1,_,by go_num,rfl,aa,by rw[r.o,bS,gZ];exact bj,a2,a4,a5⟩
      case measure=>exact dU
    .obtain rfl:j=lk.length:=aa;rw[jk,<-aw.o]at I;have bA:¬(lk.length:Int)<(lk.length:Int):=aa;go_wp2;go_roundw
     case rel=>exact⟨k,_,by go_num,rfl,aa,I,y⟩
     case measure=>simp[intOf]
end
end
end Go.Proofs.YtkjdbndekceffaaGreat
