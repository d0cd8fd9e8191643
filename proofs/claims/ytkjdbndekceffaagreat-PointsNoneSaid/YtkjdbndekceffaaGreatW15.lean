/- Made small by a program. -/
import Derived.Test.YtkjdbndekceffaaGreatW14
set_option linter.unusedSimpArgs false
set_option linter.unusedVariables false
set_option maxRecDepth 100000
set_option maxHeartbeats 16000000
namespace Go.Proofs.YtkjdbndekceffaaGreat
open Tryz
section
open Go.RowKit Go.Sort Go.Shelf Go.Lib Go.Maps
attribute [local irreducible] wpQuiet
attribute [local go_sem] Oper.fo
section
variable {w:World} {F:Nat->Prop} {tb n0:Nat} {l:List Pt} {lo m0 m1 m2 m3 m4 hi bx cn hp lw ob:Nat} {tl sv:Value} {dn:Bool}
theorem lG.top (h:lG w F tb n0 l lo m0 m1 m2 m3 m4 hi bx cn hp lw ob tl sv dn):hi<=w.heap.size:=by
 have a:=h.ord;have b:=h.RZ;have c:=h.fin.2.2 (hi-1) (h.fin.1 (hi-1) (by have:=h.row;omega) (by omega));omega
theorem Qj (h:lG w F tb n0 l lo m0 m1 m2 m3 m4 hi bx cn hp lw ob tl sv dn) (x y d:Int) (N:(x,y,d)∈l):
  aH 53 #[ah tb,iD x y d] w fun e w'=>e=.returned (.bool true)/\
   ∃bI bL,lG w' (fun k=>F k\/w.heap.size<=k/\k<w'.heap.size) tb n0 (l.filter fun q=>decide (q≠(x,y,d))) lo m0 m1 m2 m3 m4 hi bx cn hp lw bI bL sv false/\au F w w':=by
 have b1:=h.top;have bZ:l.length<=20000:=bJ h.box.En.1 h.box.En.2;have bD:∃g c,tl=aj g l.length c:=by
  rcases h.row.2 with⟨rfl,bE⟩|⟨g,bp,bV,rfl,_⟩
  .have bW:=h.row.1;have:l=[]:=gJ bE;rw[this]at N;cases N
  .exact⟨g,bp,rfl⟩
 obtain⟨g,c,rfl⟩:=bD;have bX:=h.QQ g rfl;have bY:=(h.row.lt g rfl).1;obtain⟨bA,bC⟩:=h.RZ;obtain⟨b2,b3,b4,b5,b6⟩:=h.ord;have bv:=Ed h.und.1;have H:=af h;have C:=af N;have M:au (fun _=>False) w (w.alloc (.cells #[aa x,aa y,ai d] 29)):=(au.refl _ w).alloc _;have aE:=di w (.cells #[aa x,aa y,ai d] 29);have b7:(w.alloc (.cells #[aa x,aa y,ai d] 29)).heap.size=w.heap.size+1:=by simp
 have T:=bF M h.blk (fun h=>h);have aG:=aS h.row M (fun _ _ h=>h);have am:=af (Nj (x,y,d) w.heap.size g c l.length lo l _ (by rw[ed _ _ _ _ rfl];rfl) (by rw[ed _ _ _ _ rfl];rfl) (by rw[ed _ _ _ _ rfl];rfl) aG rfl (by omega) (by omega) bv);have bl:(w.alloc (.cells #[aa x,aa y,ai d] 29)).cell? (ae tb 0)=some (aj g l.length c):=by simp[World.cell?,T]
 have ao:=af T;have R:=af aE;have Y:=af M;clear h N T aE aG M;go_enter func53,ntmps53
 go_wp2_with fail
 generalize w.alloc (.cells #[aa x,aa y,ai d] 29)=w1 at*;refine am.o.mono ?_;rintro e w2 ⟨n',rfl,a1,a2,B⟩;have J:=bF B ao.o (by omega);have a0:(aj g n' c).ownBlock≠some tb:=fun e=>by
  have u:g=tb:=by injection e
  omega
 have be:=af (bF B R.o (by omega));have b0:=B.size;have f2:w2.frozen? (ae tb 0)=false:=by simp[World.frozen?,J]
 have bm:w2.cell? (ae tb 0)=some (aj g l.length c):=by simp[World.cell?,J]
 have aL:(w2.setCell (ae tb 0) (aj g n' c)).heap[tb]? =some (Obj.cells #[aj g n' c,ah bx,ah cn,ah hp,ah lw,ah ob,sv] 120 (0,0)):=by
  rw[dA w2 tb 0 _ _ _ J];rfl
 have aq:au (fun k=>k=g\/k=tb) w1 (w2.setCell (ae tb 0) (aj g n' c)):=(B.mono fun k h=>.inl h).set _ (.inl (.inr rfl));have a3:(w2.setCell (ae tb 0) (aj g n' c)).heap.size=w2.heap.size:=by simp
 have aI:(w2.setCell (ae tb 0) (aj g n' c)).ownsRow lo 29 3 (aj g n' c) n' ((l.filter fun q=>decide (q≠(x,y,d))).flatMap dx):=aV a2 fun i e=>az fun V=>a0 (by rw[e,<-V]);have ar:=aq.alloc (.cells #[ai 0,.int .i32 0,ai 0] 199);have S:=di (w2.setCell (ae tb 0) (aj g n' c)) (.cells #[ai 0,.int .i32 0,ai 0] 199);have U:au (fun _=>False) (w2.setCell (ae tb 0) (aj g n' c)) ((w2.setCell (ae tb 0) (aj g n' c)).alloc (.cells #[ai 0,.int .i32 0,ai 0] 199)):=(au.refl _ _).alloc _;have L:=bF U aL (fun h=>h);have aK:=af (aS aI U (fun _ _ h=>h));have a4:((w2.setCell (ae tb 0) (aj g n' c)).alloc (.cells #[ai 0,.int .i32 0,ai 0] 199)).heap.size=w2.heap.size+1:=by simp
 have bo:((w2.setCell (ae tb 0) (aj g n' c)).alloc (.cells #[ai 0,.int .i32 0,ai 0] 199)).cell? (ae tb 5)=some (ah ob):=by simp[World.cell?,L]
 have f4:((w2.setCell (ae tb 0) (aj g n' c)).alloc (.cells #[ai 0,.int .i32 0,ai 0] 199)).frozen? (ae tb 5)=false:=by simp[World.frozen?,L]
 rw[a3]at S;have Q:=af ar;have ap:=af L;have an:=af S;have a9:=af a1;clear am bl a2 B J aL aq aI ar U L S a1
 go_wp2_with fail
 generalize((w2.setCell (ae tb 0) (aj g n' c)).alloc (.cells #[ai 0,.int .i32 0,ai 0] 199))=w4 at*;have aP:Hid ((w4.setCell (ae tb 5) (ah w2.heap.size)).heap[tb]? =some (Obj.cells #[aj g n' c,ah bx,ah cn,ah hp,ah lw,ah w2.heap.size,sv] 120 (0,0))):=by
  show _=_;rw[dA w4 tb 5 _ _ _ ap.o];rfl
 have av:Hid (au (fun k=>k=g\/k=tb) w (w4.setCell (ae tb 5) (ah w2.heap.size))):=((Y.o.mono fun _ h=>h.elim).trans Q.o).set _ (.inl (.inr rfl));have bf:Hid ((w4.setCell (ae tb 5) (ah w2.heap.size)).ownsRow lo 29 3 (aj g n' c) n' ((l.filter fun q=>decide (q≠(x,y,d))).flatMap dx)):=aV aK.o fun i e=>az fun V=>a0 (by rw[e,<-V]);have D:Hid ((w4.setCell (ae tb 5) (ah w2.heap.size)).heap[w.heap.size]? =some (Obj.cells #[aa x,aa y,ai d] 29 (0,0))):=(az (by simp only;omega)).trans (bF Q.o R.o (by omega));have ba:Hid ((w4.setCell (ae tb 5) (ah w2.heap.size)).heap[w2.heap.size]? =some (Obj.cells #[ai 0,.int .i32 0,ai 0] 199 (0,0))):=(az (by simp only;omega)).trans an.o;have b8:(w4.setCell (ae tb 5) (ah w2.heap.size)).heap.size=w2.heap.size+1:=by simp[a4]
 clear f2 bm a3 aK a4 bo f4 Q ap an Y ao R be;generalize w4.setCell (ae tb 5) (ah w2.heap.size)=r at*;have Z:=af (H.o.Tu.kept ((av.o.drew)) (fun k z A X=>by omega));have bq:=ag (w:=r) (ad:=(ae tb 2)) (v:=ah cn) (by simp[World.cell?,aP.o]);have bM:=ag (w:=r) (ad:=(ae w.heap.size 0)) (v:=.int .i64 x) (by simp[World.cell?,D.o]);have bQ:=ag (w:=r) (ad:=(ae w.heap.size 1)) (v:=.int .i64 y) (by simp[World.cell?,D.o]);have d5:=ag (w:=r) (ad:=(ae w.heap.size 2)) (v:=.int .u32 d) (by simp[World.cell?,D.o]);refine ak (fun W=>∃p:aT r,W=p.W) [5] [(0,false),(1,false),(2,false),(3,true),(4,true)] ⟨⟨_,(aB _ _).drew⟩,rfl⟩ 1 ?_;simp only[bn,aX,aY,aW,aN,aM,aO]
 repeat(refine aD (fun K a=>?_);go_simp;first|(refine a _ ?_;clear a K)|(apply Exists.intro;refine⟨fun _=>?_,a _ ?_⟩;rfl;clear a K))
 refine aJ ?_;refine aF [5] _ _ _ (by kernel_rfl) ?_;simp only[pick,aX,aY,aW,aN,aM];clear bq bM bQ d5
 go_wp2_with fail
 refine(Qi Z.o (x,y,d) C.o).mono ?_;rintro e w6 ⟨rfl,b,a⟩;have a5:=af b;have t:Hid (au (fun k=>m2<=k/\k<m3) r w6):=((au.refl _ r).drew).trans a;have aQ:=af (bF t.o aP.o (by omega));have E:=af (bF t.o D.o (by omega));have bb:=af (bF t.o ba.o (by omega));have bg:=af (aS bf.o t.o (fun i e=>by have u:g=i:=(by injection e);omega));have aw:Hid (au (fun k=>(k=g\/k=tb)\/(m2<=k/\k<m3)) w w6):=(av.o.mono fun k h=>by omega).trans (t.o.mono fun k h=>by omega);have b9:=a.size;clear b a Z
 go_wp2_with fail
 have ab:=af (H.o.Tv.kept ((aw.o.drew)) (fun k z A X=>by omega));have br:=ag (w:=w6) (ad:=(ae tb 3)) (v:=ah hp) (by simp[World.cell?,aQ.o]);have bN:=ag (w:=w6) (ad:=(ae w.heap.size 0)) (v:=.int .i64 x) (by simp[World.cell?,E.o]);have bR:=ag (w:=w6) (ad:=(ae w.heap.size 1)) (v:=.int .i64 y) (by simp[World.cell?,E.o]);have d6:=ag (w:=w6) (ad:=(ae w.heap.size 2)) (v:=.int .u32 d) (by simp[World.cell?,E.o]);refine ak (fun W=>∃p:aT w6,W=p.W) [5] [(0,false),(1,false),(2,false),(3,true),(4,true)] ⟨⟨_,(aB _ _).drew⟩,rfl⟩ 1 ?_;simp only[bn,aX,aY,aW,aN,aM,aO]
 repeat(refine aD (fun K a=>?_);go_simp;first|(refine a _ ?_;clear a K)|(apply Exists.intro;refine⟨fun _=>?_,a _ ?_⟩;rfl;clear a K))
 refine aJ ?_;refine aF [5] _ _ _ (by kernel_rfl) ?_;simp only[pick,aX,aY,aW,aN,aM];clear br bN bR d6
 go_wp2_with fail
 refine(R3 ab.o (x,y,d) C.o).mono ?_;rintro e f ⟨rfl,b,a⟩;have a6:=af b;have s:Hid (au (fun k=>m3<=k/\k<m4) w6 f):=((au.refl _ w6).drew).trans a;have aR:=af (bF s.o aQ.o (by omega));have G:=af (bF s.o E.o (by omega));have bc:=af (bF s.o bb.o (by omega));have bh:=af (aS bg.o s.o (fun i e=>by have u:g=i:=(by injection e);omega));have ax:Hid (au (fun k=>(k=g\/k=tb)\/(m2<=k/\k<m4)) w f):=(aw.o.mono fun k h=>by omega).trans (s.o.mono fun k h=>by omega);have ca:=a.size;clear b a ab
 go_wp2_with fail
 have ac:=af (H.o.low.kept ((ax.o.drew)) (fun k z A X=>by omega));have bs:=ag (w:=f) (ad:=(ae tb 4)) (v:=ah lw) (by simp[World.cell?,aR.o]);have bO:=ag (w:=f) (ad:=(ae w.heap.size 0)) (v:=.int .i64 x) (by simp[World.cell?,G.o]);have bS:=ag (w:=f) (ad:=(ae w.heap.size 1)) (v:=.int .i64 y) (by simp[World.cell?,G.o]);have d7:=ag (w:=f) (ad:=(ae w.heap.size 2)) (v:=.int .u32 d) (by simp[World.cell?,G.o]);refine ak (fun W=>∃p:aT f,W=p.W) [5] [(0,false),(1,false),(2,false),(3,true),(4,true)] ⟨⟨_,(aB _ _).drew⟩,rfl⟩ 1 ?_;simp only[bn,aX,aY,aW,aN,aM,aO]
 repeat(refine aD (fun K a=>?_);go_simp;first|(refine a _ ?_;clear a K)|(apply Exists.intro;refine⟨fun _=>?_,a _ ?_⟩;rfl;clear a K))
 refine aJ ?_;refine aF [5] _ _ _ (by kernel_rfl) ?_;simp only[pick,aX,aY,aW,aN,aM];clear bs bO bS d7
 go_wp2_with fail
 refine(R4 ac.o (x,y,d) C.o).mono ?_;rintro e j ⟨rfl,b,a⟩;have a7:=af b;have n:Hid (au (fun k=>m4<=k/\k<hi) f j):=((au.refl _ f).drew).trans a;have aU:=af (bF n.o aR.o (by omega));have I:=af (bF n.o G.o (by omega));have bd:=af (bF n.o bc.o (by omega));have bi:=af (aS bh.o n.o (fun i e=>by have u:g=i:=(by injection e);omega));have ay:Hid (au (fun k=>(k=g\/k=tb)\/(m2<=k/\k<hi)) w j):=(ax.o.mono fun k h=>by omega).trans (n.o.mono fun k h=>by omega);have cb:=a.size;clear b a ac
 go_wp2_with fail
 have al:=af (H.o.box.kept ((ay.o.drew)) (fun k z A X=>by omega));have bt:=ag (w:=j) (ad:=(ae tb 1)) (v:=ah bx) (by simp[World.cell?,aU.o]);have bP:=ag (w:=j) (ad:=(ae w.heap.size 0)) (v:=.int .i64 x) (by simp[World.cell?,I.o]);have bT:=ag (w:=j) (ad:=(ae w.heap.size 1)) (v:=.int .i64 y) (by simp[World.cell?,I.o]);have d8:=ag (w:=j) (ad:=(ae w.heap.size 2)) (v:=.int .u32 d) (by simp[World.cell?,I.o]);refine ak (fun W=>∃p:aT j,W=p.W) [5,6] [(0,false),(1,false),(2,false),(3,true),(4,true)] ⟨⟨_,(aB _ _).drew⟩,rfl⟩ 2 ?_;simp only[bn,aX,aY,aW,aN,aM,aO]
 repeat(refine aD (fun K a=>?_);go_simp;first|(refine a _ ?_;clear a K)|(apply Exists.intro;refine⟨fun _=>?_,a _ ?_⟩;rfl;clear a K))
 refine aJ ?_;refine aF [5,6] _ _ _ (by kernel_rfl) ?_;simp only[pick,aX,aY,aW,aN,aM];clear bt bP bT d8
 go_wp2_with fail
 refine(Oi al.o (x,y,d) C.o).mono ?_;rintro e P ⟨rfl,b,a⟩;have a8:=af b;have m:Hid (au (fun k=>m1<=k/\k<m2) j P):=((au.refl _ j).drew).trans a;have bk:=af (bF m.o aU.o (by omega));have bU:=af (bF m.o I.o (by omega));have aC:=af (bF m.o bd.o (by omega));have bj:=af (aS bi.o m.o (fun i e=>by have u:g=i:=(by injection e);omega));have aA:Hid (au (fun k=>(k=g\/k=tb)\/(m2<=k/\k<hi)\/(m1<=k/\k<m2)) w P):=(ay.o.mono fun k h=>by omega).trans (m.o.mono fun k h=>by omega);have cc:=a.size;clear b a al;go_wp2;go_ret;have bH:au (fun k=>(m3<=k/\k<m4)\/(m4<=k/\k<hi)\/(m1<=k/\k<m2)) w6 P:=(s.o.mono fun k h=>.inl h).trans ((n.o.mono fun k h=>.inr (.inl h)).trans (m.o.mono fun k h=>.inr (.inr h)));have bG:au (fun k=>(m4<=k/\k<hi)\/(m1<=k/\k<m2)) f P:=(n.o.mono fun k h=>.inl h).trans (m.o.mono fun k h=>.inr h);have bz:=aA.o.size;have bu:=a9.o;subst bu;refine⟨rfl,w2.heap.size,_,⟨bk.o,bj.o,fun k e=>?_,⟨bA,bC⟩,a8.o,a5.o.kept bH (fun k _ _ h=>by omega),a6.o.kept bG (fun k _ _ h=>by omega),a7.o.kept m.o (fun k _ _ h=>by omega),H.o.ord,?_,?_,(fun h=>by cases h),⟨fun k z A=>.inl (H.o.fin.1 k z A),.inr ?_,?_⟩,Nk H.o.und.1 _,fun q bw=>H.o.und.2 q (bK.1 bw).1⟩,aA.o.mono fun k hk=>H.o.fin.1 k (by omega) (by omega)⟩
 .have u:g=k:=by injection e
  omega
 .have O:=aC.o;exact⟨by simp[World.cell?,O],by simp[World.cell?,O],by simp[World.frozen?,O],by simp[World.frozen?,O]⟩
 .exact⟨by omega,.inr (by omega)⟩
 .have:=(aZ.1 aC.o).1;omega
 .rintro k (hk|hk)
  .exact bB (H.o.fin.2.2 k hk) bz
  .exact hk.2
end
theorem F9:∀args w,(callFunc 148 args).run prog w=.ok (.enter 148 args) w:=cK func148 (by kernel_rfl) rfl
theorem Oj:∀args w,(callFunc 147 args).run prog w=.ok (.enter 147 args) w:=cK func147 (by kernel_rfl) rfl
theorem Qk {W:World} {V tb:Nat} {a:Option Addr} {c:Nat} {l:List Pt} {v1 u x y z sv:Value} (n:W.cell? (ae V 0)=some (ah tb)) (i:W.heap[tb]? =some (Obj.cells #[.slice a l.length c,v1,u,x,y,z,sv] 120 (0,0))) (s:cz dx 3 W a l) (D:l.length<=20000) (t:JZ l) (hu:kQ l=true):
  aH 147 #[ah V] W fun e w'=>e=.returned (.tuple #[])/\∃v f,Below W.heap.size W f/\f.ownsRow W.heap.size 29 3 v (bR l).length ((bR l).flatMap dx)/\w'=f.setCell (ae tb 6) v:=by
 have m:=af (fun W' (q:Below W.heap.size W W')=>RY a l l.length c W' rfl (s.below q) (by omega) t hu);have g:=af i;have B:=ag n;have C:=ag (w:=W) (ad:=(ae tb 0)) (v:=.slice a l.length c) (by simp[World.cell?,i]);go_enter func147,ntmps147
 go_wp2_with fail
 refine ak (fun W'=>∃p:aT W,W'=p.W) [9,10,11] [(0,true),(1,true),(2,false),(3,false),(4,true)] ⟨⟨_,(aB _ _).drew⟩,rfl⟩ 7 ?_;simp only[bn,aX,aY,aW,aN,aM,aO]
 repeat(refine aD (fun K b=>?_);go_simp;first|(refine b _ ?_;clear b K)|(apply Exists.intro;refine⟨fun _=>?_,b _ ?_⟩;rfl;clear b K))
 refine aJ ?_;refine aA 5 rfl fun K b=>?_;refine bg F9 rfl _ _ rfl (vals:=#[.slice a l.length c]) rfl (m.o _ (aB _ _).drew) ?_;rintro e w2 ⟨v,rfl,j,r⟩;obtain⟨E,F,rfl,-,-,-⟩:=cz.aC bu (by decide) j;have d:Below W.heap.size W w2:=(aB _ _).drew.trans r;refine⟨_,rfl,?_⟩;refine b _ _ (fun _ _=>⟨⟨_,d⟩,rfl⟩) ?_;have HO:=af j;have k:=af d;refine bG [(6,false),(7,false),(8,false)] ⟨⟨_,d⟩,rfl⟩ rfl ?_;simp only[bn,aX,aY,aW,aN,aM,aO]
 repeat(refine aD (fun K b=>?_);go_simp;first|(refine b _ ?_;clear b K)|(apply Exists.intro;refine⟨fun _=>?_,b _ ?_⟩;rfl;clear b K))
 refine aJ ?_;refine aF [9,10,11] _ _ _ (by kernel_rfl) ?_;simp only[pick,aX,aY,aW,aN,aM];have h:=(aL d g.o).trans g.o;have A:w2.cell? (ae tb 6)=some sv:=by simp[World.cell?,h]
 have f2:w2.frozen? (ae tb 6)=false:=by simp[World.frozen?,h]
 go_wp2_with fail
 go_end0
 exact⟨rfl,_,w2,k.o,HO.o,rfl⟩
section
variable {w:World} {F:Nat->Prop} {tb n0:Nat} {l:List Pt} {lo m0 m1 m2 m3 m4 hi bx cn hp lw ob:Nat} {tl sv:Value} {dn:Bool}
theorem lG.more {d:Nat->Prop} (h:lG w F tb n0 l lo m0 m1 m2 m3 m4 hi bx cn hp lw ob tl sv dn) (f:∀k,F k->d k) (i:∀k,d k->k<w.heap.size):lG w d tb n0 l lo m0 m1 m2 m3 m4 hi bx cn hp lw ob tl sv dn:=
 ⟨h.blk,h.row,h.QQ,h.RZ,h.box,h.Tu,h.Tv,h.low,h.ord,h.SC,h.Ux,fun hd=>by
  have⟨a,c,e,j,m,g⟩:=h.EM hd;exact⟨a,c,e,j,m,fun x e=>⟨(g x e).1,(g x e).2.1,f _ (g x e).2.2⟩⟩,⟨fun k a b=>f k (h.fin.1 k a b),f _ h.fin.2.1,i⟩,h.und⟩
theorem R5 (h:lG w F tb n0 l lo m0 m1 m2 m3 m4 hi bx cn hp lw ob tl sv dn):
  aH 63 #[ah tb] w fun e w'=>∃a c,e=.returned (.slice a (bR l).length c)/\(bR l).length<=c/\cz dx 3 w' a (bR l)/\
   ∃aG,lG w' (fun k=>F k\/w.heap.size<=k/\k<w'.heap.size) tb n0 l lo m0 m1 m2 m3 m4 hi bx cn hp lw ob tl aG true/\au F w w':=by
 have aP:=h.top;have ar:l.length<=20000:=bJ h.box.En.1 h.box.En.2;have⟨ax,aA⟩:=h.RZ;have⟨aQ,aR,aT,aU,aV⟩:=h.ord;have N:=h.Ux;have H:=af h;have n:au (fun _=>False) w (w.alloc (.cells #[ah tb] 106)):=(au.refl _ w).alloc _;have I:=di w (.cells #[ah tb] 106);have aY:(w.alloc (.cells #[ah tb] 106)).heap.size=w.heap.size+1:=by simp
 have m:=af (bF n h.blk (fun h=>h));have y:=af n;have U:=af I;have aF:(w.alloc (.cells #[ah tb] 106)).cell? (ae tb 5)=some (ah ob):=by simp[World.cell?,m.o]
 have aO:=h.fin.2.2 _ h.fin.2.1;have d:=af ((h.kept n (fun _ _ h=>h)).SC);have z:=af (aS h.row n (fun _ _ h=>h));have T:=af (h.kept n (fun _ _ h=>h));cases dn with
 |true=>
  obtain⟨a,c,rfl,aq,av,M⟩:=h.EM rfl;have W:=af (av.below ((aB _ w).alloc (ay _) (.cells #[ah tb] 106)));have aW:(w.alloc (.cells #[ah tb] 106)).cell? (ae tb 6)=some (.slice a (bR l).length c):=by simp[World.cell?,m.o]
  have P:=af (Cr (ae ob 0) (.func (.func 147) #[] #[ah w.heap.size]) _ d.o.c0);have aX:(w.alloc (.cells #[ah tb] 106)).cell? (ae w.heap.size 0)=some (ah tb):=by rw[ed _ _ _ _ rfl];rfl
  go_enter func63,ntmps63
  go_wp2_with fail
  generalize w.alloc (.cells #[ah tb] 106)=w1 at*;refine P.o.mono ?_;rintro e w2 ⟨rfl,rfl⟩;go_wp2;go_ret;refine⟨a,c,rfl,aq,W.o,.slice a (bR l).length c,?_,y.o.mono fun _ h=>h.elim⟩;exact T.o.more (by intro k hk;exact .inl hk) (by rintro k (hk|hk);exact bB (H.o.fin.2.2 k hk) y.o.size;exact hk.2)
 |false=>
  have aD:kQ l=true:=by unfold kQ;exact decide_eq_true h.und.1
  obtain⟨aI,tc,rfl,-,-,aM⟩:=cz.aC bu (by decide) z.o;have A:au (fun k=>k=ob) (w.alloc (.cells #[ah tb] 106)) ((w.alloc (.cells #[ah tb] 106)).setCell (ae ob 1) (.int .i32 1)):=(au.refl _ _).set _ (.inl rfl);have aN:ob≠tb:=N.1;have ak:=bF A m.o (by omega);have an:=bF A I (by omega);have ac:=aS z.o A (fun f e=>by have p:=h.QQ f e;have s:=(h.row.lt f e).1;omega);obtain⟨aZ,a0,B,-,-,ap⟩:=cz.aC bu (by decide) ac;injection B with B _ ao;subst B ao;have S:=Qk (V:=w.heap.size) (tb:=tb) (by simp only[World.cell?,an];rfl) ak ap ar h.und.2 aD;have L:ob<(w.alloc (.cells #[ah tb] 106)).heap.size:=by omega
  have Q:=af (yz Oj (R:=fun C=>∃v b,Below ((w.alloc (.cells #[ah tb] 106)).setCell (ae ob 1) (.int .i32 1)).heap.size ((w.alloc (.cells #[ah tb] 106)).setCell (ae ob 1) (.int .i32 1)) b/\b.ownsRow ((w.alloc (.cells #[ah tb] 106)).setCell (ae ob 1) (.int .i32 1)).heap.size 29 3 v (bR l).length ((bR l).flatMap dx)/\C=b.setCell (ae tb 6) v) ob 0 (ah w.heap.size) _ d.o.c0 d.o.c1 d.o.f0 d.o.f1 (by
   refine S.mono ?_;rintro e C ⟨rfl,v,b,q,i,rfl⟩;have t:(b.setCell (ae tb 6) v).heap[ob]? =((w.alloc (.cells #[ah tb] 106)).setCell (ae ob 1) (.int .i32 1)).heap[ob]? :=(az (by simp only;omega)).trans (q.block ob (by simpa using L));refine⟨rfl,⟨v,b,q,i,rfl⟩,(dD (a:=(ae ob 0)) t).trans ?_,(dD (a:=(ae ob 1)) t).trans ?_,(oz (a:=(ae ob 0)) t).trans ?_,(oz (a:=(ae ob 1)) t).trans ?_⟩
   .exact(wJ _ (ae ob 1) (ae ob 0) _ (by simp)).trans d.o.c0
   .simp[ze,d.o.c1]
   .simp[d.o.f0]
   .simp[d.o.f1]))
  have aF:(w.alloc (.cells #[ah tb] 106)).cell? (ae tb 5)=some (ah ob):=by simp[World.cell?,m.o]
  go_enter func63,ntmps63
  go_wp2_with fail
  generalize(w.alloc (.cells #[ah tb] 106))=w1 at*;refine Q.o.mono ?_;rintro e w6 ⟨rfl,C,⟨v,b,q,i,rfl⟩,rfl⟩;rw[show(w1.setCell (ae ob 1) (.int .i32 1)).heap.size=w1.heap.size by simp]at i;have r:au (fun k=>k=ob) w1 b:=((au.refl (fun k=>k=ob) w1).set (a:=(ae ob 1)) (.int .i32 1) (.inl rfl)).below q;have ad:=bF r m.o (by omega);have al:=bF r U.o (by omega);have ab:=aS z.o r (fun f e=>by have p:=H.o.QQ f e;have s:=(H.o.row.lt f e).1;omega);have ag:(b.setCell (ae tb 6) v).heap[tb]? =some (Obj.cells #[.slice aI l.length tc,ah bx,ah cn,ah hp,ah lw,ah ob,v] 120 (0,0)):=by
   rw[dA b tb 6 _ _ _ ad];rfl
  have G:au (fun k=>k=ob\/k=tb) w1 (b.setCell (ae tb 6) v):=(r.mono fun k h=>.inl h).set _ (.inl (.inr rfl));have Z:au (fun k=>k=ob\/k=tb) w ((((b.setCell (ae tb 6) v).drew).setCell (ae ob 0) (.int .u32 1)).setCell (ae ob (0+1)) (.int .i32 0)):=(((((y.o.mono fun _ h=>h.elim).trans G).drew).set (a:=(ae ob 0)) _ (.inl (.inl rfl))).set (a:=(ae ob (0+1))) _ (.inl (.inl rfl)));have j:au (fun k=>k=ob) (b.setCell (ae tb 6) v) ((((b.setCell (ae tb 6) v).drew).setCell (ae ob 0) (.int .u32 1)).setCell (ae ob (0+1)) (.int .i32 0)):=((((au.refl (fun k=>k=ob) _).drew).set (a:=(ae ob 0)) _ (.inl rfl)).set (a:=(ae ob (0+1))) _ (.inl rfl));have aj:=bF j ag (by omega);have am:=bF j ((az (by simp only;omega)).trans al) (by omega);have u:(b.setCell (ae tb 6) v).heap[ob]? =(w1.setCell (ae ob 1) (.int .i32 1)).heap[ob]? :=(az (by simp only;omega)).trans (q.block ob (by simpa using L));have aK:(b.setCell (ae tb 6) v).cell? (ae ob 0)=some (ai 0):=((dD (a:=(ae ob 0)) u).trans ((wJ _ (ae ob 1) (ae ob 0) _ (by simp)).trans d.o.c0));have aL:(b.setCell (ae tb 6) v).cell? (ae ob 1)=some (.int .i32 1):=((dD (a:=(ae ob 1)) u).trans (by simp[ze,d.o.c1]));have aJ:(b.setCell (ae tb 6) v).frozen? (ae ob 0)=false:=((oz (a:=(ae ob 0)) u).trans (by simp[d.o.f0]));have y1:(b.setCell (ae tb 6) v).frozen? (ae ob 1)=false:=((oz (a:=(ae ob 1)) u).trans (by simp[d.o.f1]));have aa:Hid (QP ((((b.setCell (ae tb 6) v).drew).setCell (ae ob 0) (.int .u32 1)).setCell (ae ob (0+1)) (.int .i32 0)) ob true):=by
   refine⟨?_,?_,?_,?_⟩
   .refine(wJ _ (ae ob (0+1)) (ae ob 0) _ (by simp)).trans ?_;simp[ze,aK]
   .have:(((b.setCell (ae tb 6) v).drew).setCell (ae ob 0) (.int .u32 1)).cell? (ae ob 1)=some (.int .i32 1):=(wJ _ (ae ob 0) (ae ob 1) _ (by simp)).trans (by simpa using aL);simp[ze,this]
   .simpa using aJ
   .simpa using y1
  have D:Hid ((((b.setCell (ae tb 6) v).drew).setCell (ae ob 0) (.int .u32 1)).setCell (ae ob (0+1)) (.int .i32 0)|>.ownsRow w1.heap.size 29 3 v (bR l).length ((bR l).flatMap dx)):=aS (aS i ((au.refl (fun k=>k=tb) b).set (a:=(ae tb 6)) v (.inl rfl)) (fun f e=>by have:=(i.lt f e).1;omega)) j (fun f e=>by have:=(i.lt f e).1;omega);have E:=af aj;have Y:=af am;have g:=af Z;have X:=af (aS ab ((G.mono (fun k h=>h)).trans (j.mono fun k h=>.inl h)|>fun h=>(((au.refl (fun k=>k=ob\/k=tb) b).set (a:=(ae tb 6)) v (.inl (.inr rfl))).trans (j.mono fun k h=>.inl h))) (fun f e=>by have p:=H.o.QQ f e;have s:=(H.o.row.lt f e).1;omega));generalize(((b.setCell (ae tb 6) v).drew).setCell (ae ob 0) (.int .u32 1)).setCell (ae ob (0+1)) (.int .i32 0)=O at*;have u0:O.cell? (ae w.heap.size 0)=some (ah tb):=by simp[World.cell?,Y.o]
  have u1:O.cell? (ae tb 6)=some v:=by simp[World.cell?,E.o]
  go_wp2;go_ret;obtain⟨a,c,rfl,-,K,J⟩:=cz.aC bu (by decide) D.o;have aw:=g.o.size;have aE:=D.o.lt;refine⟨a,c,rfl,K,J,_,⟨E.o,X.o,H.o.QQ,⟨ax,aA⟩,H.o.box.kept g.o (by omega),H.o.Tu.kept g.o (by omega),H.o.Tv.kept g.o (by omega),H.o.low.kept g.o (by omega),H.o.ord,aa.o,N,fun _=>⟨a,c,rfl,K,J,fun x M=>?_⟩,⟨fun k p s=>.inl (H.o.fin.1 k p s),.inl H.o.fin.2.1,?_⟩,H.o.und⟩,g.o.mono ?_⟩
  .have p:=aE x.block (by rw[M];rfl);exact⟨by omega,by omega,.inr (by omega)⟩
  .rintro k (hk|hk)
   .exact bB (H.o.fin.2.2 k hk) aw
   .exact hk.2
  .rintro k (rfl|rfl)
   .exact H.o.fin.2.1
   .exact H.o.tF
end
end
section
open Go.RowKit Go.Maps
attribute [local irreducible] wpQuiet
def R6 (W:World) (base Cb:Nat) (wk:Int) (l:List eG) (e:Ending) (w':World):Prop:=
 ∃(Bw:Value) (qj:List yZ) (Jp:Int),e=.returned (aa l.length)/\ma w' base Cb Bw qj l.length Jp/\ql w' qj/\qj.map (·.2.1)=setC (Lib.bitLen l.length) l/\
  (Bw.ownBlock=none\/∃b,Bw.ownBlock=some b/\W.heap.size<=b)/\au (fun k=>k=Cb) W w'/\Nw W.heap.size [] qj/\Jp=wrap64 (wk+(l.length:Int))
theorem R7 {W:World} {base Cb:Nat} {cv:Value} {ch:List yZ} {N wk:Int} (h:ma W base Cb cv ch N wk) (cf:base<=W.heap.size) (a:Option Addr) (l:List eG) (c:Nat) (a7:KD W a l) (bL:l.length<=c) (aB:l.length<=10000):
  aH 212 #[ah Cb,.slice a l.length c] W (R6 W base Cb wk l):=by
 have aO:=af (vw h);have H:=af h;have bF:=fw aB (by decide);have bG:Lib.bitLen 10000=14:=by decide
 rw[bG]at bF;have aV:=af a7;have aW:l.length<2^Lib.bitLen l.length:=by
  by_cases a3:l.length=0
  .rw[a3];decide
  .exact(bM _ (by omega) a3).2.2
 have bl:=af aW;clear aW;clear h a7;go_enter func212,ntmps212
 go_wp2_with fail
 refine aO.o.mono ?_;rintro e w2 ⟨rfl,B⟩;have C:=af (H.o.below B);obtain⟨bx,bz,bA,bB⟩:=C.o.cell;have f1:=C.o.frozen 1;have Z:Hid (ma (w2.setCell (ae Cb 1) (aG)) base Cb (aG) [] N wk):=gQ.KA (ch:=ch) C.o.blk C.o.hb C.o.ds (dz _ _ _ _) (by simp[Value.ownBlock]);obtain⟨d0,d1,d2,d3⟩:=Z.o.cell;have f2:=Z.o.frozen 2;have aZ:Hid (ma ((w2.setCell (ae Cb 1) (aG)).setCell (ae Cb 2) (.int .i64 l.length)) base Cb (aG) [] l.length wk):=Z.o.zY _;have aY:Hid (au (fun k=>k=Cb) W ((w2.setCell (ae Cb 1) (aG)).setCell (ae Cb 2) (.int .i64 l.length))):=(((au.refl (fun k=>k=Cb) W).below B).set (a:=(ae Cb 1)) _ (.inl rfl)).set (a:=(ae Cb 2)) _ (.inl rfl);have cd:=H.o.lt;clear aO
 go_upto_block 0 with fail
 go_cut []from 19 to 33 (fun w=>∃v,Hid (ma w base Cb v (List.replicate (Lib.bitLen l.length) fF) l.length wk)/\Hid (v.ownBlock=none\/∃b,v.ownBlock=some b/\W.heap.size<=b)/\Hid (au (fun k=>k=Cb) W w))
 case first=>
  go_wp2_with fail
  generalize((w2.setCell (ae Cb 1) (aG)).setCell (ae Cb 2) (.int .i64 l.length))=w3 at*
  go_loopw [5] (fun aM wr=>∃(k m:Nat) (v:Value),aM=.int .i64 m/\m<=10000/\Hid (k+Lib.bitLen m=Lib.bitLen l.length)/\Hid (ma wr base Cb v (List.replicate k fF) l.length wk)/\Hid (v.ownBlock=none\/∃b,v.ownBlock=some b/\W.heap.size<=b)/\Hid (au (fun k=>k=Cb) W wr)) (fun aM _=>(intOf aM).toNat)
  case atStart=>exact⟨0,l.length,_,rfl,aB,(by show _=_;omega),aZ,.inl rfl,aY⟩
  case round=>
   obtain⟨k,m,v,rfl,bR,aU,f,E,s⟩:=hrel;by_cases yO:m=0
   .subst yO;obtain rfl:k=Lib.bitLen l.length:=aU.o
    go_wp2_with fail
    go_meet;exact⟨v,f,E,s⟩
   .have aS:Hid (k+1+Lib.bitLen (m/2)=Lib.bitLen l.length):=by
     have:=Lib.bitLen_half m yO (by omega);have:=aU.o;show _=_;omega
    have ag:k+1<=14:=by have:=aS.o;omega
    have J:=f.o.row;rw[gX]at J;have bU:=f.o.ne;have cr:(0:Int)<(m:Int):=by omega
    obtain⟨aw,ax,az,aA⟩:=f.o.cell;have bp:Hid (∀w6,wr.grownBy w6 v.ownBlock->w6.heap[Cb]? =some (Obj.cells #[.bool true,v,aa l.length,aa wk] 278 (0,0))):=fun w6 ac=>(ac.block Cb f.o.lt (fun e=>f.o.ne e.symm)).trans f.o.blk
    go_wp2_with (at_builtin;refine bZ QJ base J [aG] rfl (by simp[Value.oneCell']) rfl _ _ rfl rfl _ rfl (by unfold maxLen;omega) (by omega) (by have:=s.o.size;omega) ?_;intro cy w6 a9 ac a6;obtain⟨a2,j,rfl,ck,cl,cm,cn⟩:=aQ a9 (by omega);have aJ:=bp.o w6 ac;have cw:w6.cell? (ae Cb 1)=some v:=(by simp[World.cell?,aJ]);have cx:w6.frozen? (ae Cb 1)=false:=(by simp[World.frozen?,aJ]))
    have ce:=f.o.lt;have bV:w6.ownsRow base 213 1 (aj a2 (k+1) j) (List.replicate (k+1) (fF:yZ)).length ((List.replicate (k+1) (fF:yZ)).map dQ):=by
     rw[gX,Co,bS];exact a9
    have bW:Value.ownBlock (aj a2 (k+1) j)≠some Cb:=by
     rcases a6 with h9|h9
     .rw[h9];exact bU
     .rw[h9];simp;omega
    go_roundw
    case rel=>
     refine⟨k+1,m/2,_,by go_num,by omega,aS,gQ.KA (ch:=List.replicate k fF) aJ f.o.hb f.o.ds bV bW,?_,(s.o.grown ac ?_).set (a:=(ae Cb 1)) _ (.inl rfl)⟩
     .rcases a6 with h9|h9
      .rw[h9];exact E
      .exact .inr ⟨_,h9,by have:=s.o.size;simp;omega⟩
     .intro b i;rcases E.o with h9|⟨bY,h9,Q⟩
      .rw[h9]at i;cases i
      .rw[h9]at i;injection i with i;subst i;exact .inr Q
    case measure=>simp[intOf];omega
 case rest=>
  obtain⟨v,f,E,s⟩:=hcut;obtain⟨w3,bE⟩:∃w3:World,w3=wc:=⟨_,rfl⟩;subst bE;clear Z aZ aY bx bz bA bB f1 f2 d0 d1 d2 d3 C B;generalize bH:Lib.bitLen l.length=K at*;obtain⟨x,aD⟩:∃x,x=v.ownBlock:=⟨_,rfl⟩;have aX:Hid (∀W',au (fun k=>k=Cb\/x=some k) w3 W'->cz kJ 4 W' a l):=fun W' R=>((aV.o.kept (H.o.eU rfl (s.o.mono (fun k h=>.inl h)))).kept (f.o.eU aD R)).Mi;have ar:=af aD;clear aD;have an:=f.o;have br:Hid (ql w3 (List.replicate K fF)):=Cq _ _;have bm:Hid ((List.replicate K (fF:yZ)).map (·.2.1)=List.replicate K []++[]):=by show _=_;simp
  have bk:Hid (l.length=l.length%2^K):=(Dr bl.o).symm;obtain⟨av,P,bd,-,bN,-⟩:=Rd.aC (enc:=dQ) an.row;rw[gX]at bd bN;subst bd;obtain⟨b2,b3,b4,b5⟩:=an.cell;clear an
  go_upto_block 2 with fail
  go_cut []from 35 to 64 (fun w=>∃ch1,Hid (ma w base Cb (.slice av K P) ch1 l.length wk)/\Hid (Nw W.heap.size [] ch1)/\Hid (ql w ch1)/\Hid (ch1.map (·.2.1)=setC K l)/\Hid (au (fun k=>k=Cb\/x=some k) w3 w))
  case first=>
   go_wp2_with fail
   go_loopw [7,6] (fun aF bX wr=>∃(m:Nat) (ad:Option Addr) (r:List eG) (y:Nat) (ch1:List yZ) (T:List (List eG)),aF=.int .i64 ((m:Int)-1)/\bX=.slice ad r.length y/\m<=K/\r.length<=y/\Hid (r.length=l.length%2^m)/\Hid (∀W',au (fun k=>k=Cb\/x=some k) w3 W'->cz kJ 4 W' ad r)/\
    Hid (ma wr base Cb (.slice av K P) ch1 l.length wk)/\Hid (Nw W.heap.size [] ch1)/\Hid (ql wr ch1)/\Hid (ch1.map (·.2.1)=List.replicate m []++T)/\Hid (setC K l=setC m r++T)/\Hid (au (fun k=>k=Cb\/x=some k) w3 wr)) (fun aF _ _=>(intOf aF+1).toNat)
   case atStart=>exact⟨K,a,l,c,_,[],by go_num,rfl,ay _,bL,bk,aX,f,Nw.Rb,br,bm,(by show _=_;simp),au.refl _ _⟩
   case round=>
    obtain⟨m,ad,r,y,ch1,T,rfl,rfl,bR,bc,X,M,q,L,D,A,Y,t⟩:=hrel;rcases qf m with yO|yO
    .subst yO;have cg:¬(0:Int)<=((0:Nat):Int)-1:=by omega
     go_wp2_with fail
     go_meet;exact⟨ch1,q,L,D,(by have d:=A.o;have G:=Y.o;show _=_;rw[d,G];rfl),t⟩
    .obtain⟨k,rfl⟩:∃k,m=k+1:=⟨m-1,by omega⟩;have ag:k<14:=by omega
     have ai:=Fz l.length k;have cq:r.length<=l.length:=by rw[X.o];exact Nat.mod_le _ _
     have bv:=Nf k ag;have O:=QM l.length k ag aB;have hp:=pO k ag;have bP:(((k+1:Nat):Int)-1)=(k:Int):=by omega
     have co:(0:Int)<=(k:Int):=by omega
     have aE:ch1.length=K:=by
      have d:=congrArg List.length A.o;have G:=congrArg List.length Y.o;rw[ek,bq,ek]at G;simp at d;omega
     rw[bP];by_cases i:l.length.testBit k=true
     .rw[i]at O;simp only[gD]at O;have I:=ai.1 i;rw[<-X.o]at I;have ak:2^k<=r.length:=by omega
      have aq:Hid (setC K l=setC k (r.drop (2^k))++r.take (2^k)::T):=by
       have d:=Y.o;rw[setC,aK ak,dW]at d;exact d
      have V:Hid (∀hd:yZ,hd.2.1=r.take (2^k)->(ch1.set k hd).map (·.2.1)=List.replicate k []++r.take (2^k)::T):=fun hd h9=>by
       rw[j3,A.o,h9,EZ]
      have ap:Hid ((r.drop (2^k)).length=l.length%2^k):=by
       show _=_;rw[kS];omega
      clear ai i I;generalize S:2^k=p at*;have ao:=af S;clear S;obtain⟨b,off,bD,bK,-⟩:=(M.o wr t.o).get (by omega);subst bD;obtain⟨g,b0,ab,ci,cj,-,-⟩:=aQ q.o.row (by omega);rw[aE]at ab;injection ab with ab _ bC;subst ab bC;obtain⟨aw,ax,az,aA⟩:=q.o.cell;have U:(r.take p).length=p:=by rw[eB];omega
      have am:=af (z8 (some (ae b off)) (r.take p) p y wr.drew U ((M.o wr.drew t.o.drew).take p) (by omega));have ct:(0:Int)<=(p:Int)/\(p:Int)<=(r.length:Int):=by omega
      have cs:(p:Int)<=(y:Int):=by omega
      have ba:((p:Int)!=0)=true:=by simp only[bne_iff_ne,ne_eq];omega
      go_upto_region 14 with fail
      simp only[bv,O,ba]
      go_cut []from 52 to 61 (fun w=>∃F,Hid (ma w base Cb (aj g K P) F l.length wk)/\Hid (Nw W.heap.size [] F)/\Hid (ql w F)/\Hid (F.map (·.2.1)=List.replicate k []++r.take p::T)/\Hid (au (fun k=>k=Cb\/x=some k) w3 w))
      case first=>
       have be:aH 208 #[.slice (some (ae b off)) p y] wr.drew fun e w6=>∃u j z,e=.returned (.slice u p j)/\Hid (p<=j)/\Hid (∀a,u=some a->W.heap.size<=a.block)/\Hid (KD w6 u (r.take p))/\Hid (ma w6 base Cb (aj g K P) ch1 l.length wk)/\Hid (Below wr.drew.heap.size wr.drew w6)/\w6.cell? (ae Cb 1)=some (aj g K P)/\w6.cell? (ae g k)=some z/\w6.frozen? (ae g k)=false:=by
        refine am.o.mono ?_;rintro e w6 ⟨cA,rfl,a8,a5⟩;obtain⟨u,j,rfl,cb,a4,bI⟩:=KD.aC a8;have al:=q.o.drew.below a5;obtain⟨b7,a1,b8,b9⟩:=al.cell;have J:=al.row;rw[aE]at J;have aN:=J.cellAt k (by omega);have a0:=J.frozenAt k;rw[dw (show k<(ch1.map dQ).length by simp;omega)]at aN;rw[U]at a4;exact⟨u,j,_,by rw[U],a4,(fun a bJ=>by have d:=(a8.lt a.block (by rw[bJ];rfl)).1;have G:=t.o.size;have ca:=s.o.size;simp at d;omega),bI,al,a5,a1,aN,a0⟩
       clear am;have cp:(k:Int)<(K:Int):=by omega
       go_region_with (go_at_call 208;with_reducible refine be.mono ?_;rintro e w6 ⟨u,j,z,rfl,bi,bf,bu,aR,aP,a1,aN,a0⟩)
       all_goals go_wp2_with fail
       all_goals go_meet
       all_goals
        have bQ:Value.slice u p j=dQ (u,r.take p,j):=by unfold dQ;simp only;rw[U]
        rw[bQ];have bO:x=some g:=ar.o;exact⟨ch1.set k (u,r.take p,j),aR.o.Kz aE.symm k _,L.o.set bf.o,E5 (D.o.kept (W':=w6) fun b b1 fr i=>aL (W:=wr.drew) aP.o i) (aR.o.eU (W':=w6.setCell (ae g k) (dQ (u,r.take p,j))) rfl ((au.refl _ w6).set (a:=(ae g k)) _ (.inl (.inr rfl)))) bu.o (by show(r.take p).length<=j;rw[U];exact bi.o),V.o _ rfl,(((t.o.drew).below aP.o).set (a:=(ae g k)) _ (.inl (.inr bO)))⟩
      case rest=>
       obtain⟨F,bg,bo,bs,bn,aT⟩:=hcut;clear am q D A V t aw ax az aA bK ba X
       go_wp2_with (refine Au E9 (M.o _ aT.o) bc p r.length ak (ay _) rfl _ _ _ rfl rfl rfl rfl ?_;intro bw bb;simp only[jy]at bb)
       go_roundw
       case rel=>exact⟨k,bw,r.drop p,y-p,F,r.take p::T,rfl,(by rw[kS]),by omega,(by rw[kS];omega),(by rw[ao.o];exact ap),(fun W' R=>bb W' (M.o W' R)),bg,bo,bs,bn,aq,aT⟩
       case measure=>simp[intOf]
     .have B:l.length.testBit k=false:=by simpa using i
      rw[B]at O;simp only[jA,qg]at O;have I:=ai.2 B;rw[<-X.o]at I;have ak:¬2^k<=r.length:=by have:=nz l.length (oV (n:=k) (show 0<2 by decide));omega
      have aq:Hid (setC K l=setC k r++[]::T):=by
       have d:=Y.o;rw[setC,aI ak,dW]at d;exact d
      have V:Hid (ch1.map (·.2.1)=List.replicate k []++[]::T):=by
       have d:=A.o;rw[qD,dW]at d;exact d
      have ap:=af I;clear ai i B I;generalize S:2^k=p at*;have ao:=af S;clear S
      go_wp2_with fail
      go_roundw
      case rel=>exact⟨k,ad,r,y,ch1,[]::T,rfl,rfl,by omega,bc,by rw[ao.o];exact ap,M,q,L,D,V,aq,t⟩
      case measure=>simp[intOf]
  case rest=>
   obtain⟨ch1,q,L,D,A,t⟩:=hcut;obtain⟨aw,ax,az,aA⟩:=q.o.cell;have b6:=q.o.frozen 3;have bh:=af (q.o.O6 (wrap64 (wk+(l.length:Int))));have bt:Hid (ql (wc.setCell (ae Cb 3) (.int .i64 (wrap64 (wk+(l.length:Int))))) ch1):=D.o.kept (q.o.eU rfl ((au.refl _ wc).set (a:=(ae Cb 3)) _ (.inl (.inl rfl))));have bj:Hid (au (fun k=>k=Cb) W (wc.setCell (ae Cb 3) (.int .i64 (wrap64 (wk+(l.length:Int)))))):=by
    have cu:=s.o.size;have d:au (fun k=>k=Cb\/W.heap.size<=k) W wc:=(s.o.mono (fun k h=>.inl h)).trans (t.o.mono (fun k h=>h.imp id (fun h9=>by
     rcases E.o with Q|⟨b,Q,cc⟩
     .rw[ar.o,Q]at h9;cases h9
     .rw[ar.o,Q]at h9;injection h9 with h9;omega)))
    have G:au (fun k=>k=Cb) W wc:=⟨d.os,d.tape,d.output,d.size,fun k R bT=>d.block k R (fun h9=>by rcases h9 with h9|h9;exact bT h9;omega)⟩;exact G.set (a:=(ae Cb 3)) _ (.inl rfl)
   clear s t aX f aV;go_wp2;go_ret;exact⟨_,ch1,_,rfl,bh.o,bt.o,by rw[bH];exact A.o,E.o,bj.o,L.o,rfl⟩
end
section
open Go.RowKit Go.Sort Go.Shelf Go.Lib Go.Maps
open Go.ChangeMaps (setBlock)
def Bk (w:World) (F:Nat->Prop) (tb n0:Nat) (l:List Pt):Prop:=∃lo m0 m1 m2 m3 m4 hi bx cn hp lw ob tl sv dn,lG w F tb n0 l lo m0 m1 m2 m3 m4 hi bx cn hp lw ob tl sv dn
section
variable {w w':World} {F S:Nat->Prop} {tb n0:Nat} {l:List Pt}
theorem Bk.kept (h:Bk w F tb n0 l) (K:au S w w') (hS:∀k,F k->¬S k):Bk w' F tb n0 l:=by
 have⟨lo,m0,m1,m2,m3,m4,hi,bx,cn,hp,lw,ob,tl,sv,dn,h⟩:=h;exact⟨lo,m0,m1,m2,m3,m4,hi,bx,cn,hp,lw,ob,tl,sv,dn,h.kept K hS⟩
theorem Bk.below (h:Bk w F tb n0 l) (a:Below w.heap.size w w'):Bk w' F tb n0 l:=h.kept (S:=fun _=>False) ((au.refl _ _).below a) fun _ _ h=>h
theorem Bk.lt (h:Bk w F tb n0 l):∀k,F k->k<w.heap.size:=by
 have⟨lo,m0,m1,m2,m3,m4,hi,bx,cn,hp,lw,ob,tl,sv,dn,h⟩:=h;exact h.fin.2.2
theorem R8 (a:Option Addr) (c:Nat) (l:List Pt) (w:World) (f:cz dx 3 w a l) (g:l.length<=20000) (i:Gz l) (hu:(ids l).Nodup):
  aH 52 #[.slice a l.length c] w fun e w'=>∃tb,e=.returned (ah tb)/\Bk w' (fun k=>w.heap.size<=k/\k<w'.heap.size) tb l.length l/\Below w.heap.size w w':=by
 refine(Oh a c l w f g i (by unfold kQ;exact decide_eq_true hu)).mono ?_;rintro e w' ⟨tb,m0,m1,m2,m3,m4,bx,cn,hp,lw,ob,tl,d,h,b⟩;exact⟨tb,d,⟨_,_,_,_,_,_,_,_,_,_,_,_,_,_,_,h⟩,b⟩
theorem Tw (h:Bk w F tb n0 l) (p:Pt) (d:p∈l):
  aH 53 #[ah tb,iD p.1 p.2.1 p.2.2] w fun e w'=>e=.returned (.bool true)/\Bk w' (fun k=>F k\/w.heap.size<=k/\k<w'.heap.size) tb n0 (l.filter fun q=>decide (q≠p))/\au F w w':=by
 have⟨lo,m0,m1,m2,m3,m4,hi,bx,cn,hp,lw,ob,tl,sv,dn,h⟩:=h;refine(Qj h p.1 p.2.1 p.2.2 d).mono ?_;rintro e w' ⟨c,f,g,a,b⟩;exact⟨c,⟨_,_,_,_,_,_,_,_,_,_,_,_,_,_,_,a⟩,b⟩
theorem Uy (h:Bk w F tb n0 l):
  aH 63 #[ah tb] w fun e w'=>∃a c,e=.returned (.slice a (bR l).length c)/\(bR l).length<=c/\cz dx 3 w' a (bR l)/\Bk w' (fun k=>F k\/w.heap.size<=k/\k<w'.heap.size) tb n0 l/\au F w w':=by
 have⟨lo,m0,m1,m2,m3,m4,hi,bx,cn,hp,lw,ob,tl,sv,dn,h⟩:=h;refine(R5 h).mono ?_;rintro e w' ⟨a,c,g,f,i,j,b,d⟩;exact⟨a,c,g,f,i,⟨_,_,_,_,_,_,_,_,_,_,_,_,_,_,_,b⟩,d⟩
end
def vTr:Option Nat->Value
 |none=>.pointer none
 |some b=>ah b
def kN (w:World) (mb:Nat) (A:List eG):Prop:=∃D,w.ownsMap prog 29 (plainElem prog 3) mb A.length D/\rf D A
theorem kN.fit {w:World} {mb n:Nat} {A:List eG} {D:DataW Unit} (h:w.ownsMap prog 29 (plainElem prog 3) mb n D) (a:rf D A):kN w mb A:=by
 refine⟨D,?_,a⟩;rw[<-a.2.1];obtain⟨c,b,d,F,e,rfl⟩:=h;exact⟨c,b,d,F,by simp[Maps.size,length_sorted],rfl⟩
theorem kN.lt {w:World} {mb:Nat} {A:List eG} (h:kN w mb A):mb<w.heap.size:=by
 obtain⟨D,⟨c,b,a,-⟩,-⟩:=h;exact(aZ.1 a).1
theorem kN.same {w w':World} {mb:Nat} {A:List eG} (h:kN w mb A) (e:w'.heap[mb]? =w.heap[mb]?):kN w' mb A:=by
 obtain⟨D,⟨b,a,d,r⟩,c⟩:=h;exact⟨D,⟨b,a,e.trans d,r⟩,c⟩
theorem kN.look {w:World} {mb:Nat} {A:List eG} (h:kN w mb A) {p:Pt} (hp:Gy p) (s:(A.map (·.1)).Nodup):
  (∃c∈A,c.1=p/\(Instr.lookup 188 (.map (some mb)) (iD p.1 p.2.1 p.2.2) true).run prog w=.ok (.tuple #[aa c.2,.bool true]) w)\/
  (p∉A.map (·.1)/\(Instr.lookup 188 (.map (some mb)) (iD p.1 p.2.1 p.2.2) true).run prog w=.ok (.tuple #[aa 0,.bool false]) w):=by
 have⟨D,n,j⟩:=h;have⟨v,r,d,f⟩:=n.look_ok (Keyed.of_law Fq) underlying188 (zeroValue3 w) (ui underlying3 (by decide)) (xI hp);rw[(j.2.2 p hp).2]at d;rw[(j.2.2 p hp).1]at f;have l:∀x:Int,plainElem (H:=Unit) prog 3 v=some (DataW.lit (.int .i64 x),r)->v=.int .i64 x:=fun x q=>by
  obtain⟨a,rfl,e,t⟩:=plainElem_int_inv underlying3 q;simp at e;rw[e.1]
 cases b:A.find? fun c=>decide (c.1=p)with
 |none=>
  right;rw[b]at f;have m:=List.find?_eq_none.1 b;have i:(A.any fun c=>decide (c.1=p))=false:=Dm.2 m;rw[i,l 0 f]at d;exact⟨fun o=>by
   have⟨c,g,e⟩:=dI.1 o;exact m c g (by simpa using e),d⟩
 |some c=>
  left;rw[b]at f;have g:=List.mem_of_find?_eq_some b;have k:c.1=p:=by simpa using List.find?_some b
  have i:(A.any fun c=>decide (c.1=p))=true:=List.any_eq_true.2 ⟨c,g,by simpa using k⟩;rw[i,l c.2 f]at d;exact⟨c,g,k,d⟩
theorem kN.size {w:World} {mb:Nat} {A:List eG} (h:kN w mb A):(Builtin.len_ #[188] 3 #[.map (some mb)]).run prog w=.ok (.int .i64 A.length) w:=by
 have⟨D,a,b⟩:=h;rw[a.len underlying188 3,b.2.1]
abbrev yj:Value:=.func (.func 52) #[] #[]
abbrev CF:Value:=.func (.func 53) #[] #[]
structure iN (w:World) (X:Nat->Prop) (Hb Cb mb:Nat) (cv tv av lv:Value) (ch:List yZ) (T:List (Option Nat)) (al:List Bool) (eP:List Int) (A:List eG) (N wk:Int):Prop where
 blk:w.heap[Hb]? =some (Obj.cells #[yj,CF,ah Cb,tv,av,lv,.map (some mb)] 190 (0,0))
 fH:ma w 0 Cb cv ch N wk
 rows:ql w ch
 jh:w.ownsRow 0 106 1 tv T.length (T.map vTr)
 dP:w.ownsRow 0 4 1 av al.length (al.map Value.bool)
 mD:w.ownsRow 0 3 1 lv eP.length (eP.map (Value.int .i64))
 map:kN w mb A
 iT:X Hb/\X Cb/\X mb/\(∀k,cv.ownBlock=some k->X k)/\(∀k,tv.ownBlock=some k->X k)/\(∀k,av.ownBlock=some k->X k)/\(∀k,lv.ownBlock=some k->X k)
 OU:∀h∈ch,h.2.1≠[]->∀a,h.1=some a->X a.block
structure mX (w:World) (F:Nat->Nat->Prop) (X:Nat->Prop) (CB:List (List eG)) (T:List (Option Nat)) (al:List Bool):Prop where
 tr:∀(i:Nat) (h:i<CB.length),CB[i]≠[]->∃tb n0,T[i]? =some (some tb)/\n0<=CB[i].length/\Bk w (F i) tb n0 (rE al CB[i])
 off:∀i k,F i k->¬X k
 ap:∀i j k,F i k->F j k->i=j
 lt:∀i k,F i k->k<w.heap.size
section
variable {w w':World} {X S:Nat->Prop} {F:Nat->Nat->Prop} {Hb Cb mb:Nat} {cv tv av lv:Value} {ch:List yZ} {T:List (Option Nat)} {al:List Bool} {eP:List Int} {A:List eG} {N wk:Int} {CB:List (List eG)}
theorem iN.kept (h:iN w X Hb Cb mb cv tv av lv ch T al eP A N wk) (K:au S w w') (hS:∀k,X k->¬S k):iN w' X Hb Cb mb cv tv av lv ch T al eP A N wk:=
 ⟨bF K h.blk (hS _ h.iT.1),⟨bf _,h.fH.ds,bF K h.fH.blk (hS _ h.iT.2.1),aS h.fH.row K fun a e=>hS _ (h.iT.2.2.2.1 a e)⟩,h.rows.ME h.OU K hS,aS h.jh K fun a e=>hS _ (h.iT.2.2.2.2.1 a e),aS h.dP K fun a e=>hS _ (h.iT.2.2.2.2.2.1 a e),aS h.mD K fun a e=>hS _ (h.iT.2.2.2.2.2.2 a e),h.map.same (K.block _ h.map.lt (hS _ h.iT.2.2.1)),h.iT,h.OU⟩
theorem iN.below (h:iN w X Hb Cb mb cv tv av lv ch T al eP A N wk) (a:Below w.heap.size w w'):iN w' X Hb Cb mb cv tv av lv ch T al eP A N wk:=h.kept (S:=fun _=>False) ((au.refl _ _).below a) fun _ _ h=>h
theorem iN.cell (h:iN w X Hb Cb mb cv tv av lv ch T al eP A N wk):w.cell? (ae Hb 0)=some yj/\w.cell? (ae Hb 1)=some CF/\w.cell? (ae Hb 2)=some (ah Cb)/\w.cell? (ae Hb 3)=some tv/\w.cell? (ae Hb 4)=some av/\w.cell? (ae Hb 5)=some lv/\w.cell? (ae Hb 6)=some (.map (some mb)):=by
 have:=h.blk;refine⟨?_,?_,?_,?_,?_,?_,?_⟩<;>simp[World.cell?,this]
theorem iN.frozen (h:iN w X Hb Cb mb cv tv av lv ch T al eP A N wk) (j:Nat):w.frozen? (ae Hb j)=false:=by
 have:=h.blk;simp[World.frozen?,this]
theorem iN.lt (h:iN w X Hb Cb mb cv tv av lv ch T al eP A N wk):Hb<w.heap.size:=(aZ.1 h.blk).1
theorem mX.kept (h:mX w F X CB T al) (K:au S w w') (hS:∀i k,F i k->¬S k):mX w' F X CB T al:=
 ⟨fun i hi e=>by
  have⟨tb,n0,a,b,c⟩:=h.tr i hi e;exact⟨tb,n0,a,b,c.kept K (hS i)⟩,h.off,h.ap,fun i k d=>bB (h.lt i k d) K.size⟩
theorem za (h:iN w X Hb Cb mb cv tv av lv ch T al eP A N wk):aH 134 #[ah Hb] w fun e w'=>e=.returned (.bool false)/\w'=w:=by
 obtain⟨-,-,a,-⟩:=h.cell;go_enter func134,ntmps134;go_wp2;go_ret;exact⟨rfl,rfl⟩
theorem LH (h:iN w X Hb Cb mb cv tv av lv ch T al eP A N wk):aH 87 #[ah Hb] w (eY w (aa N)):=by
 have b:=af (za h);have a:=af (MF h.fH);obtain⟨-,-,d,-⟩:=h.cell;go_enter func87,ntmps87
 go_wp2_with (first|(go_at_call 134;refine b.o.mono ?_;rintro e w1 ⟨rfl,rfl⟩)|(go_at_call 139;refine a.o.mono ?_;rintro e w1 ⟨rfl,c⟩))
 go_ret;exact⟨rfl,c⟩
end
end
section
open Go.RowKit Go.Sort Go.Shelf Go.Lib Go.Maps
theorem dH {W:World} {base:Nat} {e:TypeId} {sz n:Nat} {v:Value} {xs:List Value} (d:W.ownsRow base e sz v n xs) {k:Nat} (b:v.ownBlock=some k):∃a,W.heap[k]? =some (Obj.cells a e (0,0)):=by
 rcases d.2 with⟨rfl,_⟩|⟨g,f,a,rfl,_,c,_⟩
 .cases b
 .simp only[Value.ownBlock,iV]at b;subst b;exact⟨a,c⟩
theorem Bh {P:Program} {ops:Array Oper} {o:Oper} {a:Act} {K:Act->World->Prop} {Q:Exit->Act->World->Prop} {E0:Prop} {f:FuncId} {w:World} {vals:Array Value} {R:Ending->World->Prop} (j:∀args w,(callFunc f args).run P w=.ok (.enter f args) w) (k:o.guard=none) (c:Operand) (args:Array Operand) (q:Array TypeId) (m:o.op=.call {callee:=.value c,args:=args,argTypes:=q}) (g:a.eval c=.func (.func f) #[] #[]) (d:vals=(args.toList.map a.eval).toArray)
  (C:Calls P f vals w R) (h:∀e w',R e w'->∃v,e=.returned v/\K (a.put o.dst v) w'):
  if Region.wanted o (yielded ops a.tmps)=true then Oper.wp P o a w K Q else E0:=by
 have p:Region.wanted o (yielded ops a.tmps)=true:=by simp[Region.wanted,k]
 rw[aK p];unfold Oper.wp;have b:args.map a.eval=vals:=by rw[d,<-Dp]
 have i:(execOp a.eval o).run P w=.ok (.enter f vals) w:=by
  simp[execOp,m,resolve,invoke,b,g,Deferred.ofValue,j]
 rw[i,Oper.upon_enter];refine C.mono fun e w' n=>?_;obtain⟨v,rfl,l⟩:=h e w' n;exact l
abbrev qw:TypeId:=190
abbrev uP (Cb mb:Nat) (tv av lv:Value):Array Value:=#[yj,CF,ah Cb,tv,av,lv,.map (some mb)]
section
variable {w w' w6:World} {X S:Nat->Prop} {F:Nat->Nat->Prop} {Hb Cb mb:Nat} {cv tv av lv:Value} {ch:List yZ} {T:List (Option Nat)} {al:List Bool} {eP:List Int} {A:List eG} {N wk:Int} {CB:List (List eG)}
theorem iN.more {X':Nat->Prop} (h:iN w X Hb Cb mb cv tv av lv ch T al eP A N wk) (b:∀k,X k->X' k):iN w X' Hb Cb mb cv tv av lv ch T al eP A N wk:=
 ⟨h.blk,h.fH,h.rows,h.jh,h.dP,h.mD,h.map,⟨b _ h.iT.1,b _ h.iT.2.1,b _ h.iT.2.2.1,fun k e=>b _ (h.iT.2.2.2.1 k e),fun k e=>b _ (h.iT.2.2.2.2.1 k e),fun k e=>b _ (h.iT.2.2.2.2.2.1 k e),fun k e=>b _ (h.iT.2.2.2.2.2.2 k e)⟩,fun x d c a e=>b _ (h.OU x d c a e)⟩
theorem iN.ty (h:iN w X Hb Cb mb cv tv av lv ch T al eP A N wk) {t:TypeId} (K:au S w w') (hS:∀k,S k->k=Hb\/∃cs fr,w.heap[k]? =some (Obj.cells cs t fr)):
  (t≠278/\t≠213->ma w' 0 Cb cv ch N wk)/\(t≠187->ql w' ch)/\(t≠106->w'.ownsRow 0 106 1 tv T.length (T.map vTr))/\
  (t≠4->w'.ownsRow 0 4 1 av al.length (al.map Value.bool))/\(t≠3->w'.ownsRow 0 3 1 lv eP.length (eP.map (Value.int .i64)))/\kN w' mb A:=by
 have l:∀{b:Nat} {cs:Array Value} {d:TypeId} {fr:Nat×Nat},w.heap[b]? =some (Obj.cells cs d fr)->d≠qw->t≠d->w'.heap[b]? =w.heap[b]? :=fun{b cs d fr} a f g=>K.block b (aZ.1 a).1 fun j=>by
  rcases hS b j with rfl|⟨o,r,i⟩
  .exact dU a h.blk f rfl
  .exact dU i a g rfl
 have c:∀{e:TypeId} {sz n:Nat} {v:Value} {xs:List Value},w.ownsRow 0 e sz v n xs->e≠qw->t≠e->w'.ownsRow 0 e sz v n xs:=fun{e sz n v xs} m f g=>aV m fun y q=>by
  have⟨p,s⟩:=dH m q;exact l s f g
 refine⟨fun ht=>⟨bf _,h.fH.ds,(l h.fH.blk (by decide) ht.1).trans h.fH.blk,c h.fH.row (by decide) ht.2⟩,fun ht=>h.rows.kept fun b p fr a=>l a (by decide) ht,fun ht=>c h.jh (by decide) ht,fun ht=>c h.dP (by decide) ht,fun ht=>c h.mD (by decide) ht,h.map.same ?_⟩;refine K.block _ h.map.lt fun j=>?_;obtain⟨D,⟨x,u,a,-⟩,-⟩:=h.map;rcases hS mb j with e|⟨o,r,i⟩
 .rw[e,h.blk]at a;cases a
 .rw[i]at a;cases a
theorem iN.yK (h:iN w X Hb Cb mb cv tv av lv ch T al eP A N wk) {e:TypeId} {n:Nat} {v:Value} {xs:List Value} (d:w.ownsRow 0 e 1 v n xs) (c:e≠qw):v.ownBlock≠some Hb:=fun a=>by
 have⟨f,b⟩:=dH d a;exact dU h.blk b (fun h=>c h.symm) rfl
theorem iN.Tx (h:iN w X Hb Cb mb cv tv av lv ch T al eP A N wk) {v a:Value} (f:v.ownBlock≠some Hb) (d:a.ownBlock=v.ownBlock\/∃b,a.ownBlock=some b/\w.heap.size<=b):a.ownBlock≠some Hb:=by
 rcases d with e|⟨b,e,d⟩
 .rw[e];exact f
 .rw[e];intro c;injection c with c;have:=h.lt;omega
theorem iN.QR (h:iN w X Hb Cb mb cv tv av lv ch T al eP A N wk) (c:w.grownBy w6 tv.ownBlock) {tv':Value} {T':List (Option Nat)} (m:w6.ownsRow 0 106 1 tv' T'.length (T'.map vTr)) (l:tv'.ownBlock≠some Hb):
  iN (w6.setCell (ae Hb 3) tv') (fun k=>X k\/tv'.ownBlock=some k) Hb Cb mb cv tv' av lv ch T' al eP A N wk:=by
 have b:=h.yK h.jh (by decide);have d:au (fun k=>k=Hb\/tv.ownBlock=some k) w (w6.setCell (ae Hb 3) tv'):=(((au.refl (fun k=>k=Hb\/tv.ownBlock=some k) w).grown c fun k e=>.inl (.inr e)).set _ (.inl (.inl rfl)));obtain⟨t1,t2,-,t4,t5,t6⟩:=h.ty (t:=106) d (fun k j=>j.imp id fun e=>by obtain⟨o,i⟩:=dH h.jh e;exact⟨_,_,i⟩);have g:w6.heap[Hb]? =some (Obj.cells (uP Cb mb tv av lv) qw (0,0)):=(c.block Hb h.lt fun e=>b e.symm).trans h.blk;refine⟨?_,t1 (by decide),t2 (by decide),aV m fun p e=>az fun f=>l (by rw[e,<-f]),t4 (by decide),t5 (by decide),t6,⟨.inl h.iT.1,.inl h.iT.2.1,.inl h.iT.2.2.1,fun k e=>.inl (h.iT.2.2.2.1 k e),fun k e=>.inr e,fun k e=>.inl (h.iT.2.2.2.2.2.1 k e),fun k e=>.inl (h.iT.2.2.2.2.2.2 k e)⟩,fun x n b a e=>.inl (h.OU x n b a e)⟩;rw[dA w6 Hb 3 _ _ _ g];rfl
theorem iN.Ty {g n c:Nat} (h:iN w X Hb Cb mb cv (aj g n c) av lv ch T al eP A N wk) (j:Nat) (x:Option Nat):iN (w.setCell (ae g j) (vTr x)) X Hb Cb mb cv (aj g n c) av lv ch (T.set j x) al eP A N wk:=by
 have i:=h.yK h.jh (by decide);have b:au (fun k=>k=g) w (w.setCell (ae g j) (vTr x)):=(au.refl (fun k=>k=g) w).set _ (.inl rfl);obtain⟨t1,t2,-,t4,t5,t6⟩:=h.ty (t:=106) b (fun k f=>.inr (by obtain⟨l,d⟩:=dH h.jh (k:=k) (by rw[f];rfl);exact⟨_,_,d⟩));obtain rfl:n=T.length:=by
  rcases h.jh.2 with⟨e,_⟩|⟨_,_,_,e,_⟩
  .cases e
  .injection e with _ e
 refine⟨(az (a:=(ae g j)) fun e:g=Hb=>i (by show some g=_;rw[e])).trans h.blk,t1 (by decide),t2 (by decide),?_,t4 (by decide),t5 (by decide),t6,h.iT,h.OU⟩;rw[j3,jY];exact(h.jh.stored j (vTr x)).1
theorem iN.Uz {g n c:Nat} (h:iN w X Hb Cb mb cv tv av (aj g n c) ch T al eP A N wk) (j:Nat) (x:Int):iN (w.setCell (ae g j) (.int .i64 x)) X Hb Cb mb cv tv av (aj g n c) ch T al (eP.set j x) A N wk:=by
 have i:=h.yK h.mD (by decide);have b:au (fun k=>k=g) w (w.setCell (ae g j) (.int .i64 x)):=(au.refl (fun k=>k=g) w).set _ (.inl rfl);obtain⟨t1,t2,t3,t4,-,t6⟩:=h.ty (t:=3) b (fun k f=>.inr (by obtain⟨l,d⟩:=dH h.mD (k:=k) (by rw[f];rfl);exact⟨_,_,d⟩));obtain rfl:n=eP.length:=by
  rcases h.mD.2 with⟨e,_⟩|⟨_,_,_,e,_⟩
  .cases e
  .injection e with _ e
 refine⟨(az (a:=(ae g j)) fun e:g=Hb=>i (by show some g=_;rw[e])).trans h.blk,t1 (by decide),t2 (by decide),t3 (by decide),t4 (by decide),?_,t6,h.iT,h.OU⟩;rw[j3,jY];exact(h.mD.stored j (.int .i64 x)).1
theorem iN.UA {g n c:Nat} (h:iN w X Hb Cb mb cv tv (aj g n c) lv ch T al eP A N wk) (j:Nat) (x:Bool):iN (w.setCell (ae g j) (.bool x)) X Hb Cb mb cv tv (aj g n c) lv ch T (al.set j x) eP A N wk:=by
 have i:=h.yK h.dP (by decide);have b:au (fun k=>k=g) w (w.setCell (ae g j) (.bool x)):=(au.refl (fun k=>k=g) w).set _ (.inl rfl);obtain⟨t1,t2,t3,-,t5,t6⟩:=h.ty (t:=4) b (fun k f=>.inr (by obtain⟨l,d⟩:=dH h.dP (k:=k) (by rw[f];rfl);exact⟨_,_,d⟩));obtain rfl:n=al.length:=by
  rcases h.dP.2 with⟨e,_⟩|⟨_,_,_,e,_⟩
  .cases e
  .injection e with _ e
 refine⟨(az (a:=(ae g j)) fun e:g=Hb=>i (by show some g=_;rw[e])).trans h.blk,t1 (by decide),t2 (by decide),t3 (by decide),?_,t5 (by decide),t6,h.iT,h.OU⟩;rw[j3,jY];exact(h.dP.stored j (.bool x)).1
theorem iN.Ol {f:Value} {g:List yZ} {p u:Int} (h:iN w X Hb Cb mb cv tv av lv ch T al eP A N wk) (K:au (fun k=>k=Cb\/cv.ownBlock=some k) w w') (d:ma w' 0 Cb f g p u) (i:ql w' g) (B:Nw w.heap.size ch g) (c:f.ownBlock=cv.ownBlock\/f.ownBlock=none\/∃b,f.ownBlock=some b/\w.heap.size<=b):
  iN w' (fun k=>X k\/w.heap.size<=k/\(f.ownBlock=some k\/∃h∈g,h.2.1≠[]/\∃a,h.1=some a/\a.block=k)) Hb Cb mb f tv av lv g T al eP A p u:=by
 have t:∀{b:Nat} {cs:Array Value} {j:TypeId} {fr:Nat×Nat},w.heap[b]? =some (Obj.cells cs j fr)->j≠278->j≠213->w'.heap[b]? =w.heap[b]? :=fun{b cs j fr} c l m=>K.block b (aZ.1 c).1 fun h9=>by
  rcases h9 with rfl|h9
  .exact dU c h.fH.blk l rfl
  .obtain⟨q,d⟩:=dH h.fH.row h9;exact dU c d m rfl
 have o:∀{e:TypeId} {sz n:Nat} {v:Value} {xs:List Value},w.ownsRow 0 e sz v n xs->e≠278->e≠213->w'.ownsRow 0 e sz v n xs:=fun{e sz n v xs} i l m=>aV i fun F y=>by
  have⟨q,d⟩:=dH i y;exact t d l m
 refine⟨(t h.blk (by decide) (by decide)).trans h.blk,d,i,o h.jh (by decide) (by decide),o h.dP (by decide) (by decide),o h.mD (by decide) (by decide),h.map.same ?_,⟨.inl h.iT.1,.inl h.iT.2.1,.inl h.iT.2.2.1,fun k e=>?_,fun k e=>.inl (h.iT.2.2.2.2.1 k e),fun k e=>.inl (h.iT.2.2.2.2.2.1 k e),fun k e=>.inl (h.iT.2.2.2.2.2.2 k e)⟩,fun x s r a e=>?_⟩
 .refine K.block _ h.map.lt fun h9=>?_;obtain⟨D,⟨E,C,c,-⟩,-⟩:=h.map;rcases h9 with e|e
  .rw[e,h.fH.blk]at c;cases c
  .obtain⟨q,d⟩:=dH h.fH.row e;rw[d]at c;cases c
 .rcases c with e1|e1|⟨b,e1,c⟩
  .exact .inl (h.iT.2.2.2.1 k (by rw[<-e1];exact e))
  .rw[e1]at e;cases e
  .have:b=k:=by rw[e1]at e;injection e
   exact .inr ⟨by omega,.inl e⟩
 .rcases B x s with z|h9
  .exact .inl (h.OU x z r a e)
  .exact .inr ⟨h9 a e,.inr ⟨x,s,r,a,e,rfl⟩⟩
end
end
section
open Go.RowKit Go.Sort Go.Shelf Go.Lib Go.Maps
attribute [local irreducible] wpQuiet
attribute [local go_sem] Oper.fo
theorem Tz:eH prog 111 106 1 8:=.mk' (z:=.pointer none) underlying111 (by kernel_rfl) rfl (by decide)
theorem I1:∀args w,(callFunc 52 args).run prog w=.ok (.enter 52 args) w:=cK func52 (by kernel_rfl) rfl
def Bi (Hb:Nat) (w:World):Nat:=match w.cell? (ae Hb 3)with|some (.slice _ n _)=>n|_=>0
section
variable {w w' w6:World} {X S:Nat->Prop} {F:Nat->Nat->Prop} {Hb Cb mb:Nat} {cv tv av lv:Value} {ch:List yZ} {T:List (Option Nat)} {al:List Bool} {eP:List Int} {A:List eG} {N wk:Int}
theorem iN.Bi (h:iN w X Hb Cb mb cv tv av lv ch T al eP A N wk):Bi Hb w=T.length:=by
 obtain⟨a,b,rfl,-,-,-⟩:=Rd.aC (enc:=vTr) h.jh;unfold Proofs.YtkjdbndekceffaaGreat.Bi;rw[h.cell.2.2.2.1]
def yS (T:List (Option Nat)) (i tb:Nat):List (Option Nat):=(T++List.replicate (i+1-T.length) none).set i (some tb)
def TA (w:World) (X:Nat->Prop) (Hb Cb mb:Nat) (cv tv av lv:Value) (ch:List yZ) (T:List (Option Nat)) (al:List Bool) (eP:List Int) (A:List eG) (N wk:Int) (l:List eG) (i:Nat) (e:Ending) (w':World):Prop:=
 e=.returned (.tuple #[])/\∃(tv':Value) (tb m:Nat) (Fn:Nat->Prop),iN w' (fun k=>X k\/w.heap.size<=k/\k<m) Hb Cb mb cv tv' av lv ch (yS T i tb) al (gT eP l i) A N wk/\Bk w' Fn tb (rE al l).length (rE al l)/\(∀k,Fn k->m<=k)/\(w.heap.size<=m/\m<=w'.heap.size)/\
  (tv'.ownBlock=tv.ownBlock\/∃b,tv'.ownBlock=some b/\w.heap.size<=b)/\au (fun k=>k=Hb\/tv.ownBlock=some k\/lv.ownBlock=some k) w w'
theorem J5 (h:iN w X Hb Cb mb cv tv av lv ch T al eP A N wk) (a:Option Addr) (c:Nat) (l:List eG) (i:Nat) (bv:KD w a l) (hi:i<=20) (cO:T.length<=100) (c8:l.length<=5000) (bA:∀c∈l,∃k:Nat,c.2=k/\k<al.length) (bz:eP.length=al.length) (cQ:al.length<=10000) (bH:Gz (rE al l)) (hu:(ids (rE al l)).Nodup) (bp:∀k,X k->k<w.heap.size):
  aH 136 #[ah Hb,aa i,.slice a l.length c] w (TA w X Hb Cb mb cv tv av lv ch T al eP A N wk l i):=by
 have H:=af h;have bY:Hid (∀W',au (fun k=>k=Hb\/tv.ownBlock=some k\/lv.ownBlock=some k) w W'->cz kJ 4 W' a l):=fun W' K=>(bv.kept fun b bl fr hb=>K.block b (aZ.1 hb).1 (by
  rintro(rfl|e|e)
  .exact dU hb h.blk (by decide) rfl
  .obtain⟨bl,a0⟩:=dH h.jh e;exact dU hb a0 (by decide) rfl
  .obtain⟨bl,a0⟩:=dH h.mD e;exact dU hb a0 (by decide) rfl)).Mi
 have bU:=af bA;have b4:=af bH;have b3:=af hu;have bb:=af bz;have b5:=af bp;have cD:Hid (∀n,tv.ownBlock=some n->n<w.heap.size):=fun n e=>(h.jh.lt n e).2;have bT:Hid (∀n,lv.ownBlock=some n->n<w.heap.size):=fun n e=>(h.mD.lt n e).2;clear h bv bA bH hu bz bp;go_enter func136,ntmps136
 go_upto_block 0 with fail
 go_cut []from 10 to 26 (fun E=>∃tv':Value,Hid (iN E (fun b=>X b\/w.heap.size<=b/\b<E.heap.size) Hb Cb mb cv tv' av lv ch (T++List.replicate (i+1-T.length) none) al eP A N wk)/\Hid (tv'.ownBlock=tv.ownBlock\/∃b,tv'.ownBlock=some b/\w.heap.size<=b)/\Hid (au (fun b=>b=Hb\/tv.ownBlock=some b) w E))
 case first=>
  go_wp2_with fail
  go_loopw [] (fun wr=>∃(k:Nat) (tv':Value),k<=i+1-T.length/\Hid (iN wr (fun b=>X b\/w.heap.size<=b/\b<wr.heap.size) Hb Cb mb cv tv' av lv ch (T++List.replicate k none) al eP A N wk)/\Hid (tv'.ownBlock=tv.ownBlock\/∃b,tv'.ownBlock=some b/\w.heap.size<=b)/\Hid (au (fun b=>b=Hb\/tv.ownBlock=some b) w wr)) (fun wr=>i+1-Bi Hb wr)
  case atStart=>exact⟨0,tv,bf _,af (by rw[List.replicate_zero,iE];exact H.o.more fun k hk=>.inl hk),.inl rfl,au.refl _ _⟩
  case round=>
   obtain⟨k,tv',hk,d,F,C⟩:=hrel;obtain⟨cw,tc,G,-,db,-⟩:=Rd.aC (enc:=vTr) d.o.jh;obtain⟨-,-,-,ax,-⟩:=d.o.cell;have cB:=af d.o.Bi;have bx:(T++List.replicate k (none:Option Nat)).length=T.length+k:=by simp
   by_cases c6:T.length+k<=i
   .have bF:=d.o.jh;have bQ:Hid (∀B,wr.grownBy B tv'.ownBlock->B.heap[Hb]? =some (Obj.cells (uP Cb mb tv' av lv) qw (0,0))):=fun B y=>(y.block Hb d.o.lt fun e=>d.o.yK d.o.jh (by decide) e.symm).trans d.o.blk;have cE:=C.o.size;rw[bx]at bF G;subst G
    go_wp2_with (at_builtin;go_loud (refine bZ Tz 0 bF [.pointer none] rfl (by simp[Value.oneCell']) rfl _ _ rfl rfl _ rfl (by unfold maxLen;omega) (by omega) (bf _) ?_;intro cx B am y aV;obtain⟨O,aE,rfl,cS,cT,cU,cV⟩:=aQ am (by omega);have bI:=bQ.o B y;have df:B.cell? (ae Hb 3)=some (.slice cw (T.length+k) tc):=(by simp[World.cell?,bI]);have dg:B.frozen? (ae Hb 3)=false:=(by simp[World.frozen?,bI])))
    have cq:B.ownsRow 0 106 1 (aj O (T.length+k+1) aE) (T++List.replicate (k+1) none).length ((T++List.replicate (k+1) none).map vTr):=by
     rw[bq,gX,<-wY,qD,<-dW,bS (l₁:=T++_)];exact am
    have aU:=gu aV;have bt:=d.o.QR y cq (d.o.Tx (d.o.yK d.o.jh (by decide)) aU);have c0:=y.size;have br:Value.ownBlock (aj O (T.length+k+1) aE)=tv.ownBlock\/∃b,Value.ownBlock (aj O (T.length+k+1) aE)=some b/\w.heap.size<=b:=by
     rcases aU with g|⟨b,g,aR⟩
     .rw[g];exact F.o
     .exact .inr ⟨b,g,by omega⟩
    have a7:=af bt;have a6:=af br;clear aU aV bt br;go_roundw
    case rel=>
     refine⟨k+1,_,by omega,a7.o.more ?_,a6,(C.o.grown y ?_).set (a:=(ae Hb 3)) _ (.inl (.inl rfl))⟩
     .rintro b ((hb|hb)|hb)
      .exact .inl hb
      .exact .inr ⟨hb.1,by simp;omega⟩
      .have aG:O=b:=by injection hb
       rcases a6.o with g|⟨bh,g,aR⟩
       .exact .inl (H.o.iT.2.2.2.2.1 b (g.symm.trans hb))
       .have cL:O=bh:=by injection g
        exact .inr ⟨by omega,by simp;omega⟩
     .intro b hb;rcases F.o with g|⟨bh,g,aR⟩
      .exact .inl (.inr (g.symm.trans hb))
      .rw[g]at hb;injection hb with hb;exact .inr (by omega)
    case measure=>
     rw[a7.o.Bi,d.o.Bi];simp;omega
   .have e:k=i+1-T.length:=by omega
    subst e;have cK:¬((T.length+(i+1-T.length):Nat):Int)<=(i:Int):=by omega
    rw[bx]at G;subst G
    go_wp2_with fail
    go_meet;exact⟨_,d,F,C⟩
 case rest=>
  obtain⟨tv',d,F,C⟩:=hcut;obtain⟨w1,cf⟩:∃w1:World,w1=wc:=⟨_,rfl⟩;subst cf;have cP:(T++List.replicate (i+1-T.length) (none:Option Nat)).length=max T.length (i+1):=by simp;omega
  have b2:Hid (∀tb,(T++List.replicate (i+1-T.length) (none:Option Nat)).set i (some tb)=yS T i tb):=fun tb=>rfl;generalize T++List.replicate (i+1-T.length) (none:Option Nat)=ac at*;have cr:=C.o.size
  go_upto_block 2 with fail
  go_cut [7,9,29]from 30 to 54 (fun pv cM ao E=>∃z:Value,z=pv/\Hid (iN E (fun b=>X b\/w.heap.size<=b/\b<w1.heap.size) Hb Cb mb cv tv' av lv ch ac al (gT eP l i) A N wk)/\Hid (E.ownsRow w1.heap.size 29 3 z (rE al l).length ((rE al l).flatMap dx))/\Hid (au (fun b=>lv.ownBlock=some b) w1 E))
  case first=>
   go_wp2_with fail
   go_loopw [29,7] (fun ao pv wr=>∃(j:Nat) (z:Value),ao=.int .i64 j/\z=pv/\j<=l.length/\Hid (iN wr (fun b=>X b\/w.heap.size<=b/\b<w1.heap.size) Hb Cb mb cv tv' av lv ch ac al (gT eP (l.take j) i) A N wk)/\Hid (wr.ownsRow w1.heap.size 29 3 z (rE al (l.take j)).length ((rE al (l.take j)).flatMap dx))/\Hid (au (fun b=>lv.ownBlock=some b) w1 wr)) (fun ao _ _=>l.length-(intOf ao).toNat)
   case atStart=>exact⟨0,_,rfl,rfl,bf _,d,dz _ _ _ _,au.refl _ _⟩
   case round=>
    obtain⟨j,z,rfl,rfl,c2,J,HO,V⟩:=hrel;have da:=V.o.size;by_cases D:j<l.length
    .obtain⟨cG,dd,cb,cR,Q⟩:=(bY.o wr ((C.o.mono fun k h=>h.imp id .inl).trans (V.o.mono fun k h=>.inr (.inr h)))).get (by omega);have a2:=Q j D 0 (by omega);have x1:=Q j D 1 (by omega);have x2:=Q j D 2 (by omega);have a3:=Q j D 3 (by omega);simp only[kJ,aM,aN,dM]at a2 x1 x2 a3;obtain⟨q,an,bB⟩:=bU.o l[j] (bN D);have co:(gT eP (l.take j) i).length=al.length:=by rw[mi];exact bb.o
     obtain⟨gl,lc,bm,-,cX,-,-⟩:=aQ J.o.mD (by omega);rw[co]at bm;obtain⟨cH,b6,cc,-,-,bD⟩:=Rd.aC J.o.dP;obtain⟨lb,lo,cd,c5,bw⟩:=bD.get (by omega);have a4:=bw q bB;have M:Hid (rE al (l.take (j+1))=rE al (l.take j)++(if al[q]=true then[(l[j]).1]else[])):=by
      show _=_;unfold rE;rw[dZ D,lW,bS];congr 1;unfold cZ;rw[lu,an];simp only[gN,dw bB];cases al[q]<;>simp
     have bd:Hid (gT eP (l.take (j+1)) i=(gT eP (l.take j) i).set q i):=by
      show _=_;rw[dZ D,FD,an,gN]
     have c4:(rE al (l.take j)).length<=5000:=by
      unfold rE;rw[bX];have P:=gK (cZ al) (l.take j);have aP:(l.take j).length<=l.length:=by rw[eB];omega
      omega
     rw[an]at a3;clear Q bw bD an;generalize rE al (l.take j)=cF at*;generalize cn:gT eP (l.take j) i=bg at*;have cp:bg.length=al.length:=by rw[<-cn,mi];exact bb.o
     generalize al[q]=bi at*;generalize l[j]=x at*;obtain⟨⟨t,u,s⟩,de⟩:=x;simp only at a2 x1 x2 M;subst cb cd cc bm;have cY:=bT.o gl rfl;have c9:(q:Int)<(al.length:Int):=by omega
     have c3:(j:Int)<(l.length:Int):=by omega
     have U:Below wr.heap.size wr (wr.alloc (.cells #[aa t,aa u,ai s,aa q] 187)):=(aB _ _).alloc (ay _) _;have a1:(wr.alloc (.cells #[aa t,aa u,ai s,aa q] 187)).heap[wr.heap.size]? =some (.cells #[aa t,aa u,ai s,aa q] 187 (0,0)):=di _ _;have ct:(wr.alloc (.cells #[aa t,aa u,ai s,aa q] 187)).heap.size=wr.heap.size+1:=by simp
     have a5:=(U.cell (p:=(ae lb (lo+q))) (gW wr _ a4)).trans a4;have L:=af (J.o.below U);have aw:=af (HO.o.alloc (.cells #[aa t,aa u,ai s,aa q] 187));have a9:Hid (au (fun b=>Value.ownBlock (aj gl al.length lc)=some b) w1 (wr.alloc (.cells #[aa t,aa u,ai s,aa q] 187))):=V.o.below U
     go_wp2_with fail
     generalize(wr.alloc (.cells #[aa t,aa u,ai s,aa q] 187))=r at*;clear a2 x1 x2 a3 a4 U;obtain⟨-,-,-,-,-,bk,-⟩:=L.o.cell;have ck:=ag bk;have aL:=ag (w:=r) (ad:=(ae wr.heap.size 3)) (v:=.int .i64 q) (by simp only[World.cell?,a1];rfl);have R:=L.o.mD;rw[cp]at R;have bO:=R.cellAt q (by omega);rw[dw (by rw[bX];omega)]at bO;have ci:=R.frozenAt q;have cC:=af (R.lt gl rfl).2;clear R;refine ak (fun W=>∃p:aT r,W=p.W) [7,8] [(0,false),(1,false),(2,false),(3,true),(4,false),(5,true),(6,false)] ⟨⟨_,(aB _ _).drew⟩,rfl⟩ 2 ?_;simp only[bn,aX,aY,aW,aN,aM,aO]
     repeat(refine aD (fun K f=>?_);go_simp;first|(refine f _ ?_;clear f K)|(apply Exists.intro;refine⟨fun _=>?_,f _ ?_⟩;rfl;clear f K))
     refine aJ ?_;refine aF [7,8] _ _ _ (by kernel_rfl) ?_;simp only[pick,aX,aY,aW,aN,aM];clear ck aL bk;have be:=af (L.o.Uz q i);have ap:(r.setCell (ae gl q) (.int .i64 i)).heap[wr.heap.size]? =some (.cells #[aa t,aa u,ai s,aa q] 187 (0,0)):=(az (a:=(ae gl q)) (fun e:gl=wr.heap.size=>by omega)).trans a1;have ab:au (fun k=>k=gl) r (r.setCell (ae gl q) (.int .i64 i)):=(au.refl (fun k=>k=gl) r).set _ (.inl rfl);have cy:(r.setCell (ae gl q) (.int .i64 i)).cell? (ae lb (lo+q))=some (.bool bi):=(dD (ab.block lb (gW _ _ a5) (by
      intro e;obtain⟨cI,P⟩:=dH L.o.dP (k:=lb) rfl;obtain⟨cJ,aP⟩:=dH L.o.mD (k:=gl) rfl;exact dU P aP (by decide) e))).trans a5
     have bW:=af (aS aw.o ab (fun n e (h:n=gl)=>by have:=(aw.o.lt n e).1;omega));have Y:Hid (au (fun b=>Value.ownBlock (aj gl al.length lc)=some b) w1 (r.setCell (ae gl q) (.int .i64 i))):=a9.o.trans (ab.mono fun k h=>by rw[h];rfl);have cu:(r.setCell (ae gl q) (.int .i64 i)).heap.size=r.heap.size:=by simp
     have b1:Hid (w1.heap.size<=(r.setCell (ae gl q) (.int .i64 i)).heap.size):=by show _<=_;omega
     clear a1 ab a5 cu ct
     go_wp2_with fail
     generalize r.setCell (ae gl q) (.int .i64 i)=m at*;clear bO ci aw a9;obtain⟨-,-,-,-,b7,-,-⟩:=be.o.cell;have b8:m.cell? (ae wr.heap.size 0)=some (aa t):=by simp only[World.cell?,ap];rfl
     have b9:m.cell? (ae wr.heap.size 1)=some (aa u):=by simp only[World.cell?,ap];rfl
     have ca:m.cell? (ae wr.heap.size 2)=some (ai s):=by simp only[World.cell?,ap];rfl
     have aG:m.cell? (ae wr.heap.size 3)=some (aa q):=by simp only[World.cell?,ap];rfl
     have bc:=af (be.o.below ((aB _ _).drew).drew);have ba:Hid (au (fun b=>Value.ownBlock (aj gl al.length lc)=some b) w1 m.drew.drew):=Y.o.drew.drew;have Z:=af ((bW.o.bC 1).bC 1);have cm:=ag (w:=m.drew) b7;have cl:=ag (w:=m.drew) aG;have cs:=ag (w:=m.drew) cy;refine ak (fun W=>∃p:aT m.drew,W=p.W) [] [(0,false),(1,false),(2,false),(3,true),(4,false),(5,true),(6,false),(7,true)] ⟨⟨_,(aB _ _).drew⟩,rfl⟩ 0 ?_;simp only[bn,aX,aY,aW,aN,aM,aO]
     repeat(refine aD (fun K f=>?_);go_simp;first|(refine f _ ?_;clear f K)|(apply Exists.intro;refine⟨fun _=>?_,f _ ?_⟩;rfl;clear f K))
     refine aJ ?_;refine kI (by kernel_rfl) ?_;clear cm cl cs;cases bi
     .rw[aI (by decide),iE]at M;go_wp2;go_roundw
      case rel=>exact⟨j+1,_,by go_num,rfl,by omega,by rw[bd.o];exact bc,by rw[M.o];exact Z,ba⟩
      case measure=>simp[intOf];omega
     .rw[aK rfl]at M;have f0:m.drew.drew.cell? (ae wr.heap.size 0)=some (aa t):=b8;have f1:m.drew.drew.cell? (ae wr.heap.size 1)=some (aa u):=b9;have f2:m.drew.drew.cell? (ae wr.heap.size 2)=some (ai s):=ca
      go_wp2_with (at_builtin;go_loud (refine bZ Nt w1.heap.size Z.o [.int .i64 t,.int .i64 u,.int .u32 s] rfl (by simp[Value.oneCell']) rfl _ _ rfl rfl _ (by first|rfl|(show aj m.heap.size 1 1=_;simp)) (by unfold maxLen;omega) (by omega) b1.o ?_;intro cx w6 am y aV))
      have bR:Hid (au (fun b=>Value.ownBlock (aj gl al.length lc)=some b) w1 w6):=ba.o.grown y (fun b hb=>.inr (Z.o.lt b hb).1);have b0:Hid (iN w6 (fun b=>X b\/w.heap.size<=b/\b<w1.heap.size) Hb Cb mb cv tv' (.slice (some (ae lb lo)) al.length b6) (aj gl al.length lc) ch ac al (bg.set q i) A N wk):=bc.o.kept ((au.refl (fun b=>z.ownBlock=some b) m.drew.drew).grown y fun b hb=>.inl hb) (fun k hk e=>by
       have P:=(Z.o.lt k e).1;rcases hk with hk|hk
       .have:=b5.o k hk;omega
       .omega)
      go_roundw
      case rel=>exact⟨j+1,_,by go_num,rfl,by omega,by rw[bd.o];exact b0,by rw[M.o,bq,gM];exact am,bR⟩
      case measure=>simp[intOf];omega
    .obtain rfl:j=l.length:=by omega
     rw[jy]at J HO;have cW:¬(l.length:Int)<(l.length:Int):=by omega
     go_wp2_with fail
     go_meet;exact⟨_,rfl,J,HO,V⟩
  case rest=>
   obtain⟨z,rfl,aq,bV,a8⟩:=hcut;obtain⟨w2,cg⟩:∃w2:World,w2=wc:=⟨_,rfl⟩;subst cg;have bG:=a8.o.size;obtain⟨I,tc,G,-,c1,-,-⟩:=aQ aq.o.jh (by omega);subst G;obtain⟨bK,bL,ce,-,-,bE⟩:=cz.aC bu (by decide) bV.o;subst ce;have c7:(rE al l).length<=5000:=by
    unfold rE;rw[bX];have P:=gK (cZ al) l;omega
   have CB:=af (fun p:aT w2=>R8 bK bL (rE al l) p.W (bE.below p.h) (by omega) b4.o b3.o);obtain⟨bj,-,-,ax,-,-,-⟩:=aq.o.cell;have cj:=ag bj;have aL:=ag ax;clear bj ax;have dc:(i:Int)<(ac.length:Int):=by omega
   go_wp2_with fail
   refine ak (fun W=>∃p:aT w2,W=p.W) [11,12] [(0,false),(1,false),(2,false),(3,true),(4,false),(5,false),(6,false),(7,false),(8,true),(9,false)] ⟨⟨_,(aB _ _).drew⟩,rfl⟩ 3 ?_;simp only[bn,aX,aY,aW,aN,aM,aO]
   repeat(refine aD (fun K f=>?_);go_simp;first|(refine f _ ?_;clear f K)|(apply Exists.intro;refine⟨fun _=>?_,f _ ?_⟩;rfl;clear f K))
   refine aJ ?_;clear cj aL;refine aA 10 rfl fun K f=>?_;refine Bh I1 rfl _ _ _ rfl rfl (vals:=#[.slice bK (rE al l).length bL]) rfl (CB.o ⟨_,(aB _ _).drew⟩) ?_;rintro e bM ⟨tb,rfl,bo,bs⟩;have S:Below w2.heap.size w2 bM:=(aB _ _).drew.trans bs;refine⟨_,rfl,?_⟩;refine f _ _ (fun _ _=>⟨⟨_,S⟩,rfl⟩) ?_;clear f K;have bP:=af bo;have ar:=af (aq.o.below S);have cA:=ar.o.jh.cellAt i (by omega);rw[dw (by rw[bX];omega)]at cA;have cN:=ar.o.jh.frozenAt i;have Y:=af S;clear bo bs S CB bE;refine aF [11,12] _ _ _ (by kernel_rfl) ?_;simp only[pick,aX,aY,aW,aN,aM];go_wp2
   go_end0
   have hP:=ar.o.Ty i (some tb);rw[b2.o]at hP;refine⟨rfl,_,tb,w1.heap.size,_,hP,bP.o.kept ((au.refl (fun k=>k=I) bM).set (a:=(ae I i)) _ (.inl rfl)) (fun k hk h=>?_),fun k hk=>bJ bG hk.1,⟨cr,by have:=Y.o.size;simp;omega⟩,F.o,?_⟩
   .have P:=(d.o.jh.lt I rfl).2;have aP:=bJ bG hk.1;omega
   .refine(((C.o.mono fun k h=>h.imp id .inl).trans (a8.o.mono fun k h=>.inr (.inr h))).below Y.o).set (a:=(ae I i)) _ ?_;rcases F.o with g|⟨b,g,aR⟩
    .exact .inl (.inr (.inl g.symm))
    .have aG:I=b:=by injection g
     exact .inr (show w.heap.size<=I by omega)
end
end
section
open Go.RowKit Go.Sort Go.Shelf Go.Lib Go.Maps
attribute [local irreducible] wpQuiet
def dS (CB:List (List eG)) (m:Nat):List Nat:=((List.range CB.length).drop m).reverse.filter fun i=>!(CB.getD i []).isEmpty
theorem LJ (CB:List (List eG)):dS CB CB.length=[]:=by
 unfold dS;rw[nL (by simp)];rfl
theorem I4 (CB:List (List eG)) (k:Nat) (h:k<CB.length):dS CB k=dS CB (k+1)++if CB[k]=[]then[]else[k]:=by
 unfold dS;rw[kZ (by simpa using h),zA,lW];congr 1;rw[wQ,lu,iO,dw h,gq];by_cases e:CB[k]=[]
 .simp[e]
 .simp[e]
theorem yl (CB:List (List eG)) (m:Nat):(dS CB m).length<=CB.length:=by
 unfold dS;refine bJ (gK _ _) ?_;simp
def QS (T:List (Option Nat)) (k:Nat):Value:=vTr (T.getD k none)
section
variable {w w':World} {X S:Nat->Prop} {F:Nat->Nat->Prop} {Hb Cb mb:Nat} {cv tv av lv:Value} {ch:List yZ} {T:List (Option Nat)} {al:List Bool} {eP:List Int} {A:List eG} {N wk:Int}
theorem Om (h:iN w X Hb Cb mb cv tv av lv ch T al eP A N wk) (E:nC (ch.map (·.2.1)) al A N) (aa:∀(i:Nat) (hi:i<(ch.map (·.2.1)).length),(ch.map (·.2.1))[i]≠[]->i<T.length):
  aH 61 #[ah Hb] w fun e w'=>∃v,e=.returned v/\w'.ownsRow w.heap.size 106 1 v (dS (ch.map (·.2.1)) 0).length ((dS (ch.map (·.2.1)) 0).map (QS T))/\Below w.heap.size w w':=by
 have H:=af h;have P:=af E;have M:=af aa;have au:ch.length<=13:=by have:=E.levels.1;simpa using this
 have I:=af (za h);have G:=af (xB h.fH (by omega));obtain⟨-,-,S,-⟩:=h.cell;have O:Hid (∀m,(dS (ch.map (·.2.1)) m).length<=13):=fun m=>by have:=yl (ch.map (·.2.1)) m;rw[bX]at this;show _<=_;omega
 go_enter func61,ntmps61
 go_wp2_with (first|(go_at_call 134;refine I.o.mono ?_;rintro e w1 ⟨rfl,x⟩;have W:=x.symm;clear x;subst W)|(go_at_call 141;refine G.o.mono ?_;rintro e w2 ⟨rfl,C⟩;have K:=af C;clear C))
 go_loopw [4,3] (fun q an wr=>∃(m:Nat) (lw:Value),q=.int .i64 ((m:Int)-1)/\lw=an/\m<=ch.length/\Hid (wr.ownsRow w.heap.size 106 1 lw (dS (ch.map (·.2.1)) m).length ((dS (ch.map (·.2.1)) m).map (QS T)))/\Hid (Below w.heap.size w wr)) (fun q _ _=>(intOf q+1).toNat)
 case atStart=>exact⟨ch.length,_,by go_num,rfl,ay _,by have:=LJ (ch.map (·.2.1));rw[bX]at this;rw[this];exact dz _ _ _ _,K⟩
 case round=>
  obtain⟨m,lw,rfl,rfl,aD,HO,c⟩:=hrel;rcases qf m with yO|yO
  .subst yO
   go_wp2_with fail
   go_ret;exact⟨_,rfl,HO.o,c.o⟩
  .obtain⟨k,rfl⟩:∃k,m=k+1:=⟨m-1,by omega⟩;have ac:(((k+1:Nat):Int)-1)=(k:Int):=by omega
   rw[ac];have aA:(0:Int)<=(k:Int):=by omega
   have n:k<(ch.map (·.2.1)).length:=by rw[bX];omega
   have a:=af (I4 (ch.map (·.2.1)) k n);have B:=M.o k n;rw[fJ]at a B;have ad:k<ch.length:=by omega
   have aG:ch[k].2.1.length<=5000:=by
    have:=P.o.few k n;rwa [fJ]at this
   have d:=af (H.o.below c.o);have CB:=af (xC d.o.fH d.o.rows (by omega) k ad (by omega));obtain⟨-,-,S,-⟩:=d.o.cell;generalize ch[k].2.1=lk at*;have aB:=O.o (k+1);generalize dS (ch.map (·.2.1)) (k+1)=L at*;obtain⟨F,Y⟩:∃F:World,F=wr:=⟨_,rfl⟩;subst Y;have aj:=c.o.size
   go_wp2_with fail
   refine CB.o.mono ?_;rintro e w3 ⟨aL,rfl,ai,f⟩;have aF:=f.size;have r:Hid (Below w.heap.size w w3):=c.o.trans (f.mono aj);have l:=af (ax HO.o f);obtain⟨ap,aq,V,-,-,-⟩:=KD.aC ai;subst V;have j:=af (d.o.below f);by_cases g:lk=[]
   .subst g;rw[aK rfl,iE]at a;have ak:¬(0:Int)<((([]:List eG).length:Nat):Int):=by simp
    go_wp2;go_roundw
    case rel=>exact⟨k,_,by go_num,rfl,by omega,by rw[a.o];exact l,r⟩
    case measure=>simp[intOf]
   .rw[aI g]at a;have D:=B g;have aE:0<lk.length:=Df.2 g;have ak:(0:Int)<((lk.length:Nat):Int):=by omega
    obtain⟨Z,tc,u,-,aw,-,-⟩:=aQ j.o.jh (by omega);have ao:w3.cell? (ae Z k)=some (QS T k):=by
     have y:=j.o.jh;rw[u]at y;have z:=y.cellAt k (by omega);rw[gY,dw D]at z;unfold QS;rw[iO,dw D];exact z
    have Q:Hid (∃p,QS T k=.pointer p):=by
     unfold QS vTr;split<;>exact⟨_,rfl⟩
    have⟨am,t⟩:=Q.o;have J:=af t;obtain⟨-,-,-,U,-⟩:=j.o.cell;rw[u]at U;rw[t]at ao;have az:(k:Int)<(T.length:Int):=by omega
    have s:Hid (w.heap.size<=w3.heap.size):=by show _<=_;omega
    go_wp2_with (at_builtin;refine bZ Tz w.heap.size l.o [.pointer am] rfl (by simp[Value.oneCell']) rfl _ _ rfl rfl _ rfl (by unfold maxLen;omega) (by omega) s.o ?_;intro aJ w6 ag ab ar)
    have R:Below w.heap.size w w6:=r.o.grown ab (by have:=s.o;omega) (fun b e=>(l.o.lt b e).1);go_roundw
    case rel=>exact⟨k,_,by go_num,rfl,by omega,by rw[a.o,bq,bS,lC,oN,J.o];exact ag,R⟩
    case measure=>simp[intOf]
end
end
section
open Go.RowKit Go.Sort Go.Shelf Go.Lib Go.Maps
attribute [local irreducible] wpQuiet
attribute [local go_sem] Oper.fo
def jX (al:List Bool) (CB:List (List eG)) (m:Nat):List eG:=((CB.drop m).reverse.flatten).filter (cZ al)
theorem LK (al:List Bool) (CB:List (List eG)):jX al CB CB.length=[]:=by unfold jX;rw[List.drop_length];rfl
theorem I5 (al:List Bool) (CB:List (List eG)) (k:Nat) (h:k<CB.length):jX al CB k=jX al CB (k+1)++CB[k].filter (cZ al):=by
 unfold jX;rw[kZ h,zA,kD,lW];simp
theorem CG (al:List Bool) (CB:List (List eG)) (m:Nat):(jX al CB m).length<=CB.flatten.length:=by
 unfold jX;refine bJ (gK _ _) ?_;rw[((tO (CB.drop m)).flatten).length_eq];have a:(CB.take m).flatten++(CB.drop m).flatten=CB.flatten:=by rw[<-kD,ji]
 have:=congrArg List.length a;rw[bq]at this;omega
section
variable {w w':World} {X S:Nat->Prop} {F:Nat->Nat->Prop} {Hb Cb mb:Nat} {cv tv av lv:Value} {ch:List yZ} {T:List (Option Nat)} {al:List Bool} {eP:List Int} {A:List eG} {N wk:Int} {A':List eG}
theorem Oo (h:iN w X Hb Cb mb cv tv av lv ch T al eP A N wk) (Y:nC (ch.map (·.2.1)) al A' N):
  aH 213 #[ah Hb] w fun e w'=>∃v,e=.returned v/\w'.ownsRow w.heap.size 187 4 v (jX al (ch.map (·.2.1)) 0).length ((jX al (ch.map (·.2.1)) 0).flatMap kJ)/\Below w.heap.size w w':=by
 have H:=af h;have aA:=af Y;have W:=Y.levels;have bH:ch.length<=13:=by have:=W.1;simpa using this
 have a4:Hid (∀m,(jX al (ch.map (·.2.1)) m).length<=5000):=fun m=>bJ (CG _ _ _) W.2.1;have a1:=af (xB h.fH (by omega));obtain⟨-,-,aF,-⟩:=h.cell;clear h Y W;go_enter func213,ntmps213
 go_wp2_with (go_at_call 141;refine a1.o.mono ?_;rintro e w2 ⟨rfl,aP⟩;have a2:=af aP;clear aP)
 go_loopw [4,3] (fun Z ad wr=>∃(m:Nat) (lw:Value),Z=.int .i64 ((m:Int)-1)/\lw=ad/\m<=ch.length/\Hid (wr.ownsRow w.heap.size 187 4 lw (jX al (ch.map (·.2.1)) m).length ((jX al (ch.map (·.2.1)) m).flatMap kJ))/\Hid (Below w.heap.size w wr)) (fun Z _ _=>(intOf Z+1).toNat)
 case atStart=>exact⟨ch.length,_,by go_num,rfl,ay _,by have:=LK al (ch.map (·.2.1));rw[bX]at this;rw[this];exact dz _ _ _ _,a2⟩
 case round=>
  obtain⟨m,lw,rfl,rfl,bS,HO,u⟩:=hrel;rcases qf m with yO|yO
  .subst yO;have bI:¬(0:Int)<=((0:Nat):Int)-1:=by omega
   go_wp2_with fail
   go_ret;exact⟨_,rfl,HO.o,u.o⟩
  .obtain⟨k,rfl⟩:∃k,m=k+1:=⟨m-1,by omega⟩;have br:(((k+1:Nat):Int)-1)=(k:Int):=by omega
   rw[br];have bP:(0:Int)<=(k:Int):=by omega
   have aR:k<(ch.map (·.2.1)).length:=by rw[bX];omega
   have az:=af (I5 al (ch.map (·.2.1)) k aR);have aS:k<ch.length:=by omega
   have bV:ch[k].2.1.length<=5000:=by
    have:=aA.o.few k aR;rwa [fJ]at this
   have a5:Hid (∀x∈ch[k].2.1,∃k:Nat,x.2=(k:Int)/\k<al.length):=fun x bu=>aA.o.num (oH.2 ⟨_,dI.2 ⟨_,bN aS,rfl⟩,bu⟩);have Q:=af (H.o.below u.o);have CB:=af (xC Q.o.fH Q.o.rows (by omega) k aS (by omega));obtain⟨-,-,aF,-⟩:=Q.o.cell;rw[fJ]at az;generalize ch[k].2.1=lk at*;have bR:=a4.o (k+1);generalize jX al (ch.map (·.2.1)) (k+1)=L at*;obtain⟨G,bj⟩:∃G:World,G=wr:=⟨_,rfl⟩;subst bj;have bt:=u.o.size
   go_wp2_with fail
   refine CB.o.mono ?_;rintro e w3 ⟨bx,rfl,C,B⟩;have bU:=B.size;have a3:Hid (Below w.heap.size w w3):=u.o.trans (B.mono bt);have a6:=af (ax HO.o B);have a9:Hid (∀a,bx.ownBlock=some a->lw.ownBlock≠some a):=fun a e i=>by
    have aL:=(C.lt a e).1;have bk:=(HO.o.lt a i).2;omega
   have a7:=af C;obtain⟨aE,s,V,-,-,-⟩:=KD.aC C;subst V;clear C B CB aF
   go_wp2_with fail
   go_loopw [24,3] (fun ab ad wr=>∃(j:Nat) (E:Value),ab=.int .i64 j/\E=ad/\j<=lk.length/\Hid (wr.ownsRow w.heap.size 187 4 E (L++(lk.take j).filter (cZ al)).length ((L++(lk.take j).filter (cZ al)).flatMap kJ))/\Hid (wr.ownsRow G.heap.size 187 4 (.slice aE lk.length s) lk.length (lk.flatMap kJ))/\Hid (∀a,Value.ownBlock (.slice aE lk.length s)=some a->E.ownBlock≠some a)/\Hid (Below w.heap.size w wr)) (fun ab _ _=>lk.length-(intOf ab).toNat)
   case atStart=>exact⟨0,_,rfl,rfl,bf _,by rw[zM,Dw,iE];exact a6,a7,a9,a3⟩
   case round=>
    obtain⟨j,E,rfl,rfl,bL,J,ar,O,y⟩:=hrel;have a0:=y.o.size;by_cases n:j<lk.length
    .obtain⟨bD,bE,U,-,-,aZ⟩:=KD.aC ar.o;injection U with U _ V;subst U V;obtain⟨S,ac,bg,bG,t⟩:=aZ.Mi.get (by omega);have ak:=t j n 0 (by omega);have x1:=t j n 1 (by omega);have x2:=t j n 2 (by omega);have am:=t j n 3 (by omega);simp only[kJ,aM,aN,dM]at ak x1 x2 am;obtain⟨q,D,aU⟩:=a5.o lk[j] (bN n);have R:=H.o.below y.o;obtain⟨bW,lc,bi,-,-,aV⟩:=Rd.aC R.dP;obtain⟨lb,lo,bh,bQ,aT⟩:=aV.get (by omega);have an:=aT q aU;obtain⟨-,-,-,-,ao,-⟩:=R.cell;have r:Hid (L++(lk.take (j+1)).filter (cZ al)=(L++(lk.take j).filter (cZ al))++(if al[q]=true then[lk[j]]else[])):=by
      show _=_;rw[dZ n,lW,<-dW];congr 1;unfold cZ;rw[lu,D];simp only[gN,dw aU];cases al[q]<;>simp
     have bO:(L++(lk.take j).filter (cZ al)).length<=5000+5000:=by
      rw[bq];have aL:=gK (cZ al) (lk.take j);have bk:(lk.take j).length<=lk.length:=by rw[eB];omega
      omega
     rw[D]at am;have P:=af D;clear t aT D aV aZ R;generalize L++(lk.take j).filter (cZ al)=bB at*;generalize al[q]=bc at*;generalize lk[j]=x at*;obtain⟨⟨f,g,d⟩,bY⟩:=x;simp only at ak x1 x2 r P;obtain rfl:=P.o;clear P;subst bg bh bi;have bM:(j:Int)<(lk.length:Int):=by omega
     have bT:(q:Int)<(al.length:Int):=by omega
     have I:Below wr.heap.size wr (wr.alloc (.cells #[aa f,aa g,ai d,aa q] 187)):=(aB _ _).alloc (ay _) _;have F:(wr.alloc (.cells #[aa f,aa g,ai d,aa q] 187)).heap[wr.heap.size]? =some (.cells #[aa f,aa g,ai d,aa q] 187 (0,0)):=di _ _;have aq:Hid (w.heap.size<=(wr.alloc (.cells #[aa f,aa g,ai d,aa q] 187)).heap.size):=by show _<=_;simp;omega
     have bz:=(I.cell (p:=(ae lb (lo+q))) (gW wr _ an)).trans an;have bA:=(I.cell (p:=(ae Hb 4)) (gW wr _ ao)).trans ao;have au:=af (J.o.alloc (.cells #[aa f,aa g,ai d,aa q] 187));have M:=af (ar.o.alloc (.cells #[aa f,aa g,ai d,aa q] 187));have ap:=af (y.o.alloc a0 (.cells #[aa f,aa g,ai d,aa q] 187));clear a0
     go_wp2_with fail
     generalize(wr.alloc (.cells #[aa f,aa g,ai d,aa q] 187))=c at*;clear ak x1 x2 am I an ao;have bd:c.cell? (ae wr.heap.size 0)=some (aa f):=by simp only[World.cell?,F];rfl
     have be:c.cell? (ae wr.heap.size 1)=some (aa g):=by simp only[World.cell?,F];rfl
     have i:c.cell? (ae wr.heap.size 2)=some (ai d):=by simp only[World.cell?,F];rfl
     have aG:c.cell? (ae wr.heap.size 3)=some (aa q):=by simp only[World.cell?,F];rfl
     have bm:=ag (w:=c) bA;have bl:=ag (w:=c) aG;have bv:=ag (w:=c) bz;refine kW [(0,false),(1,false),(2,false),(3,true),(4,false),(5,true),(6,false),(7,true)] 0 ?_;simp only[bn,aX,aY,aW,aN,aM,aO]
     repeat(refine aD (fun K z=>?_);go_simp;first|(refine z _ ?_;clear z K)|(apply Exists.intro;refine⟨fun _=>?_,z _ ?_⟩;rfl;clear z K))
     refine aJ ?_;refine kI (by kernel_rfl) ?_;clear bm bl bv;cases bc
     .rw[aI (by decide),iE]at r;go_wp2;go_roundw
      case rel=>exact⟨j+1,_,by go_num,rfl,by omega,by rw[r.o];exact au.o.bC 1,M.o.bC 1,O,ap.o.drew⟩
      case measure=>simp[intOf];omega
     .rw[aK rfl]at r;have aw:=af (au.o.bC 1);have f0:c.drew.cell? (ae wr.heap.size 0)=some (aa f):=bd;have f1:c.drew.cell? (ae wr.heap.size 1)=some (aa g):=be;have f2:c.drew.cell? (ae wr.heap.size 2)=some (ai d):=i;have f3:c.drew.cell? (ae wr.heap.size 3)=some (aa q):=aG
      go_wp2_with (at_builtin;go_loud (refine bZ E9 w.heap.size aw.o [.int .i64 f,.int .i64 g,.int .u32 d,.int .i64 q] rfl (by simp[Value.oneCell']) rfl _ _ rfl rfl _ (by first|rfl|(show aj c.heap.size 1 1=_;simp)) (by unfold maxLen;omega) (by omega) aq.o ?_;intro bw w6 bs aQ bp))
      have bb:Below w.heap.size w w6:=ap.o.drew.grown aQ (by have:=aq.o;exact this) (fun b e=>(aw.o.lt b e).1);have a8:Hid (w6.ownsRow G.heap.size 187 4 (.slice (some (ae S ac)) lk.length s) lk.length (lk.flatMap kJ)):=by
       refine(M.o.bC 1).kept aQ ?_;rcases GJ (Value.ownBlock (.slice (some (ae S ac)) lk.length s))with l|⟨a,l⟩
       .exact .inl l
       .exact .inr (fun e=>O.o a l (e.symm.trans l))
      have ba:Hid (∀a,Value.ownBlock (.slice (some (ae S ac)) lk.length s)=some a->bw.ownBlock≠some a):=fun a e i=>by
       have aL:=(M.o.lt a e).2;rcases gu bp with l|⟨b,l,bo⟩
       .exact O.o a e (l.symm.trans i)
       .rw[l]at i;injection i with i;have bF:c.heap.size<=b:=bo;omega
      go_roundw
      case rel=>exact⟨j+1,_,by go_num,rfl,by omega,by rw[r.o,bq,gM];exact bs,a8,ba,bb⟩
      case measure=>simp[intOf];omega
    .obtain rfl:j=lk.length:=by omega
     rw[jy,<-az.o]at J;have bK:¬(lk.length:Int)<(lk.length:Int):=by omega
     go_wp2;go_roundw
     case rel=>exact⟨k,_,by go_num,rfl,by omega,J,y⟩
     case measure=>simp[intOf]
end
end
end Go.Proofs.YtkjdbndekceffaaGreat
