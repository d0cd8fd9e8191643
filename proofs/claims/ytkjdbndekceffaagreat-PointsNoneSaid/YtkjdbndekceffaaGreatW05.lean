/- Made small by a program. -/
import Derived.Test.YtkjdbndekceffaaGreatW03
set_option linter.unusedSimpArgs false
set_option linter.unusedVariables false
set_option maxRecDepth 100000
set_option maxHeartbeats 16000000
namespace Go.Proofs.YtkjdbndekceffaaGreat
open Tryz
section
open Go.RowKit Go.Shelf
attribute [local go_sem] Oper.semAt_some
abbrev SQ (kid:List Bool):={q:Nat // q<kid.length/\kid[q]? =some false}
def Re (w0:World) (nd:Array Value) (kv:Value) (base:Nat) (kid:List Bool) (pre:List (SQ kid)) (W:World):Prop:=
 W.heap[w0.heap.size]? =some (.cells nd 163 (0,0))/\W.heap[w0.heap.size+1]? =some (.cells #[kv] 95 (0,0))/\W.heap[w0.heap.size+2]? =some (.cells #[.bool false] 4 (0,0))/\W.heap[w0.heap.size+3]? =some (.cells #[aa pre.length] 3 (0,0))/\W.ownsRow base 4 1 kv kid.length (kid.map Value.bool)/\Below w0.heap.size w0 W
theorem MG {w0:World} {B base:Nat} {w:Array Value} {v:Value} {u:List Bool} (p:w0.heap.size<=B):OwnFrom B (Re w0 w v base u):=by
 rintro s W W' C ⟨d,f,g,h,i,j⟩ m n;have a:∀(b:Nat) cs t fr,W.heap[b]? =some (.cells cs t fr)->W'.heap[b]? =W.heap[b]? :=fun b cs t fr l=>m.block b (aZ.1 l).1 fun e=>by
  obtain⟨-,o,c,q⟩:=n b e.symm;rw[l]at c;injection c with c;subst c;cases q
 refine⟨(a _ _ _ _ d).trans d,(a _ _ _ _ f).trans f,(a _ _ _ _ g).trans g,(a _ _ _ _ h).trans h,aV i fun A e=>?_,j.grown m j.size fun k e=>bJ p (n k e).1⟩;rcases i.2 with⟨rfl,_⟩|⟨z,x,y,rfl,_,r,_⟩
 .cases e
 .simp only[Value.ownBlock,iV]at e;subst e;exact a _ _ _ _ r
theorem Hr (F:Fence) (n:Nat) (hF:F.fn 319) (ag:F.fn 343) (N:F.fn 364) (C:F.round=none) (aH:3<=n) (f t d:Int) (i j:Nat) (aF:i≠j) (g m b base:Nat) (a:List Bool) (w:World) (am:a.length=m) (aG:m<=100000) (hi:a[i]? =some false) (O:a[j]? =some false)
  (P:w.ownsRow base 4 1 (aj g m b) m (a.map Value.bool)):
  CallsIn F n prog 319 #[zU 2 i j f t d,aj g m b] w (eY w (.bool true)):=by
 have ad:1<=n:=by omega
 subst am;have X:=af P;have aE:g<w.heap.size:=(P.lt g rfl).2;refine zk func319 rfl hF ?_ C;simp only[ntmps319,qh,dY,fB,Nat.reduceAdd,Nat.reduceSub,qa,qb,qi,qd,fK,lX]
 gi_wp2_with (gi_at_call 343;refine(yV F (n-1) ag C _ _ _ _ _ _ _).mono ?_;rintro e w' ⟨rfl,rfl⟩)
 obtain⟨wk,k⟩:∃wk,wk=((((w.alloc (kH 2 i j f t d)).alloc (.cells #[aj g a.length b] 95)).alloc (.cells #[.bool false] 4)).alloc (.cells #[aa 0] 3)).alloc (kH 2 i j f t d):=⟨_,rfl⟩;have M:Below w.heap.size w wk:=by rw[k];exact(((((aB _ w).alloc (ay _) _).alloc (by simp) _).alloc (by simp;omega) _).alloc (by simp;omega) _).alloc (by simp;omega) _
 have aL:wk.heap.size=w.heap.size+5:=by rw[k];simp
 have s:wk.heap[w.heap.size]? =some (.cells #[.int .u8 2,aa i,aa j,aa f,aa t,aa 0,aa d] 163 (0,0)):=by
  rw[k];exact(bY _ _ _ (by first|(simp;done)|(simp;omega))).trans ((bY _ _ _ (by first|(simp;done)|(simp;omega))).trans ((bY _ _ _ (by first|(simp;done)|(simp;omega))).trans (Dz w _ _)))
 have A:wk.heap[w.heap.size+1]? =some (.cells #[aj g a.length b] 95 (0,0)):=by
  rw[k];exact(bY _ _ _ (by simp)).trans ((bY _ _ _ (by simp)).trans ((bY _ _ _ (by simp)).trans (xx w _ _)))
 have y:wk.heap[w.heap.size+2]? =some (.cells #[.bool false] 4 (0,0)):=by
  rw[k];have v:=di ((w.alloc (kH 2 i j f t d)).alloc (.cells #[aj g a.length b] 95)) (.cells #[.bool false] 4);rw[show((w.alloc (kH 2 i j f t d)).alloc (.cells #[aj g a.length b] 95)).heap.size=w.heap.size+2 by simp]at v;exact(bY _ _ _ (by simp)).trans ((bY _ _ _ (by simp)).trans v)
 have u:wk.heap[w.heap.size+3]? =some (.cells #[aa 0] 3 (0,0)):=by
  rw[k];have v:=di (((w.alloc (kH 2 i j f t d)).alloc (.cells #[aj g a.length b] 95)).alloc (.cells #[.bool false] 4)) (.cells #[aa 0] 3);rw[show(((w.alloc (kH 2 i j f t d)).alloc (.cells #[aj g a.length b] 95)).alloc (.cells #[.bool false] 4)).heap.size=w.heap.size+3 by simp]at v;exact(bY _ _ _ (by simp)).trans v
 have ao:wk.cell? (ae (w.heap.size+1+1+1+1) 1)=some (aa i):=by
  rw[k,ed _ _ _ _ (by simp)];rfl
 have ap:wk.cell? (ae (w.heap.size+1+1+1+1) 2)=some (aa j):=by
  rw[k,ed _ _ _ _ (by simp)];rfl
 rw[<-k];have U:Hid (Re w #[.int .u8 2,aa i,aa j,aa f,aa t,aa 0,aa d] (aj g a.length b) base a [] wk):=⟨s,A,y,u,ax X.o M,M⟩;have ak:=(fC.1 hi).1;have al:=(fC.1 O).1;refine De C ad (gf:=364) (lb:=#[ah (w.heap.size+1+1+1+1)]) rfl N (cK func364 (by kernel_rfl) rfl)
  (EO (α:=SQ a) (fun x=>(x.1:Int)) ⟨i,ak,hi⟩ ⟨j,al,O⟩ F (n-1) N C (by omega) (w.heap.size+1+1+1+1) wk (by omega) ao ap (by simp) (by simp)) Mv.trans (fun W l o au an _ _ _=>yX (B:=wk.heap.size) (by omega) W l o au an) (aB _ _) (fun _=>rfl)
  (fun E W=>Re w #[.int .u8 2,aa i,aa j,aa f,aa t,aa 0,aa d] (aj g a.length b) base a E W)
  (fun _ _ _=>False)
  (MG (by omega))
  (fun _ _ _ _ _ ar _ _=>ar)
  U.o
  (fun x=>{tmps:=#[zU 2 i j f t d,aj g a.length b,ah w.heap.size,ah (w.heap.size+1),ah (w.heap.size+1+1),ah (w.heap.size+1+1+1),aa x.1,zU 2 i j f t d,.func (.func 364) #[] #[ah (w.heap.size+1+1+1+1)],aa x.1,undef,undef,undef,undef,undef,undef,undef,undef,undef,undef,undef,undef,undef,undef,undef,undef,undef,undef,undef,undef,undef,undef,undef,undef,undef,undef,undef,undef,undef,undef,undef,undef,undef],defers:=[]}) ?assign ?body ?done ?stop
 case assign=>
  intro l x W K H
  gi_wp2
  exact H
 case body=>
  rintro l E ⟨q,aJ,aq⟩ W ⟨s,A,y,u,L,J⟩ aI;have av:W.cell? (ae (w.heap.size+1) 0)=some (aj g a.length b):=by simp[World.cell?,A]
  have ab:W.cell? (ae (w.heap.size+1+1+1) 0)=some (aa E.length):=by simp[World.cell?,u]
  have f3:W.frozen? (ae (w.heap.size+1+1+1) 0)=false:=by simp[World.frozen?,u]
  have z:=L.cellAt q (by omega);rw[gY,aq]at z;simp only[aO]at z;have aK:(q:Int)<(a.length:Int):=by omega
  have aA:decide ((q:Int)<0)=false:=by simp
  have aC:decide (a.length<=q)=false:=by simp;omega
  have Q:=af s;have T:=af A;have R:=af y;have S:=af u;have Y:=af L;have G:=af J
  gi_wp2
  refine⟨wO _ _ _,fun o=>dD (az (by first|(simp;done)|(simp;omega))),(az (by first|(simp;done)|(simp;omega))).trans Q.o,(az (by first|(simp;done)|(simp;omega))).trans T.o,(az (by first|(simp;done)|(simp;omega))).trans R.o,?_,aV Y.o (fun ac e=>az (by have v:g=ac:=(by injection e);simp;omega)),G.o.setCell (p:=(ae (w.heap.size+1+1+1) 0)) (by simp;omega) _⟩;rw[dA W (w.heap.size+3) 0 _ _ _ S.o];simp
 case done=>
  rintro D aP W aD rfl ⟨s,A,y,u,L,J⟩ H;have n0:W.cell? (ae w.heap.size 0)=some (.int .u8 2):=by simp[World.cell?,s]
  have aM:W.cell? (ae w.heap.size 1)=some (aa i):=by simp[World.cell?,s]
  have aN:W.cell? (ae w.heap.size 2)=some (aa j):=by simp[World.cell?,s]
  have Z:W.cell? (ae (w.heap.size+1+1) 0)=some (.bool false):=by simp[World.cell?,y]
  have f2:W.frozen? (ae (w.heap.size+1+1) 0)=false:=by simp[World.frozen?,y]
  have ab:W.cell? (ae (w.heap.size+1+1+1) 0)=some (aa 2):=by simp[World.cell?,u]
  have aw:((i:Int)!=(j:Int))=true:=by simp;omega
  have V:=af H;have G:=af J
  gi_wp2
  have I:=(wO W (ae (w.heap.size+1+1) 0) (.bool true)).same D _ V.o rfl;refine⟨by simp,.inl ⟨_,_,rfl,zC I,?_⟩⟩;have ai:=cell_kept (World.cell?_setCell_same' W (ae (w.heap.size+1+1) 0) (.bool true) (by rw[Z];rfl)) (zH _ D (.deferred none)) (fun r e=>by cases e;exact⟨_,I,rfl⟩);refine⟨.bool true,?_,rfl,(G.o.setCell (p:=(ae (w.heap.size+1+1) 0)) (by first|(simp;done)|(simp;omega)) _).trans (belowK_b (w:=w) (ay _) _ D _ _ (by omega) I rfl rfl)⟩;simp[results,f319,go_sem,ai]
 case stop=>
  rintro D c E W _ _ h _;exact h.elim
theorem O7 (f t c:Int) (i j:Nat) (d:i≠j) (g m b base:Nat) (a:List Bool) (w:World) (h:a.length=m) (k:m<=100000) (hi:a[i]? =some false) (e:a[j]? =some false)
  (l:w.ownsRow base 4 1 (aj g m b) m (a.map Value.bool)):
  aH 319 #[zU 2 i j f t c,aj g m b] w (eY w (.bool true)):=by
 refine(xk (n:=3)).1 ?_;exact Hr _ 3 trivial trivial trivial rfl (by decide) f t c i j d g m b base a w h k hi e l
def Rf (w0:World) (nd:Array Value) (pre:List (Fin 0)) (W:World):Prop:=
 W.heap[w0.heap.size]? =some (.cells nd 163 (0,0))/\W.heap[w0.heap.size+2]? =some (.cells #[.bool false] 4 (0,0))/\W.heap[w0.heap.size+3]? =some (.cells #[aa 0] 3 (0,0))/\Below w0.heap.size w0 W
theorem MH {w0:World} {B:Nat} {p:Array Value} (m:w0.heap.size<=B):OwnFrom B (Rf w0 p):=by
 rintro s W W' q ⟨d,f,g,h⟩ j l;have c:∀(b:Nat) cs t fr,W.heap[b]? =some (.cells cs t fr)->W'.heap[b]? =W.heap[b]? :=fun b cs t fr i=>j.block b (aZ.1 i).1 fun e=>by
  obtain⟨-,o,a,n⟩:=l b e.symm;rw[i]at a;injection a with a;subst a;cases n
 exact⟨(c _ _ _ _ d).trans d,(c _ _ _ _ f).trans f,(c _ _ _ _ g).trans g,h.grown j h.size fun k e=>bJ m (l k e).1⟩
theorem KE (F:Fence) (n:Nat) (hF:F.fn 319) (H:F.fn 343) (v:F.fn 364) (j:F.round=none) (T:3<=n) (f t a:Int) (d:Value) (S:d.oneCell'=true) (w:World):
  CallsIn F n prog 319 #[zU 1 (-1) (-1) f t a,d] w (eY w (.bool true)):=by
 have E:1<=n:=by omega
 refine zk func319 rfl hF ?_ j;simp only[ntmps319,qh,dY,fB,Nat.reduceAdd,Nat.reduceSub,qa,qb,qi,qd,fK,lX]
 gi_wp2_with (gi_at_call 343;refine(yV F (n-1) H j _ _ _ _ _ _ _).mono ?_;rintro e w' ⟨rfl,rfl⟩)
 obtain⟨wk,b⟩:∃wk,wk=((((w.alloc (kH 1 (-1) (-1) f t a)).alloc (.cells #[d] 95)).alloc (.cells #[.bool false] 4)).alloc (.cells #[aa 0] 3)).alloc (kH 1 (-1) (-1) f t a):=⟨_,rfl⟩;have G:Below w.heap.size w wk:=by rw[b];exact(((((aB _ w).alloc (ay _) _).alloc (by simp) _).alloc (by simp;omega) _).alloc (by simp;omega) _).alloc (by simp;omega) _
 have U:wk.heap.size=w.heap.size+5:=by rw[b];simp
 have q:wk.heap[w.heap.size]? =some (.cells #[.int .u8 1,aa (-1),aa (-1),aa f,aa t,aa 0,aa a] 163 (0,0)):=by
  rw[b];exact(bY _ _ _ (by first|(simp;done)|(simp;omega))).trans ((bY _ _ _ (by first|(simp;done)|(simp;omega))).trans ((bY _ _ _ (by first|(simp;done)|(simp;omega))).trans ((bY _ _ _ (by first|(simp;done)|(simp;omega))).trans (di w _))))
 have i:wk.heap[w.heap.size+2]? =some (.cells #[.bool false] 4 (0,0)):=by
  rw[b];have g:=di ((w.alloc (kH 1 (-1) (-1) f t a)).alloc (.cells #[d] 95)) (.cells #[.bool false] 4);rw[show((w.alloc (kH 1 (-1) (-1) f t a)).alloc (.cells #[d] 95)).heap.size=w.heap.size+2 by simp]at g;exact(bY _ _ _ (by simp)).trans ((bY _ _ _ (by simp)).trans g)
 have s:wk.heap[w.heap.size+3]? =some (.cells #[aa 0] 3 (0,0)):=by
  rw[b];have g:=di (((w.alloc (kH 1 (-1) (-1) f t a)).alloc (.cells #[d] 95)).alloc (.cells #[.bool false] 4)) (.cells #[aa 0] 3);rw[show(((w.alloc (kH 1 (-1) (-1) f t a)).alloc (.cells #[d] 95)).alloc (.cells #[.bool false] 4)).heap.size=w.heap.size+3 by simp]at g;exact(bY _ _ _ (by simp)).trans g
 have M:wk.cell? (ae (w.heap.size+1+1+1+1) 1)=some (aa (-1)):=by
  rw[b,ed _ _ _ _ (by simp)];rfl
 have N:wk.cell? (ae (w.heap.size+1+1+1+1) 2)=some (aa (-1)):=by
  rw[b,ed _ _ _ _ (by simp)];rfl
 rw[<-b];have z:Hid (Rf w #[.int .u8 1,aa (-1),aa (-1),aa f,aa t,aa 0,aa a] [] wk):=⟨q,i,s,G⟩;refine De j E (gf:=364) (lb:=#[ah (w.heap.size+1+1+1+1)]) rfl v (cK func364 (by kernel_rfl) rfl)
  (Jn (α:=Fin 0) (fun x=>(x.1:Int)) F (n-1) v j (by omega) (w.heap.size+1+1+1+1) wk (by omega) M N) Mv.trans (fun W l o P L _ _ _=>yX (B:=wk.heap.size) (by omega) W l o P L) (aB _ _) (fun _=>rfl)
  (fun u W=>Rf w #[.int .u8 1,aa (-1),aa (-1),aa f,aa t,aa 0,aa a] u W)
  (fun _ _ _=>False)
  (MH (by omega))
  (fun _ _ _ _ _ O _ _=>O)
  z.o
  (fun x=>{tmps:=#[zU 1 (-1) (-1) f t a,d,ah w.heap.size,ah (w.heap.size+1),ah (w.heap.size+1+1),ah (w.heap.size+1+1+1),aa x.1,zU 1 (-1) (-1) f t a,.func (.func 364) #[] #[ah (w.heap.size+1+1+1+1)],aa x.1,undef,undef,undef,undef,undef,undef,undef,undef,undef,undef,undef,undef,undef,undef,undef,undef,undef,undef,undef,undef,undef,undef,undef,undef,undef,undef,undef,undef,undef,undef,undef,undef,undef],defers:=[]}) ?assign ?body ?done ?stop
 case assign=>
  intro l x W K k
  gi_wp2
  exact k
 case body=>
  intro l u x W _ h;exact absurd x.2 (jR _)
 case done=>
  rintro D V W R rfl ⟨q,i,s,I⟩ k;have n0:W.cell? (ae w.heap.size 0)=some (.int .u8 1):=by simp[World.cell?,q]
  have C:W.cell? (ae (w.heap.size+1+1) 0)=some (.bool false):=by simp[World.cell?,i]
  have f2:W.frozen? (ae (w.heap.size+1+1) 0)=false:=by simp[World.frozen?,i]
  have Q:W.cell? (ae (w.heap.size+1+1+1) 0)=some (aa 0):=by simp[World.cell?,s]
  have A:=af k;have y:=af I
  gi_wp2
  have m:=(wO W (ae (w.heap.size+1+1) 0) (.bool true)).same D _ A.o rfl;refine⟨by simp,.inl ⟨_,_,rfl,zC m,?_⟩⟩;have J:=cell_kept (World.cell?_setCell_same' W (ae (w.heap.size+1+1) 0) (.bool true) (by rw[C];rfl)) (zH _ D (.deferred none)) (fun r e=>by cases e;exact⟨_,m,rfl⟩);refine⟨.bool true,?_,rfl,(y.o.setCell (p:=(ae (w.heap.size+1+1) 0)) (by first|(simp;done)|(simp;omega)) _).trans (belowK_b (w:=w) (ay _) _ D _ _ (by omega) m rfl rfl)⟩;simp[results,f319,go_sem,J]
 case stop=>
  rintro D c u W _ _ h _;exact h.elim
theorem Rh (f t b:Int) (a:Value) (c:a.oneCell'=true) (w:World):
  aH 319 #[zU 1 (-1) (-1) f t b,a] w (eY w (.bool true)):=by
 refine(xk (n:=3)).1 ?_;exact KE _ 3 trivial trivial trivial rfl (by decide) f t b a c w
end
section
open Go.RowKit
def iQ (x y:Int):Int:=if x<y then -1 else if y<x then 1 else 0
theorem O8 (x y:Int) (w:World):aH 229 #[aa x,aa y] w fun e w'=>e=.returned (aa (iQ x y))/\w'=w:=by
 unfold iQ;rcases Int.lt_trichotomy x y with h|rfl|h
 .rw[aK h];go_enter func229,ntmps229;go_wp2;go_ret;exact⟨rfl,rfl⟩
 .rw[aI (zP _),aI (zP _)];go_enter func229,ntmps229;go_wp2;go_ret;exact⟨rfl,rfl⟩
 .rw[aI (by omega),aK h];go_enter func229,ntmps229;go_wp2;go_ret;exact⟨rfl,rfl⟩
theorem DU (x y:Int) (w:World):aH 202 #[ai x,ai y] w fun e w'=>e=.returned (aa (iQ x y))/\w'=w:=by
 unfold iQ;rcases Int.lt_trichotomy x y with h|rfl|h
 .rw[aK h];go_enter func202,ntmps202;go_wp2;go_ret;exact⟨rfl,rfl⟩
 .rw[aI (zP _),aI (zP _)];go_enter func202,ntmps202;go_wp2;go_ret;exact⟨rfl,rfl⟩
 .rw[aI (by omega),aK h];go_enter func202,ntmps202;go_wp2;go_ret;exact⟨rfl,rfl⟩
def dx (p:Pt):List Value:=[.int .i64 p.1,.int .i64 p.2.1,.int .u32 p.2.2]
theorem bu (p:Pt):(dx p).length=3:=rfl
theorem mP (p:Pt):∀u∈dx p,u.oneCell'=true:=by intro u hu;simp[dx]at hu;rcases hu with rfl|rfl|rfl<;>rfl
abbrev iD (x y i:Int):Value:=.agg #[aa x,aa y,ai i]
def wF (w w':World):Prop:=∃q os,w'=Sort.grow (w.drewN q) os
theorem wF.refl (w:World):wF w w:=⟨0,#[],by rw[Sort.grow_empty];rfl⟩
theorem wF.alloc {w w':World} (h:wF w w') (o:Obj):wF w (w'.alloc o):=by
 obtain⟨q,os,rfl⟩:=h;exact⟨q,os.push o,by simp[Sort.grow,World.alloc,World.drewN]⟩
theorem wF.drew {w w':World} (h:wF w w'):wF w w'.drew:=by
 obtain⟨q,os,rfl⟩:=h;exact⟨q+1,os,rfl⟩
theorem wF.below {w w':World} (h:wF w w') {B:Nat} (a:B<=w.heap.size):Below B w w':=by
 obtain⟨q,os,rfl⟩:=h;refine⟨rfl,rfl,rfl,by simp[Sort.grow,World.drewN],fun k b=>?_⟩;show(w.heap++os)[k]? =_;rw[wI (by omega)]
def il (p q:Pt):Int:=if iQ p.1 q.1=0 then iQ p.2.2 q.2.2 else iQ p.1 q.1
theorem pz (p q:Pt):il p q<0↔jV p q:=by
 unfold il jV iQ
 repeat' split
 all_goals omega
theorem O9 (p q:Pt):il p q=0↔p.1=q.1/\p.2.2=q.2.2:=by
 unfold il iQ
 repeat' split
 all_goals omega
theorem Ri (a b:Int) (w:World) (n:Nat) (f:w.cell? (ae n 0)=some (aa a)) (g:w.cell? (ae n 1)=some (aa b)):
  aH 228 #[aj n 2 2] w fun e w'=>e=.returned (aa (if a=0 then b else a))/\w'=w:=by
 by_cases c:a=0
 .subst c;rw[aK rfl];by_cases d:b=0
  .subst d;go_enter func228,ntmps228;go_wp2
   go_loopw [7] (fun i wr=>∃k:Nat,i=.int .i64 k/\k<=2/\wr=w) (fun i _=>2-(intOf i).toNat)
   case atStart=>exact⟨0,rfl,by omega,rfl⟩
   case round=>
    obtain⟨k,rfl,j,rfl⟩:=hrel;by_cases h:k<2
    .have l:wr.cell? (ae n k)=some (aa 0):=by
      obtain rfl|rfl:k=0\/k=1:=by omega
      .exact f
      .exact g
     go_wp2;go_roundw
     case rel=>exact⟨k+1,by go_num,by omega,by first|rfl|trivial⟩
     case measure=>simp[intOf];omega
    .go_wp2;go_ret;exact⟨rfl,rfl⟩
  .have hd:(b !=0)=true:=by simp[d]
   go_enter func228,ntmps228;go_wp2
   go_loopw [7] (fun i wr=>∃k:Nat,i=.int .i64 k/\k<=1/\wr=w) (fun i _=>2-(intOf i).toNat)
   case atStart=>exact⟨0,rfl,by omega,rfl⟩
   case round=>
    obtain⟨k,rfl,j,rfl⟩:=hrel;by_cases h:k<1
    .obtain rfl:k=0:=by omega
     go_wp2;go_roundw
     case rel=>exact⟨1,by go_num,by omega,by first|rfl|trivial⟩
     case measure=>simp[intOf]
    .obtain rfl:k=1:=by omega
     go_wp2;go_ret;exact⟨rfl,rfl⟩
 .rw[aI c];have hd:(a !=0)=true:=by simp[c]
  go_enter func228,ntmps228;go_wp2
  go_loopw [7] (fun i wr=>i=.int .i64 0/\wr=w) (fun i _=>2-(intOf i).toNat)
  case atStart=>exact⟨rfl,rfl⟩
  case round=>
   obtain⟨rfl,rfl⟩:=hrel;go_wp2;go_ret;exact⟨rfl,rfl⟩
theorem UI (a b x y:Int) (w:World):aH 152 #[aa a,aa b,ai x,ai y] w fun e w'=>e=.returned (aa (if iQ a b=0 then iQ x y else iQ a b))/\wF w w':=by
 have c:=af (fun W=>O8 a b W);have d:=af (fun W=>DU x y W);generalize iQ a b=p at*;generalize iQ x y=q at*;go_enter func152,ntmps152
 go_wp2_with fail
 refine(c.o _).mono ?_;rintro e w1 ⟨rfl,rfl⟩
 go_wp2_with fail
 refine(d.o _).mono ?_;rintro e w1 ⟨rfl,rfl⟩
 go_wp2_with fail
 refine(Ri p q _ _ (by rw[ed _ _ _ _ rfl];rfl) (by rw[ed _ _ _ _ rfl];rfl)).mono ?_;rintro e w1 ⟨rfl,rfl⟩;go_wp2
 all_goals
  go_ret;exact⟨rfl,(wF.refl _).alloc _⟩
theorem wF.trans {w w1 w2:World} (h:wF w w1) (c:wF w1 w2):wF w w2:=by
 obtain⟨q,os,rfl⟩:=h;obtain⟨b,a,rfl⟩:=c;refine⟨q+b,os++a,?_⟩;rw[<-Sort.grow_grow];show Sort.grow (Sort.grow ((w.drewN q).drewN b) os) a=_;rw[fP]
theorem Rj (p q:Pt) (w:World):aH 94 #[iD p.1 p.2.1 p.2.2,iD q.1 q.2.1 q.2.2] w fun e w'=>e=.returned (aa (il p q))/\wF w w':=by
 have a:=af (fun W=>UI p.1 q.1 p.2.2 q.2.2 W);unfold il;generalize(if iQ p.1 q.1=0 then iQ p.2.2 q.2.2 else iQ p.1 q.1)=r at*;go_enter func94,ntmps94
 go_wp2_with fail
 refine(a.o _).mono ?_;rintro e w1 ⟨rfl,h⟩;go_wp2;go_ret;exact⟨rfl,(((wF.refl _).alloc _).alloc _).trans h⟩
theorem Ht:∀args w,(callFunc 94 args).run prog w=.ok (.enter 94 args) w:=cK func94 (by kernel_rfl) rfl
end
section
open Go.RowKit Go.Sort Go.Shelf Go.Lib
section
variable {α:Type} [Inhabited α] {enc:α->List Value} {k:Nat}
theorem vz (a:∀x,(enc x).length=k) (h:0<k) (l:List α):(flatK enc k l.toArray).toList=l.flatMap enc:=by
 apply wS;intro t;by_cases ht:t<l.length*k
 .have b:t/k<l.length:=Nat.div_lt_of_lt_mul (by rw[xh];exact ht);have c:t%k<k:=nz _ h;have d:=flat_get a l (t/k) b (t%k) c;rw[Nat.div_add_mod' t k]at d;rw[d];have e:=get_flatK enc k l.toArray t (by simpa using ht);have f:t<(flatK enc k l.toArray).size:=by simpa using ht
  rw[GU,Array.getElem?_eq_getElem f];rw[qO _ t f]at e;rw[e];have g:t%k<(enc l[t/k]).length:=by rw[a];exact c
  rw[dw g];simp[b,g]
 .rw[nM (by simp;omega),nM (by rw[fQ a];omega)]
theorem qm (i:∀x,(enc x).length=k) (m:0<k) {w:World} {base g c n:Nat} {e:TypeId} {l:List α} (o:l.length=n) (h:w.ownsRow base e k (aj g n c) n (l.flatMap enc)):HoldsK enc k w g 0 l.toArray:=by
 intro j a;have f:j<n*k:=by rw[<-o];simpa using a
 have b:=h.cellAt j f;have d:=h.frozenAt j;rw[jU];refine⟨?_,d⟩;rw[b,<-vz i m,GU,Array.getElem?_eq_getElem a];rw[qO (flatK enc k l.toArray) j a];rfl
theorem sP (p:∀x,(enc x).length=k) (z:0<k) {w:World} {base g c n:Nat} {e:TypeId} {l l':List α} (r:l'.length=n) (h:w.ownsRow base e k (aj g n c) n (l.flatMap enc)) (q:Nat) (os:Array Obj):
  (Sort.grow (putRowK enc k (Sort.ahead w q) g 0 l'.toArray) os).ownsRow base e k (aj g n c) n (l'.flatMap enc)/\w.grownBy (Sort.grow (putRowK enc k (Sort.ahead w q) g 0 l'.toArray) os) (some g):=by
 rcases h.2 with⟨f,_⟩|⟨J,H,d,f,v,o,m,B,D,ht⟩
 .cases f
 .injection f with a I s;injection a with a;injection a with a _ _;subst a s;have A:g<w.heap.size:=(aZ.1 o).1;have key:(Sort.grow (putRowK enc k (Sort.ahead w q) g 0 l'.toArray) os).heap[g]? =some (.cells (Sort.putCells id 0 (flatK enc k l'.toArray) d) e (0,0)):=by
   show((w.heap.modify g (Sort.onCells (Sort.putCells id 0 (flatK enc k l'.toArray))))++os)[g]? =_;rw[wI (by simpa using A),wM,aK rfl,o];rfl
  have E:(Sort.putCells id 0 (flatK enc k l'.toArray) d).size=c*k:=by simp[Sort.putCells,D]
  have K:n*k<=c*k:=oC _ m;have G:(Sort.putCells id 0 (flatK enc k l'.toArray) d).toList.take (n*k)=l'.flatMap enc:=by
   rw[<-vz p z];have u:(flatK enc k l'.toArray).size=n*k:=by simp[r]
   generalize flatK enc k l'.toArray=F at*;apply wS;intro j;rw[tK];by_cases i:j<n*k
   .rw[aK i];have y:j<d.size:=by omega
    simp[Sort.putCells,y,u,i]
   .rw[aI i];exact(nM (by simp;omega)).symm
  refine⟨⟨by rw[fQ p,r],.inr ⟨g,c,_,rfl,v,key,m,B,E,G⟩⟩,?_⟩;refine⟨rfl,rfl,rfl,?_,fun b t C=>?_⟩
  .show w.heap.size<=((w.heap.modify g _)++os).size;simp
  .show((w.heap.modify g _)++os)[b]? =_;rw[wI (by simpa using t),wM,aI (fun e=>C (by rw[e]))]
theorem q8 {d d':Array α} (h:PermIn 0 d.size d d'):d'.toList.Perm d.toList:=by
 have⟨b,_,a⟩:=h;rw[show d.extract 0 d.size=d by simp,show d'.extract 0 d.size=d' by rw[<-b];simp]at a;exact a
theorem mf {P:Program} {p:Ren} (L:SlLaysF0.n6 P p) (s:∀x,(enc x).length=k) (B:0<k) (F:∀w,(isAgg (p.t 24)).run P w=.ok true w) (T:∀w,(Go.sizeOf (p.t 24)).run P w=.ok k w) (b:∀x,∀v∈enc x,v.oneCell'=true)
  (o:α->α->Int) (H:SWO (ltOf o)) (f:Nat) (cb:Array Value) (G:∀args w,(callFunc f args).run P w=.ok (.enter f args) w)
  (I:∀x y W,Calls P f (#[.agg (enc x).toArray,.agg (enc y).toArray]++cb) W fun e w'=>e=.returned (aa (o x y))/\∃q S,w'=Sort.grow (W.drewN q) S)
  {w:World} {base g c n:Nat} {e:TypeId} {l:List α} (d:l.length=n) (O:n<4611686018427387904) (h:w.ownsRow base e k (aj g n c) n (l.flatMap enc)):
  Calls P (p.f 6) #[aj g n c,.func (.func f) #[] cb] w fun u w'=>
   u=.returned (.tuple #[])/\∃l':List α,l'.Perm l/\l'.Pairwise (fun x y=>¬o y x<0)/\w'.ownsRow base e k (aj g n c) n (l'.flatMap enc)/\w.grownBy w' (some g):=by
 have N:g<w.heap.size:=by
  rcases h.2 with⟨b,_⟩|⟨Z,U,V,b,ab,K,_⟩
  .cases b
  .injection b with a X Y;injection a with a;injection a with a _ _;subst a;exact(aZ.1 K).1
 have z:=AnyQ.slices_SortFunc L k F T enc s b o H f cb g 0 c l.toArray w G (fun m os dk _ x y=>I x y _) (qm s B d h) N (by simpa[d]using O);rw[show l.toArray.size=n by simpa using d]at z;refine z.mono ?_;rintro u w' ⟨J,d',m,os,hp,E,rfl⟩;rw[show n=l.toArray.size by simpa using d.symm]at hp E;have D:=q8 hp;have C:d'.toList.length=n:=by rw[D.length_eq];simpa using d
 have⟨Q,R⟩:=sP s B C h m os;refine⟨J,d'.toList,D,?_,Q,R⟩;rw[gH];intro i j hi A M;have ac:d'.size=n:=by simpa using C
 have r:=E i j (bf _) M (by simp at A |-;omega);simp at hi A;rw[qO d' j (by omega),qO d' i (by omega)]at r;unfold ltOf at r;simpa using r
end
instance:Inhabited Pt:=⟨(0,0,0)⟩
theorem xD {α:Type} {a:α->α->Int} {R:α->α->Prop} (h:∀x y,a x y<0↔R x y) (hi:∀x,¬R x x) (ht:∀x y z,R x y->R y z->R x z) (b:∀x y z,¬R x y->¬R y z->¬R x z):SWO (ltOf a) where
 irrefl x:=by unfold ltOf;rw[iA,h];exact hi x
 trans x y z h1 h2:=by unfold ltOf at*;rw[decide_eq_true_iff,h]at*;exact ht x y z h1 h2
 ntrans x y z h1 h2:=by unfold ltOf at*;rw[iA,h]at*;exact b x y z h1 h2
theorem Ud:SWO (ltOf il):=xD pz rQ (fun _ _ _=>nR) (fun x y z=>by unfold jV;omega)
theorem Aa {B g:Nat} {w w':World} (h:w.grownBy w' (some g)) (a:B<=w.heap.size) (b:B<=g):Below B w w':=EE h a b
theorem nW (a:Option Addr) (l:List Pt) (n c:Nat) (w:World) (k:l.length=n) (h:cz dx 3 w a l) (m:n<=1000000):
  aH 91 #[.slice a n c] w fun e w'=>∃v,e=.returned v/\w'.ownsRow w.heap.size 29 3 v n (l.flatMap dx)/\Below w.heap.size w w':=by
 subst k;have o:∀(w:World) (a:Option Addr) (n c n' d:Nat),(binOp .eql 22 (.slice a n c) (.slice none n' d)).run prog w=.ok (.bool a.isNone) w:=fun w a n c n' d=>C9 w _ _ a n c n' d underlying22;cases a with
 |none=>
  have i:l=[]:=by
   rcases h with h|⟨b,off,h,_⟩
   .exact h
   .cases h
  subst i;go_enter func91,ntmps91;go_wp2;go_ret;exact⟨_,rfl,dz _ _ _ _,aB _ _⟩
 |some ad=>
  have f:=zt (e:=29) (size:=3) w #[] 0 (ay _) (bf _) rfl;have h':cz dx 3 (w.alloc (.cells #[] 29)) (some ad) l:=h.below ((aB _ _).alloc (ay _) _);go_enter func91,ntmps91
  go_wp2_with (at_builtin;refine iH uV bu mP w.heap.size f h' rfl _ _ rfl rfl c rfl (by unfold maxLen;omega) (by omega) (by simp) ?_;intro p w' g j)
  go_ret;rw[jU,fK]at g;exact⟨_,rfl,g,dB ((aB _ _).alloc (ay _) _) f j (by simp) (ay _)⟩
theorem Fa {l l':List Pt} (hu:(ids l).Nodup) (hp:l'.Perm l) (g:l'.Pairwise fun x y=>¬il y x<0):l'=eO l:=by
 refine Jm hu ?_ fun p=>hp.mem_iff;have c:(ids l').Nodup:=(hp.map _).nodup_iff.2 hu;have d:l'.Pairwise fun p q=>p.2.2≠q.2.2:=dE.1 c;refine(g.and d).imp fun{a b} f=>?_;have⟨e,h⟩:=f;rw[pz]at e;unfold jV at*;omega
theorem Jt {w:World} {base g c n:Nat} {l:List Pt} (i:l.length=n) (k:n<4611686018427387904) (h:w.ownsRow base 29 3 (aj g n c) n (l.flatMap dx)) (hu:(ids l).Nodup):
  aH 93 #[aj g n c,.func (.func 94) #[] #[]] w fun e w'=>
   e=.returned (.tuple #[])/\w'.ownsRow base 29 3 (aj g n c) n ((eO l).flatMap dx)/\w.grownBy w' (some g):=by
 have a:=mf Tryz.G6 bu (by decide) isAgg29 sizeOf29 mP il Ud 94 #[] Ht (fun x y W=>Rj x y W) i k h;change aH 93 _ _ _ at a;refine a.mono ?_;rintro e w' ⟨d,l',hp,j,b,f⟩;rw[Fa hu hp j]at b;exact⟨d,b,f⟩
theorem pE (p:Option Addr) (a:Nat) (b:Value) (w:World):
  aH 93 #[.slice p 0 a,b] w fun e w'=>e=.returned (.tuple #[])/\w'=w:=GI Tryz.G6 p a b w
theorem MI {w:World} {base n:Nat} {v:Value} {l:List Pt} (b:l.length=n) (k:n<4611686018427387904) (h:w.ownsRow base 29 3 v n (l.flatMap dx)) (hu:(ids l).Nodup) (d:base<=w.heap.size):
  aH 93 #[v,.func (.func 94) #[] #[]] w fun e w'=>
   e=.returned (.tuple #[])/\w'.ownsRow base 29 3 v n ((eO l).flatMap dx)/\Below base w w':=by
 rcases h.2 with⟨rfl,c⟩|⟨g,m,o,rfl,f,_⟩
 .subst c;obtain rfl:l=[]:=gJ b;refine(pE none 0 _ w).mono ?_;rintro e w' ⟨a,rfl⟩;exact⟨a,by simpa[eO]using h,aB _ _⟩
 .refine(Jt b k h hu).mono ?_;rintro e w' ⟨a,j,i⟩;exact⟨a,j,Aa i d f⟩
theorem Rk {w:World} {base n:Nat} {v:Value} {l:List Pt} (b:l.length=n) (o:n<=1000000) (h:w.ownsRow base 29 3 v n (l.flatMap dx)):
  aH 215 #[v] w fun e w'=>e=.returned (.tuple #[])/\w'.ownsRow base 29 3 v n (l.reverse.flatMap dx)/\w.grownBy w' v.ownBlock:=by
 rcases h.2 with⟨rfl,f⟩|⟨g,d,i,rfl,j,_⟩
 .subst f;obtain rfl:l=[]:=gJ b;have a:=AnyQ.slices_Reverse_empty Tryz.QF none 0 w;change aH 215 _ _ _ at a;refine a.mono ?_;rintro e w' ⟨c,rfl⟩;exact⟨c,by simpa using h,World.grownBy.refl _ _⟩
 .have a:=AnyQ.slices_Reverse Tryz.QF 3 isAgg29 sizeOf29 dx bu mP g 0 d l.toArray w (qm bu (by decide) b h) (by simp;omega);change aH 215 _ _ _ at a;rw[show l.toArray.size=n by simpa using b]at a;refine a.mono ?_;rintro e w' ⟨c,m,rfl⟩;have k:=sP (l':=l.reverse) bu (by decide) (by simpa using b) h m #[];rw[Sort.grow_empty]at k;rw[show l.toArray.reverse=l.reverse.toArray by simp];exact⟨c,k.1,k.2⟩
end
section
open Go.RowKit Go.Sort Go.Shelf Go.Lib Go.Maps
attribute [local go_sem] Oper.semAt_some
theorem MJ (a:Nat) (c:a<=100000) (w:World):
  aH 231 #[aa a] w fun e w'=>e=.returned (.tuple #[ah w.heap.size,aa 0])/\w'=w.alloc (.cells #[aa a,aG,aG,.bool true] 372):=by
 have b:decide ((a:Int)<0)=false:=by simp
 refine calls_of_wp func231 rfl ?_;simp only[ntmps231,qh,dY,fB,Nat.reduceAdd,Nat.reduceSub,qa,qb,qi,qd,fK,lX];go_wp2;go_ret2;exact⟨rfl,rfl⟩
theorem Pd (a:Option Addr) (l:List Nd) (n c:Nat) (w:World) (k:l.length=n) (h:cz nU 7 w a l) (m:n<=1000000):
  aH 292 #[.slice a n c] w fun e w'=>∃v,e=.returned v/\w'.ownsRow w.heap.size 163 7 v n (l.flatMap nU)/\Below w.heap.size w w':=by
 subst k;have o:∀(w:World) (a:Option Addr) (n c n' d:Nat),(binOp .eql 141 (.slice a n c) (.slice none n' d)).run prog w=.ok (.bool a.isNone) w:=fun w a n c n' d=>C9 w _ _ a n c n' d underlying141;cases a with
 |none=>
  have i:l=[]:=by
   rcases h with h|⟨b,off,h,_⟩
   .exact h
   .cases h
  subst i;go_enter func292,ntmps292;go_wp2;go_ret;exact⟨_,rfl,dz _ _ _ _,aB _ _⟩
 |some ad=>
  have f:=zt (e:=163) (size:=7) w #[] 0 (ay _) (bf _) rfl;have h':cz nU 7 (w.alloc (.cells #[] 163)) (some ad) l:=h.below ((aB _ _).alloc (ay _) _);go_enter func292,ntmps292
  go_wp2_with (at_builtin;refine iH Q7 iZ Jo w.heap.size f h' rfl _ _ rfl rfl c rfl (by unfold maxLen;omega) (by omega) (by simp) ?_;intro p w' g j)
  go_ret;rw[jU,fK]at g;exact⟨_,rfl,g,dB ((aB _ _).alloc (ay _) _) f j (by simp) (ay _)⟩
theorem Hu (k:Nat) (b:Nat) (a:Option Addr) (nc:Nat) (j:Value) (l:List Nd) (w:World) (d:w.heap[b]? =some (.cells #[aa k,.slice a l.length nc,j,.bool true] 372 (0,0))) (h:cz nU 7 w a l) (g:l.length<=1000000):
  aH 233 #[ah b] w fun e w'=>∃v,e=.returned v/\w'.ownsRow w.heap.size 163 7 v l.length (l.flatMap nU)/\Below w.heap.size w w':=by
 have m:w.cell? (ae b 1)=some (.slice a l.length nc):=by simp[World.cell?,d]
 have c:=Pd a l l.length nc w rfl h g;go_enter func233,ntmps233
 go_wp2_with (go_at_call 292;refine c.mono ?_;rintro e w' ⟨v,rfl,i,f⟩)
 go_ret;exact⟨_,rfl,i,f⟩
end
section
open Go.RowKit Go.Sort Go.Shelf Go.Lib Go.Maps
attribute [local irreducible] wpQuiet
attribute [local go_sem] Oper.fo
structure gF (w:World) (b base most:Nat) (nv kv:Value) (l:List Nd) (kid:List Bool):Prop where
 blk:w.heap[b]? =some (.cells #[aa most,nv,kv,.bool true] 372 (0,0))
 iP:w.ownsRow base 163 7 nv l.length (l.flatMap nU)
 row:w.ownsRow base 4 1 kv l.length (kid.map Value.bool)
 len:kid.length=l.length
def jW (b:Nat) (nv kv:Value) (k:Nat):Prop:=k=b\/nv.ownBlock=some k\/kv.ownBlock=some k
def qo (w:World) (b base most:Nat) (nv kv:Value) (l:List Nd) (kid:List Bool) (w':World):Prop:=
 ∃UJ UK,gF w' b base most UJ UK l kid/\(∀k,jW b UJ UK k->jW b nv kv k\/w.heap.size<=k)/\au (jW b nv kv) w w'
theorem gF.lt {w:World} {b base f:Nat} {c a:Value} {l:List Nd} {d:List Bool} (h:gF w b base f c a l d):∀k,jW b c a k->k<w.heap.size:=by
 rintro k (rfl|e|e)
 .exact(aZ.1 h.blk).1
 .exact(h.iP.lt k e).2
 .exact(h.row.lt k e).2
theorem gF.kept {w w':World} {b base g:Nat} {d c:Value} {l:List Nd} {f:List Bool} (h:gF w b base g d c l f) {S:Nat->Prop} (K:au S w w') (hS:∀k,jW b d c k->¬S k):gF w' b base g d c l f:=
 ⟨bF K h.blk (hS b (.inl rfl)),aS h.iP K (fun a e=>hS a (.inr (.inl e))),aS h.row K (fun a e=>hS a (.inr (.inr e))),h.len⟩
theorem qo.trans {w w1 w2:World} {b base i:Nat} {c a j f:Value} {g:List Nd} {e:List Bool} (d:∀k,jW b j f k->jW b c a k\/w.heap.size<=k) (K:au (jW b c a) w w1) (h:qo w1 b base i j f g e w2):qo w b base i c a g e w2:=by
 have⟨p,o,A,n,l⟩:=h;refine⟨p,o,A,fun k m=>?_,?_⟩
 .rcases n k m with h9|h9
  .exact d k h9
  .have:=K.size;exact .inr (by omega)
 .exact((K.mono (fun k h=>.inl h)).trans (l.mono (fun k h9=>d k h9))).strip
theorem fD {w:World} {base:Nat} {e:TypeId} {sz:Nat} {v:Value} {n:Nat} {xs:List Value} (h:w.ownsRow base e sz v n xs):∃a c,v=.slice a n c:=by
 rcases h.2 with⟨rfl,rfl⟩|⟨g,b,d,rfl,_⟩<;>exact⟨_,_,rfl⟩
def Ac (b x:Nat) (nv kv:Value) (k L R f t it:Int) (W:World):Prop:=
 W.cell? (ae b 1)=some (nv)/\W.cell? (ae b 2)=some (kv)/\W.cell? (ae x 0)=some (.int .u8 k)/\W.cell? (ae x 1)=some (aa L)/\W.cell? (ae x 2)=some (aa R)/\W.cell? (ae x 3)=some (aa f)/\W.cell? (ae x 4)=some (aa t)/\W.cell? (ae x 5)=some (aa 0)/\W.cell? (ae x 6)=some (aa it)
theorem vB (k L R f t i:Int) (r b base m:Nat) (a7 c:Value) (Y ap:List Bool) (l:List Nd) (w:World) (an:l.length=m) (cp:m<r) (cq:r<=100000) (bY:ap.length=m)
  (h:gF w b base r a7 c l Y) (cn:base<=w.heap.size)
  (bl:∀W,W.ownsRow base 4 1 c m (Y.map Value.bool)->aH 319 #[zU k L R f t i,c] W (eY W (.bool true)))
  (br:∀W,W.ownsRow base 4 1 c m (Y.map Value.bool)->base<=W.heap.size->aH 320 #[zU k L R f t i,c] W (Mx W base m c ap)):
  aH 291 #[ah b,zU k L R f t i] w fun e w'=>e=.returned (.tuple #[aa m,aa 0])/\qo w b base r a7 c (l++[⟨k,L,R,f,t,i⟩]) (ap++[false]) w':=by
 have⟨D,ao,a6,co⟩:=h;rw[an]at ao a6;have V:b<w.heap.size:=(aZ.1 D).1;obtain⟨g,nc,a5,-,-,-⟩:=cz.aC iZ (by decide) ao;rw[an]at a5;subst a5;have bG:w.cell? (ae b 0)=some (aa r):=by simp[World.cell?,D]
 have bJ:w.cell? (ae b 1)=some (.slice g m nc):=by simp[World.cell?,D]
 have bK:w.cell? (ae b 2)=some c:=by simp[World.cell?,D]
 have cb:w.cell? (ae b 3)=some (.bool true):=by simp[World.cell?,D]
 have bf:=af D;have aQ:=af a6;have aL:=af ao;have bm:=af bl;have bs:=af br;have ad:=af an;have bk:=af bY;have d3:decide (r<=m)=false:=by simp;omega
 go_enter func291,ntmps291;go_wp2;obtain⟨wk,X⟩:∃wk,wk=w.alloc (.cells #[.int .u8 k,aa L,aa R,aa f,aa t,aa 0,aa i] 163):=⟨_,rfl⟩;have z:Hid (Below w.heap.size w wk):=by rw[X];exact(aB _ w).alloc (ay _) _
 have bu:Hid (wk.heap[w.heap.size]? =some (.cells #[.int .u8 k,aa L,aa R,aa f,aa t,aa 0,aa i] 163 (0,0))):=by rw[X];exact di w _
 rw[<-X];have y:w.heap.size<wk.heap.size:=by rw[X];simp
 have bo:=af (ax aL.o z.o);have aR:=af (ax aQ.o z.o);have bg:Hid (wk.heap[b]? =some (.cells #[aa r,.slice g m nc,c,.bool true] 372 (0,0))):=(z.o.block b V).trans bf.o;have bL:=(z.o.cell (p:=(ae b 0)) V).trans bG;have bM:=(z.o.cell (p:=(ae b 1)) V).trans bJ;have u:=(z.o.cell (p:=(ae b 2)) V).trans bK;have B:=bu.o;have a9:wk.cell? (ae w.heap.size 0)=some (.int .u8 k):=by simp[World.cell?,B]
 have x1:wk.cell? (ae w.heap.size 1)=some (aa L):=by simp[World.cell?,B]
 have x2:wk.cell? (ae w.heap.size 2)=some (aa R):=by simp[World.cell?,B]
 have ba:wk.cell? (ae w.heap.size 3)=some (aa f):=by simp[World.cell?,B]
 have bb:wk.cell? (ae w.heap.size 4)=some (aa t):=by simp[World.cell?,B]
 have bc:wk.cell? (ae w.heap.size 5)=some (aa 0):=by simp[World.cell?,B]
 have bd:wk.cell? (ae w.heap.size 6)=some (aa i):=by simp[World.cell?,B]
 have cB:=ag u;have cs:=ag a9;have ct:=ag x1;have cv:=ag x2;have cw:=ag ba;have cx:=ag bb;have cy:=ag bc;have cA:=ag bd;have bi:Hid (∀p:aT wk,aH 319 #[zU k L R f t i,c] p.W fun e w'=>e=.returned (.bool true)/\Below p.W.heap.size p.W w'):=fun p=>bm.o _ (ax aR.o p.h);refine bI (by kernel_rfl) (by kernel_rfl) ?_
 repeat(quiet_step ((go_at_call 319;exact dC (bi.o _))))
 refine jb ?_;intro j b1;have n:Below wk.heap.size wk j:=by obtain⟨p,rfl⟩:=b1;exact p.h
 have bp:=af (ax bo.o n);have bt:=af (ax aR.o n);have U:b<wk.heap.size:=by omega
 have bh:Hid (j.heap[b]? =some (.cells #[aa r,.slice g m nc,c,.bool true] 372 (0,0))):=(n.block b U).trans bg.o;have cF:=(n.cell (p:=(ae b 0)) U).trans bL;have b9:=(n.cell (p:=(ae b 1)) U).trans bM;have ca:=(n.cell (p:=(ae b 2)) U).trans u;have b4:=(n.cell (p:=(ae w.heap.size 0)) y).trans a9;have y1:=(n.cell (p:=(ae w.heap.size 1)) y).trans x1;have y2:=(n.cell (p:=(ae w.heap.size 2)) y).trans x2;have b5:=(n.cell (p:=(ae w.heap.size 3)) y).trans ba;have b6:=(n.cell (p:=(ae w.heap.size 4)) y).trans bb;have b7:=(n.cell (p:=(ae w.heap.size 5)) y).trans bc;have b8:=(n.cell (p:=(ae w.heap.size 6)) y).trans bd;go_wp2
 go_quiet (fail)
 go_wp2;have M:Hid ((j.drewN nq).ownsRow base 163 7 (.slice g m nc) m (l.flatMap nU)):=bp.o;have O:Hid ((j.drewN nq).ownsRow base 4 1 c m (Y.map Value.bool)):=bt.o;have I:Hid ((j.drewN nq).heap[b]? =some (.cells #[aa r,.slice g m nc,c,.bool true] 372 (0,0))):=bh.o;have bS:Hid (Below w.heap.size w (j.drewN nq)):=(z.o.trans (n.mono (by omega))).trans (Below.bC _ _);have a2:w.heap.size<(j.drewN nq).heap.size:=bB y n.size;have ab:(j.drewN nq).cell? (ae b 1)=some (.slice g m nc):=b9;have ac:(j.drewN nq).cell? (ae b 2)=some c:=ca;have av:(j.drewN nq).cell? (ae w.heap.size 0)=some (.int .u8 k):=b4;have aw:(j.drewN nq).cell? (ae w.heap.size 1)=some (aa L):=y1;have az:(j.drewN nq).cell? (ae w.heap.size 2)=some (aa R):=y2;have aE:(j.drewN nq).cell? (ae w.heap.size 3)=some (aa f):=b5;have aG:(j.drewN nq).cell? (ae w.heap.size 4)=some (aa t):=b6;have aI:(j.drewN nq).cell? (ae w.heap.size 5)=some (aa 0):=b7;have aK:(j.drewN nq).cell? (ae w.heap.size 6)=some (aa i):=b8;generalize j.drewN nq=w6 at*;have bZ:∀d,(Value.slice g m nc).ownBlock=some d->d<w6.heap.size/\d≠b/\d≠w.heap.size:=fun d e=>⟨(M.o.lt d e).2,fun H=>bz M.o I.o (by decide) d e H.symm,fun H=>by have:=(aL.o.lt d e).2;omega⟩;have bX:∀d,c.ownBlock=some d->d<w6.heap.size/\d≠b/\d≠w.heap.size:=fun d e=>⟨(O.o.lt d e).2,fun H=>bz O.o I.o (by decide) d e H.symm,fun H=>by have:=(aQ.o.lt d e).2;omega⟩;have b0:∀d,(Value.slice g m nc).ownBlock=some d->c.ownBlock≠some d:=bD M.o O.o (by decide);have N:=af bZ;have J:=af bX;have aP:=af b0;have am:b<w6.heap.size:=by omega
 have cm:base<=w6.heap.size:=by omega
 have bN:∀o,w6.frozen? (ae b o)=false:=fun o=>by have h9:=I.o;simp[World.frozen?,h9]
 have bj:Hid (Ac b w.heap.size (.slice g m nc) c k L R f t i w6.drew):=⟨ab,ac,av,aw,az,aE,aG,aI,aK⟩;have cc:∀p:jD (Ac b w.heap.size (.slice g m nc) c k L R f t i),p.W.cell? (ae b 1)=some (.slice g m nc):=fun p=>p.h.1;have cd:∀p:jD (Ac b w.heap.size (.slice g m nc) c k L R f t i),p.W.cell? (ae b 2)=some (c):=fun p=>p.h.2.1;have ce:∀p:jD (Ac b w.heap.size (.slice g m nc) c k L R f t i),p.W.cell? (ae w.heap.size 0)=some (.int .u8 k):=fun p=>p.h.2.2.1;have cf:∀p:jD (Ac b w.heap.size (.slice g m nc) c k L R f t i),p.W.cell? (ae w.heap.size 1)=some (aa L):=fun p=>p.h.2.2.2.1;have cg:∀p:jD (Ac b w.heap.size (.slice g m nc) c k L R f t i),p.W.cell? (ae w.heap.size 2)=some (aa R):=fun p=>p.h.2.2.2.2.1;have ch:∀p:jD (Ac b w.heap.size (.slice g m nc) c k L R f t i),p.W.cell? (ae w.heap.size 3)=some (aa f):=fun p=>p.h.2.2.2.2.2.1;have ci:∀p:jD (Ac b w.heap.size (.slice g m nc) c k L R f t i),p.W.cell? (ae w.heap.size 4)=some (aa t):=fun p=>p.h.2.2.2.2.2.2.1;have cj:∀p:jD (Ac b w.heap.size (.slice g m nc) c k L R f t i),p.W.cell? (ae w.heap.size 5)=some (aa 0):=fun p=>p.h.2.2.2.2.2.2.2.1;have ck:∀p:jD (Ac b w.heap.size (.slice g m nc) c k L R f t i),p.W.cell? (ae w.heap.size 6)=some (aa i):=fun p=>p.h.2.2.2.2.2.2.2.2;refine ak (fun W=>∃p:jD (Ac b w.heap.size (.slice g m nc) c k L R f t i),W=p.W) [14,15,16,17,18,19,20] [(0,false),(1,false),(2,false),(3,false),(4,false),(5,true),(6,true),(9,true),(10,false),(11,false),(12,false),(13,true)] ⟨⟨_,bj.o⟩,rfl⟩ 9 ?_;simp only[bn,aX,aY,aW,aN,aM,aO]
 repeat(refine aD (fun K x=>?_);go_simp;first|(refine x _ ?_;clear x K)|(apply Exists.intro;refine⟨fun _=>?_,x _ ?_⟩;rfl;clear x K))
 refine aJ ?_;refine aA 7 rfl fun K x=>?_;go_simp;have P:au (fun _=>False) w6 (w6.alloc (.cells #[.int .u8 k,aa L,aa R,aa f,aa t,aa 0,aa i] 163)).drew:=((au.refl _ _).alloc _).drew;obtain⟨a8,-⟩:=cu P am (fun h=>h);obtain⟨C,-⟩:=cu P a2 (fun h=>h);refine x _ _ (fun _ _=>⟨⟨_,(a8 1).trans ab,(a8 2).trans ac,(C 0).trans av,(C 1).trans aw,(C 2).trans az,(C 3).trans aE,(C 4).trans aG,(C 5).trans aI,(C 6).trans aK⟩,rfl⟩) ?_;refine aA 8 rfl fun K x=>?_;refine bH Q7 base (aS (S:=fun _=>False) M.o P (fun _ _ h=>h)) [.int .u8 k,.int .i64 L,.int .i64 R,.int .i64 f,.int .i64 t,.int .i64 0,.int .i64 i] rfl (by simp[Value.oneCell']) rfl (.tmp 40) (.tmp 42) rfl rfl w6.heap.size rfl (kF _ _) (by unfold maxLen;omega) (by omega) (by simp;omega) ?_;intro v G Z bR bQ aV cl;have s:au (fun k=>(Value.slice g m nc).ownBlock=some k) w6 Z:=(P.mono (fun _ h=>h.elim)).grown bQ (fun k bW=>.inl bW);have⟨Q,bF⟩:=cu s am (fun e=>(N.o _ e).2.1 rfl);obtain⟨A,-⟩:=cu s a2 (fun e=>(N.o _ e).2.2 rfl);refine x _ _ (fun _ _=>⟨⟨_,(Q 1).trans ab,(Q 2).trans ac,(A 0).trans av,(A 1).trans aw,(A 2).trans az,(A 3).trans aE,(A 4).trans aG,(A 5).trans aI,(A 6).trans aK⟩,rfl⟩) ?_;have be:=aS (S:=fun k=>(Value.slice g m nc).ownBlock=some k) O.o s (fun d e u=>aP.o d u e);have bT:base<=Z.heap.size:=by have:=s.size;omega
 have a3:b<Z.heap.size:=by have:=s.size;omega
 have aU:∀o,Z.frozen? (ae b o)=false:=fun o=>(bF o).trans (bN o);refine aF [14,15,16,17,18,19,20] _ _ _ (by kernel_rfl) ?_;simp only[pick,aX,aY,aW,aN,aM];have bx:=bs.o _ be bT;have bA:=(Q 1).trans ab;have bE:=(Q 2).trans ac
 go_wp2_with (go_at_call 320;refine bx.mono ?_;rintro e wp ⟨cE,rfl,a1,a0,T⟩;obtain⟨E,F,rfl⟩:=fD a1;obtain⟨aq,ar⟩:=cu T a3 (fun e=>(J.o _ e).2.1 rfl);have cC:=(aq 1).trans bA;have cD:=(aq 2).trans bE;have f1:=(ar 1).trans (aU 1);have f2:=(ar 2).trans (aU 2);clear aq ar)
 have bv:au (jW b (.slice g m nc) c) w6 wp:=(s.mono (fun k h=>.inr (.inl h))).trans (T.mono (fun k h=>.inr (.inr h)));have bw:au (jW b (.slice g m nc) c) w ((wp.setCell (ae b 1) (aj v (m+1) G)).setCell (ae b 2) (.slice E (m+1) F)):=
  ((((au.refl (jW b (.slice g m nc) c) w).below bS.o).trans bv).set (a:=(ae b 1)) _ (.inl (.inl rfl))).set (a:=(ae b 2)) _ (.inl (.inl rfl))
 have a4:v≠b/\c.ownBlock≠some v:=by
  rcases aV with h9|h9
  .exact⟨(N.o _ h9).2.1,fun e=>aP.o _ h9 e⟩
  .simp at h9;exact⟨by omega,fun e=>by have:=(J.o _ e).1;omega⟩
 have bV:∀d,(Value.slice E (m+1) F).ownBlock=some d->d≠b:=fun d e=>by
  rcases a0 with h9|⟨ai,h9,bP⟩
  .exact(J.o _ (h9.symm.trans e)).2.1
  .have:ai=d:=by rw[h9]at e;injection e
   omega
 have cr:=s.size;go_ret2;refine⟨rfl,aj v (m+1) G,.slice E (m+1) F,⟨?_,?_,?_,?_⟩,?_,bw⟩
 .have bU:wp.heap[b]? =some (.cells #[aa r,.slice g m nc,c,.bool true] 372 (0,0)):=(T.block b a3 (fun e=>(J.o _ e).2.1 rfl)).trans ((s.block b am (fun e=>(N.o _ e).2.1 rfl)).trans I.o);have b2:=dA wp b 1 _ _ (aj v (m+1) G) bU;have b3:=dA _ b 2 _ _ (.slice E (m+1) F) b2;exact b3
 .have bO:=aS (S:=fun k=>c.ownBlock=some k) bR T (fun d e u=>by injection e with e;subst e;exact a4.2 u);have al:=aS (S:=fun k=>k=b) bO (((au.refl (fun k=>k=b) wp).set (a:=(ae b 1)) (aj v (m+1) G) (.inl rfl)).set (a:=(ae b 2)) (.slice E (m+1) F) (.inl rfl)) (fun d e u=>by injection e with e;subst e;exact a4.1 u);rw[bq,gM,ad.o];exact al
 .have al:=aS (S:=fun k=>k=b) a1 (((au.refl (fun k=>k=b) wp).set (a:=(ae b 1)) (aj v (m+1) G) (.inl rfl)).set (a:=(ae b 2)) (.slice E (m+1) F) (.inl rfl)) bV;rw[bq,ad.o];exact al
 .simp[ad.o,bk.o]
 .rintro q (rfl|e|e)
  .exact .inl (.inl rfl)
  .have e:v=q:=by injection e
   subst e;rcases aV with h9|h9
   .exact .inl (.inr (.inl h9))
   .simp at h9;exact .inr (by omega)
  .rcases a0 with h9|⟨ai,h9,bP⟩
   .exact .inl (.inr (.inr (h9.symm.trans e)))
   .have:ai=q:=by rw[h9]at e;injection e
    exact .inr (by omega)
end
section
open Go.RowKit Go.Sort Go.Shelf Go.Lib Go.Maps
theorem BB (f t a:Int) (d b base:Nat) (g i:Value) (c:List Bool) (l:List Nd) (w:World) (m:l.length<d) (n:d<=100000) (h:gF w b base d g i l c) (k:base<=w.heap.size):
  aH 291 #[ah b,zU 1 (-1) (-1) f t a] w fun e w'=>e=.returned (.tuple #[aa l.length,aa 0])/\qo w b base d g i (l++[⟨1,-1,-1,f,t,a⟩]) (c++[false]) w':=by
 obtain⟨p,q,rfl⟩:=fD h.row;exact vB 1 (-1) (-1) f t a d b base l.length g _ c c l w rfl m n h.len h k (fun W _=>Rh f t a _ rfl W) (fun W o j=>Q9 1 f t a p l.length q base c W h.len (by omega) o j)
theorem BC (f t d:Int) (i j:Nat) (u:i≠j) (k b base:Nat) (o q:Value) (a:List Bool) (l:List Nd) (w:World) (v:l.length<k) (x:k<=100000) (hi:a[i]? =some false) (p:a[j]? =some false) (h:gF w b base k o q l a) (s:base<=w.heap.size):
  aH 291 #[ah b,zU 2 i j f t d] w fun e w'=>e=.returned (.tuple #[aa l.length,aa 0])/\qo w b base k o q (l++[⟨2,i,j,f,t,d⟩]) ((a.set i true).set j true++[false]) w':=by
 have y:=(fC.1 hi).1;have z:=(fC.1 p).1;have m:=h.len;obtain⟨g,c,rfl,_,_,_,_⟩:=aQ h.row (by omega);exact vB 2 i j f t d k b base l.length o _ a ((a.set i true).set j true) l w rfl v x (by simp[m]) h s (fun W n=>O7 f t d i j u g l.length c base a W m (by omega) hi p n) (fun W n r=>O5 2 f t d i j g l.length c base a W m (by omega) (by omega) (by omega) n r)
def DV (n:Nat):List Bool:=List.replicate (2*n-2) true++[false]
theorem MK (b:List Bool) (a c:Nat) (f:0<a) (g:0<c):
  (((b++DV a)++DV c).set (b.length+(2*a-2)) true).set (b.length+(2*a-1)+(2*c-2)) true++[false]=b++DV (a+c):=by
 unfold DV;have d:∀(A:List Bool) (k:Nat),(A++(List.replicate k true++[false])).set (A.length+k) true=A++List.replicate (k+1) true:=fun A k=>by
  rw[<-dW,sK _ _ (by simp),bq,gX,kE,dW,qD];rfl
 have e:=d (b++List.replicate (2*a-2+1) true) (2*c-2);rw[show(b++List.replicate (2*a-2+1) true).length+(2*c-2)=b.length+(2*a-1)+(2*c-2) by simp;omega]at e;rw[List.set_append_left _ _ (by simp),d b (2*a-2),e,dW,dW];congr 1;rw[<-dW,List.replicate_append_replicate];congr 2;omega
theorem ML (b:List Bool) (a c:Nat) (d:0<a):((b++DV a)++DV c)[b.length+(2*a-2)]? =some false:=by
 unfold DV;rw[kY (by simp),mG (by simp),mG (by simp)];simp
theorem KF (c:List Bool) (a b:Nat) (d:0<a) (e:0<b):((c++DV a)++DV b)[c.length+(2*a-1)+(2*b-2)]? =some false:=by
 unfold DV;rw[mG (by simp;omega),mG (by simp;omega)];rw[show c.length+(2*a-1)+(2*b-2)-(c++(List.replicate (2*a-2) true++[false])).length-(List.replicate (2*b-2) true).length=0 by simp;omega];rfl
theorem KG (n:Nat):∀(a c j b base:Nat) (i g:Value) (l:List Nd) (p:List Bool) (w:World),c=a+n->0<n->l.length+(2*n-1)<=j->j<=100000->c<=50000->gF w b base j i g l p->base<=w.heap.size->
  aH 232 #[ah b,aa a,aa c] w fun e w'=>e=.returned (aa ((l.length+(2*n-2):Nat):Int))/\qo w b base j i g (l++(dK a n).nodes l.length) (p++DV n) w':=by
 induction n using Nat.strongRecOn with
 |ind n ih=>
 intro a c j b base i g l p w ap aT aq K aR hP a3;have a2:=hP.lt b (.inl rfl);by_cases al:n=1
 .subst al;subst ap;have x:=af (fun W (h:gF W b base j i g l p) (D:base<=W.heap.size)=>BB (a:Int) ((a+1:Nat):Int) (a:Int) j b base i g p l W (by omega) K h D);have A:=af hP;have d1:decide (((a+1:Nat):Int)-(a:Int)>1)=false:=by simp;omega
  have d2:decide ((1:Int)<((a+1:Nat):Int)-(a:Int))=false:=by simp;omega
  have B:(dK a 1).nodes l.length=[⟨1,-1,-1,a,((a+1:Nat):Int),a⟩]:=by rw[yU a 1 (by omega)];simp[FT.nodes]
  rw[B];clear B hP ih aq;generalize aS:a+1=c at*;have a4:c<=50000/\a<c:=by omega
  clear aS;go_enter func232,ntmps232
  go_wp2_with fail
  refine(x.o _ (A.o.kept ((au.refl (fun _=>False) w).alloc _) (fun _ _ h=>h)) (by simp;omega)).mono ?_;rintro e w1 ⟨rfl,C⟩;have E:=af C;clear C;go_wp2;go_ret;refine⟨rfl,?_⟩;exact qo.trans (fun k h=>.inl h) ((au.refl _ w).alloc _) E.o
 .obtain⟨d,ar⟩:∃d,d=n-n/2:=⟨_,rfl⟩;obtain⟨f,av⟩:∃f,f=n/2:=⟨_,rfl⟩;obtain⟨m,X⟩:∃m,m=a+d:=⟨_,rfl⟩;have B:(dK a n).nodes l.length=(dK a d).nodes l.length++(dK m f).nodes (l.length+(2*d-1))++[⟨2,((l.length+(2*d-2):Nat):Int),((l.length+(2*d-1)+(2*f-2):Nat):Int),a,c,0⟩]:=by
   rw[DC a n (by omega),FT.nodes,<-ar,<-av,<-X,eZ a d (by omega),eZ m f (by omega),(bO a d (by omega)).2.1,(bO m f (by omega)).2.2];congr 3
   .omega
   .omega
   .omega
  rw[B,show n=d+f by omega];clear B;obtain⟨r,H⟩:∃r,r=l.length+(2*d-2):=⟨_,rfl⟩;obtain⟨q,I⟩:∃q,q=l.length+(2*d-1)+(2*f-2):=⟨_,rfl⟩;have aG:Hid (∀W,gF W b base j i g l p->base<=W.heap.size->aH 232 #[ah b,aa a,aa m] W fun e w'=>e=.returned (aa r)/\qo W b base j i g (l++(dK a d).nodes l.length) (p++DV d) w'):=
   fun W h D=>(ih d (by omega) a m j b base i g l p W X (by omega) (by omega) K (by omega) h D).mono fun e w' ⟨T,Y⟩=>⟨by rw[T,H],Y⟩
  have aJ:Hid (∀W i g u L,u.length=l.length+(2*d-1)->gF W b base j i g u L->base<=W.heap.size->aH 232 #[ah b,aa m,aa c] W fun e w'=>e=.returned (aa q)/\qo W b base j i g (u++(dK m f).nodes u.length) (L++DV f) w'):=
   fun W i g u L aL h D=>(ih f (by omega) m c j b base i g u L W (by omega) (by omega) (by omega) K aR h D).mono fun e w' ⟨T,Y⟩=>⟨by rw[T,I,aL],Y⟩
  have z:Hid (r=l.length+(2*d-2)/\q=l.length+(2*d-1)+(2*f-2)):=⟨H,I⟩;rw[<-H,<-I];clear H I;have A:=af hP;have a5:(c:Int)-((c:Int)-(a:Int))/2=(m:Int):=by omega
  have a1:(a:Int)<c/\(c:Int)<=50000:=by omega
  have s:0<d/\0<f:=by omega
  have d1:decide ((c:Int)-(a:Int)>1)=true:=by simp;omega
  have d2:decide ((1:Int)<(c:Int)-(a:Int))=true:=by simp;omega
  have aA:Hid (l.length+(2*(d+f)-1)<=j):=(show l.length+(2*(d+f)-1)<=j by omega);clear ih hP ap aT aq al ar av X;go_enter func232,ntmps232
  go_wp2_with fail
  obtain⟨v,t⟩:∃v,v=w.alloc (.cells #[.int .u8 2,aa (-1),aa (-1),aa a,aa c,aa 0,aa 0] 163):=⟨_,rfl⟩;rw[<-t];have aI:Hid (gF v b base j i g l p):=by rw[t];exact A.o.kept ((au.refl (fun _=>False) w).alloc _) (fun _ _ h=>h)
  have ao:v.heap[w.heap.size]? =some (.cells #[.int .u8 2,aa (-1),aa (-1),aa a,aa c,aa 0,aa 0] 163 (0,0)):=by rw[t];exact di w _
  have aF:Hid (au (jW b i g) w v):=by rw[t];exact(au.refl _ w).alloc _
  have aP:w.heap.size<v.heap.size:=by rw[t];simp
  have am:∀k,jW b i g k->k<w.heap.size:=A.o.lt;have ag:=af am;clear t am;refine(aG.o _ aI.o (by omega)).mono ?_;rintro e w1 ⟨rfl,az,ay,ac,aw,F⟩;have R:Hid (w1.heap[w.heap.size]? =some (.cells #[.int .u8 2,aa (-1),aa (-1),aa a,aa c,aa 0,aa 0] 163 (0,0))):=(F.block _ aP (fun h=>by have:=ag.o _ h;omega)).trans ao;have a7:=F.size;have aB:=af ac;have P:=af aw;have aD:=af F;have u1:w1.cell? (ae w.heap.size 1)=some (aa (-1)):=by have h9:=R.o;simp[World.cell?,h9]
  have v1:w1.frozen? (ae w.heap.size 1)=false:=by have h9:=R.o;simp[World.frozen?,h9]
  clear ac aw F ao
  go_wp2_with fail
  have aj:=af (dA w1 w.heap.size 1 _ _ (.int .i64 (r:Int)) R.o);have N:Hid (au (fun k=>k=w.heap.size) w1 (w1.setCell (ae w.heap.size 1) (.int .i64 (r:Int)))):=(au.refl _ w1).set (a:=(ae w.heap.size 1)) _ (.inl rfl);simp only[yw,ng,nN]at aj;generalize w1.setCell (ae w.heap.size 1) (.int .i64 (r:Int))=w2 at*;have an:∀k,jW b az ay k->k≠w.heap.size:=fun k h e=>by
   rcases P.o k h with h9|h9
   .have:=ag.o _ h9;omega
   .omega
  have Q:=af an;have a8:=N.o.size;clear an u1 v1;refine(aJ.o w2 az ay _ _ (by rw[bq,FT.ib,eZ a d s.1]) (aB.o.kept N.o (fun k h e=>Q.o k h e)) (by omega)).mono ?_;rintro e w3 ⟨rfl,ab,Z,ad,ax,G⟩;have aQ:w.heap.size<w2.heap.size:=by omega
  have S:Hid (w3.heap[w.heap.size]? =some (.cells #[.int .u8 2,aa r,aa (-1),aa a,aa c,aa 0,aa 0] 163 (0,0))):=(G.block _ aQ (fun h=>Q.o _ h rfl)).trans aj.o;have a9:=G.size;have aC:=af ad;have ai:=af ax;have aE:=af G;have u3:w3.cell? (ae w.heap.size 2)=some (aa (-1)):=by have h9:=S.o;simp[World.cell?,h9]
  have bb:w3.frozen? (ae w.heap.size 2)=false:=by have h9:=S.o;simp[World.frozen?,h9]
  clear ad ax G;have a0:Hid (w3.setCell (ae w.heap.size 2) (.int .i64 q)=w3.setCell (ae w.heap.size 2) (.int .i64 q)):=rfl;have ak:=af (dA w3 w.heap.size 2 _ _ (.int .i64 (q:Int)) S.o);have O:Hid (au (fun k=>k=w.heap.size) w3 (w3.setCell (ae w.heap.size 2) (.int .i64 (q:Int)))):=(au.refl _ w3).set (a:=(ae w.heap.size 2)) _ (.inl rfl);simp only[yw,ng,nN]at ak;have y:(∀o,o<7->(w3.setCell (ae w.heap.size 2) (.int .i64 (q:Int))).cell? (ae w.heap.size o)=[Value.int .u8 2,.int .i64 r,.int .i64 q,.int .i64 a,.int .i64 c,.int .i64 0,.int .i64 0][o]?):=fun o a6=>by have h9:=ak.o;simp[World.cell?,h9]
  have aV:=y 0 (by omega);have y1:=y 1 (by omega);have y2:=y 2 (by omega);have aW:=y 3 (by omega);have aX:=y 4 (by omega);have aY:=y 5 (by omega);have aZ:=y 6 (by omega);simp only[aM,aN]at aV y1 y2 aW aX aY aZ;clear y
  go_wp2_with fail
  generalize w3.setCell (ae w.heap.size 2) (.int .i64 (q:Int))=w4 at*;have aO:∀k,jW b ab Z k->k≠w.heap.size:=fun k h e=>by
   rcases ai.o k h with h9|h9
   .exact Q.o k h9 e
   .omega
  have ba:=O.o.size;have M:=aC.o.kept O.o (fun k h e=>aO k h e);have U:(l++(dK a d).nodes l.length).length=l.length+(2*d-1):=by rw[bq,FT.ib,eZ a d s.1]
  have V:((l++(dK a d).nodes l.length)++(dK m f).nodes (l.length+(2*d-1))).length=l.length+(2*(d+f)-2):=by rw[bq,U,FT.ib,eZ m f s.2];omega
  rw[U]at M;have J:=A.o.len;have x:=BC (a:Int) c 0 r q (by have:=z.o;omega) j b base ab Z _ _ w4 (by rw[V];have:=aA.o;omega) K (by rw[z.o.1,<-J];exact ML p d f s.1) (by rw[z.o.2,<-J];exact KF p d f s.1 s.2) M (by omega);rw[V,show((p++DV d++DV f).set r true).set q true++[false]=p++DV (d+f) by rw[z.o.1,z.o.2,<-J];exact MK p d f s.1 s.2]at x;refine x.mono ?_;rintro e bc ⟨rfl,C⟩;have E:=af C;clear C x M V U J;go_wp2;go_ret;refine⟨by rw[xh];rfl,?_⟩;rw[dW,dW]at E;rw[dW];have aU:∀k,jW b ab Z k->jW b i g k\/w.heap.size<=k:=fun k h=>by
   rcases ai.o k h with h9|h9
   .rcases P.o k h9 with h8|h8
    .exact .inl h8
    .exact .inr (by omega)
   .exact .inr (by omega)
  refine qo.trans aU ?_ E.o;have aK:au (fun k=>jW b i g k\/w.heap.size<=k) w w4:=
   (((aF.o.mono (fun k h=>.inl h)).trans (aD.o.mono (fun k h=>.inl h))).trans (N.o.mono (fun k h=>.inr (by omega)))).trans ((aE.o.mono (fun k h=>by
    rcases P.o k h with h8|h8
    .exact .inl h8
    .exact .inr (by omega))).trans (O.o.mono (fun k h=>.inr (by omega))))
  exact aK.strip
end
section
open Go.RowKit
theorem vC (w:World):(callFunc 335 #[]).run prog w=.ok (.value (.tuple #[])) w:=run_call_mark0 func335 (by kernel_rfl) (by kernel_rfl) (by kernel_rfl) .disable (by kernel_rfl) w
theorem yx (w:World):(callFunc 337 #[]).run prog w=.ok (.value (.tuple #[])) w:=run_call_mark0 func337 (by kernel_rfl) (by kernel_rfl) (by kernel_rfl) .enable (by kernel_rfl) w
theorem DW (a:Addr) (w:World):(callFunc 338 #[.pointer (some a)]).run prog w=.ok (.value (.tuple #[])) w:=run_call_marked func338 (by kernel_rfl) (by kernel_rfl) (by kernel_rfl) .acquire (by kernel_rfl) a w
theorem Hw (a:Addr) (w:World):(callFunc 340 #[.pointer (some a)]).run prog w=.ok (.value (.tuple #[])) w:=run_call_marked func340 (by kernel_rfl) (by kernel_rfl) (by kernel_rfl) .releaseMerge (by kernel_rfl) a w
theorem Hy (a:Addr) (x:Value) (u:FrameMode) (w:World) (f:w.cell? a=some x) (h:w.frozen? a=false):
  CallsD prog 284 #[.pointer (some a),.bool true] u w fun e d w'=>d=u/\(e=.returned (.tuple #[])/\w'=w.drew.setCell a (.int .u32 1)):=by
 have b:w.drew.cell? a=some x:=by go_simp
 have c:w.drew.frozen? a=false:=by go_simp
 have g:=run_call_store (P:=prog) func316 (by kernel_rfl) (by kernel_rfl) (by kernel_rfl) (by kernel_rfl) (k:=.u32) (y:=1) b c
 go_enter_d func284,ntmps284
 go_wp2
 go_region_calls
 all_goals(go_end0;exact⟨rfl,rfl⟩)
theorem Fb (a:Addr) (u:FrameMode) (w:World) (b:w.cell? a=some (.int .i32 1)) (c:w.frozen? a=false):
  CallsD prog 283 #[.pointer (some a)] u w fun e d w'=>d=u/\(e=.returned (.tuple #[])/\w'=w.setCell a (.int .i32 0)):=by
 have f:=run_call_add (P:=prog) func341 (by kernel_rfl) (by kernel_rfl) (by kernel_rfl) .i32 (by kernel_rfl) (y:=-1) (s:=0) b c (by simp[go_sem];rfl);have hd:=vC;have h:=yx;have i:=Hw;have g:=run_convert_to_unsafe (P:=prog) (src:=405) (dst:=409) underlying405 underlying409 (by kernel_rfl) b
 go_enter_d func283,ntmps283
 go_wp2
 go_end0
 go_wp2
 go_end0
 exact⟨rfl,rfl⟩
theorem KH (a:Addr) (w:World) (b:w.cell? a=some (.int .i32 0)) (d:w.frozen? a=false):
  aH 282 #[.pointer (some a)] w fun e w'=>e=.returned (.tuple #[])/\w'=w.setCell a (.int .i32 1):=by
 have g:=run_call_cas_hit (P:=prog) func336 (by kernel_rfl) (by kernel_rfl) (by kernel_rfl) .i32 (by kernel_rfl) (y:=1) b d;have c:(w.setCell a (.int .i32 1)).cell? a=some (.int .i32 1):=ze w a _ b;have hd:=vC;have i:=yx;have f:=DW;have h:=run_convert_to_unsafe (P:=prog) (src:=405) (dst:=409) underlying405 underlying409 (by kernel_rfl) c;go_enter func282,ntmps282;go_wp2
 first|go_end0|(simp only[Exit.inBlock,Exit.then];refine jT (jZ rfl _ _ _) rfl ?_)|refine jT (jZ rfl _ _ _) rfl ?_
 go_wp2
 go_end0
 exact⟨rfl,rfl⟩
def QK (R:World->Prop) (b off:Nat) (e:Ending) (w':World):Prop:=
 e=.returned (.tuple #[])/\R w'/\w'.cell? (ae b off)=some (ai 0)/\w'.cell? (ae b (off+1))=some (.int .i32 1)/\w'.frozen? (ae b off)=false/\w'.frozen? (ae b (off+1))=false
def MM (R:World->Prop) (b off:Nat) (e:Ending) (w':World):Prop:=
 e=.returned (.tuple #[])/\∃w1,R w1/\w'=(w1.drew.setCell (ae b off) (.int .u32 1)).setCell (ae b (off+1)) (.int .i32 0)
theorem Hz {R:World->Prop} {fn:Nat} (r:∀args w,(callFunc fn args).run prog w=.ok (.enter fn args) w) (b off:Nat) (cv:Value) (w:World) (h:w.cell? (ae b off)=some (ai 0)) (i:w.cell? (ae b (off+1))=some (.int .i32 0)) (f0:w.frozen? (ae b off)=false) (f1:w.frozen? (ae b (off+1))=false)
  (C:aH fn #[cv] (w.setCell (ae b (off+1)) (.int .i32 1)) (QK R b off)):
  aH 217 #[.pointer (some (ae b off)),.func (.func fn) #[] #[cv]] w (MM R b off):=by
 have s:=run_call_load (P:=prog) func281 (by kernel_rfl) (by kernel_rfl) (by kernel_rfl) .u32 (by kernel_rfl) (w:=w.setCell (ae b (off+1)) (.int .i32 1)) (a:=(ae b off)) (x:=0) ((wJ _ (ae b (off+1)) (ae b off) _ (by simp)).trans h);have c:=af C;have g:=af (KH (ae b (off+1)) w i f1)
 go_enter_defers func217,ntmps217
 go_wp2_with (first|(go_at_call 282;refine g.o.mono ?_;rintro e w' ⟨rfl,rfl⟩)|(refine c.o.mono ?_;rintro e w1 ⟨rfl,j,k,l,p,q⟩)|(go_at_call 216;go_in))
 refine leaves_cons (f:=284) (args:=#[.pointer (some (ae b off)),.bool true]) (by simp) (by simp[go_sem]) ?_;refine(Hy (ae b off) (.int .u32 0) .returning w1 k p).mono ?_;rintro e m n ⟨rfl,rfl,rfl⟩;refine leaves_cons (f:=283) (args:=#[.pointer (some (ae b (off+1)))]) (by simp[settle]) (by simp[go_sem]) ?_;refine(Fb (ae b (off+1)) _ _ ?_ (by simp[q])).mono ?_
 .refine(wJ _ (ae b off) (ae b (off+1)) _ (by simp)).trans ?_;rw[World.cell?_drew];exact l
 rintro e m n ⟨rfl,rfl,rfl⟩;have d:MM R b off (.returned (.tuple #[])) ((w1.drew.setCell (ae b off) (.int .u32 1)).setCell (ae b (off+1)) (.int .i32 0)):=⟨rfl,w1,j,rfl⟩;simp[Leaves,settle,results,Tryz.results217];exact d
theorem yz {R:World->Prop} {fn:Nat} (f:∀args w,(callFunc fn args).run prog w=.ok (.enter fn args) w) (b off:Nat) (cv:Value) (w:World) (a:w.cell? (ae b off)=some (ai 0)) (g:w.cell? (ae b (off+1))=some (.int .i32 0)) (f0:w.frozen? (ae b off)=false) (f1:w.frozen? (ae b (off+1))=false)
  (C:aH fn #[cv] (w.setCell (ae b (off+1)) (.int .i32 1)) (QK R b off)):
  aH 146 #[.pointer (some (ae b off)),.func (.func fn) #[] #[cv]] w (MM R b off):=by
 have h:=run_call_load (P:=prog) func281 (by kernel_rfl) (by kernel_rfl) (by kernel_rfl) .u32 (by kernel_rfl) a;have d:=af (Hz f b off cv w a g f0 f1 C);go_enter func146,ntmps146
 go_wp2_with (first|(go_at_call 217;refine d.o.mono ?_;rintro e w' ⟨rfl,HO⟩;have c:=af HO;clear HO)|(go_at_call 216;go_in))
 go_end0
 exact⟨rfl,c.o⟩
theorem Cr (a:Addr) (b:Value) (w:World) (c:w.cell? a=some (ai 1)):
  aH 146 #[.pointer (some a),b] w fun e w'=>e=.returned (.tuple #[])/\w'=w:=by
 have d:=run_call_load (P:=prog) func281 (by kernel_rfl) (by kernel_rfl) (by kernel_rfl) .u32 (by kernel_rfl) c;go_enter func146,ntmps146;go_wp2
 go_end0
 exact⟨rfl,rfl⟩
end
section
open Go.RowKit Go.Sort Go.Shelf Go.Lib Go.Maps
attribute [local irreducible] wpQuiet
attribute [local go_sem] Oper.fo
theorem MN {g n c a:Nat} (e:(aj g n c).ownBlock=some a):g=a:=by injection e
def aU (n:Nat):List Nd:=if n=0 then[]else(dK 0 n).nodes 0
theorem dh (n:Nat):(aU n).length=2*n-1:=by
 unfold aU;split
 .subst n;rfl
 .rw[FT.ib,eZ 0 n (by omega)]
abbrev kK (d m:Int) (nv:Value) (n:Nat):Obj:=.cells #[ai d,.int .i32 m,ai 0,nv,aa n,.bool true] 236 (0,0)
theorem xE (n:Nat) (a:n<=100000) (w:World):
  aH 90 #[aa n] w fun e w'=>e=.returned (.tuple #[ah w.heap.size,aa 0])/\w'=w.alloc (kK 0 0 (aG) n):=by
 refine calls_of_wp func90 rfl ?_;simp only[ntmps90,qh,dY,fB,Nat.reduceAdd,Nat.reduceSub,qa,qb,qi,qd,fK,lX];go_wp2;go_ret2;exact⟨rfl,rfl⟩
theorem sQ:∀args w,(callFunc 233 args).run prog w=.ok (.enter 233 args) w:=cK func233 (by kernel_rfl) rfl
def SS (w:World) (fb n:Nat) (e:Ending) (w':World):Prop:=
 e=.returned (.tuple #[])/\∃nv,w'.ownsRow w.heap.size 163 7 nv (aU n).length ((aU n).flatMap nU)/\w'.heap[fb]? =some (kK 0 1 nv n)/\au (fun k=>k=fb) w w'
theorem HV (fb cb n:Nat) (az:n<=40000) (w:World) (E:w.cell? (ae cb 0)=some (ah fb)) (A:w.heap[fb]? =some (kK 0 1 (aG) n)) (aE:cb≠fb):
  aH 230 #[ah cb] w (SS w fb n):=by
 have z:cb<w.heap.size:=gW w _ E;have F:fb<w.heap.size:=(aZ.1 A).1;have f4:w.cell? (ae fb 4)=some (aa n):=by simp[World.cell?,A]
 obtain⟨M,ad⟩:∃M,M=2*n:=⟨_,rfl⟩;have ax:(2:Int)*(n:Int)=(M:Int):=by omega
 have C:=MJ M (by omega) w;have V:=af A;have q:Hid (gF (w.alloc (.cells #[aa M,aG,aG,.bool true] 372)) w.heap.size w.heap.size M (aG) (aG) [] []):=
  ⟨di _ _,dz _ _ _ _,dz _ _ _ _,rfl⟩
 have i:Below w.heap.size w (w.alloc (.cells #[aa M,aG,aG,.bool true] 372)):=(aB _ _).alloc (ay _) _;have s:∀(w1:World) g t ai,gF w1 w.heap.size w.heap.size M g t (aU n) ai->Below w.heap.size w w1->aH 233 #[ah w.heap.size] w1 fun e w'=>∃v,e=.returned v/\w'.ownsRow w1.heap.size 163 7 v (aU n).length ((aU n).flatMap nU)/\Below w1.heap.size w1 w':=fun w1 g t ai h ag=>by
  obtain⟨T,nc,rfl,-,-,aq⟩:=cz.aC iZ (by decide) h.iP;exact Hu M w.heap.size T nc t (aU n) w1 h.blk aq (by rw[dh];omega)
 by_cases D:n=0
 .have am:Hid (aU n=[]):=by show aU n=[];rw[D];rfl
  have s:=af s;have y:=(i.cell (p:=(ae cb 0)) z).trans E;have Z:=(i.cell (p:=(ae fb 4)) F).trans f4;have H:=af i;have d1:decide ((n:Int)>0)=false:=by simp;omega
  have d2:decide ((0:Int)<(n:Int))=false:=by simp;omega
  have d3:decide (0<n)=false:=by simp;omega
  clear A ad i D;go_enter func230,ntmps230
  go_wp2_with fail
  with_reducible refine C.mono ?_
  rintro e w1 ⟨rfl,rfl⟩;clear C
  go_wp2_with fail
  have L:Hid (gF (w.alloc (.cells #[aa M,aG,aG,.bool true] 372)).drew w.heap.size w.heap.size M (aG) (aG) (aU n) []):=by rw[am.o];exact⟨q.o.blk,q.o.iP,q.o.row,rfl⟩
  have d:Hid (Below w.heap.size w (w.alloc (.cells #[aa M,aG,aG,.bool true] 372))):=H;have G:Hid (∀w1,gF w1 w.heap.size w.heap.size M (aG) (aG) (aU n) []->Below w.heap.size w w1->aH 233 #[ah w.heap.size] w1 fun e w'=>∃v,e=.returned v/\w'.ownsRow w1.heap.size 163 7 v (aU n).length ((aU n).flatMap nU)/\Below w1.heap.size w1 w'):=fun w1 O P=>s.o w1 _ _ _ O P;clear q s;generalize(w.alloc (.cells #[aa M,aG,aG,.bool true] 372))=c at*;have u:Hid ((fun W:World=>W.cell? (ae cb 0)=some (ah fb)) c.drew):=y;have al:∀p:jD (fun W:World=>W.cell? (ae cb 0)=some (ah fb)),p.W.cell? (ae cb 0)=some (ah fb):=fun p=>p.h;refine ak (fun W=>∃p:jD (fun W:World=>W.cell? (ae cb 0)=some (ah fb)),W=p.W) [3,4,5,6] [(0,true),(1,false)] ⟨⟨_,u.o⟩,rfl⟩ 5 ?_;simp only[bn,aX,aY,aW,aN,aM,aO]
  repeat(refine aD (fun K b=>?_);go_simp;first|(refine b _ ?_;clear b K)|(apply Exists.intro;refine⟨fun _=>?_,b _ ?_⟩;rfl;clear b K))
  refine aJ ?_;refine aA 2 rfl fun K b=>?_;refine bg sQ rfl _ _ rfl (vals:=#[ah w.heap.size]) rfl (G.o c.drew L.o (d.o.trans (Below.bC _ 1))) ?_;rintro e w2 ⟨g,rfl,m,l⟩;refine⟨g,rfl,?_⟩;obtain⟨T,nc,rfl⟩:=fD m;have R:w2.cell? (ae cb 0)=some (ah fb):=(l.cell (p:=(ae cb 0)) (by have:=d.o.size;exact bB z this)).trans u.o;refine b _ _ (fun _ _=>⟨⟨_,R⟩,rfl⟩) ?_;clear b K;refine aF [3,4,5,6] _ _ _ (by kernel_rfl) ?_;simp only[pick,aX,aY,aW,aN,aM];have j:Below w.heap.size w w2:=(d.o.trans (Below.bC _ 1)).trans (l.mono d.o.size);have f:w2.heap[fb]? =some (kK 0 1 (aG) n):=(j.block fb F).trans V.o;have av:w2.cell? (ae fb 3)=some (aG):=by simp[World.cell?,f]
  have aw:w2.frozen? (ae fb 3)=false:=by simp[World.frozen?,f]
  have J:=af f;have x:=af m;have B:w.heap.size<=c.heap.size:=d.o.size;have I:=af j;clear f m l j;go_wp2
  first|go_end0|go_ret
  refine⟨rfl,_,aS (S:=fun k=>k=fb) (bL x.o B) ((au.refl _ w2).set (a:=(ae fb 3)) _ (.inl rfl)) (fun N e aj=>by have Q:=(x.o.lt N e).1;have an:w.heap.size<=c.drew.heap.size:=B;omega),?_,?_⟩
  .exact dA w2 fb 3 _ _ _ J.o
  .exact((au.refl (fun k=>k=fb) w).below I.o).set (a:=(ae fb 3)) _ (.inl rfl)
 .have U:=af s;have y:=(i.cell (p:=(ae cb 0)) z).trans E;have Z:=(i.cell (p:=(ae fb 4)) F).trans f4;have H:=af i;have d1:decide ((n:Int)>0)=true:=by simp;omega
  have d2:decide ((0:Int)<(n:Int))=true:=by simp;omega
  have d3:decide (0<n)=true:=by simp;omega
  have Y:aU n=[]++(dK 0 n).nodes ([]:List Nd).length:=by unfold aU;rw[aI D];rfl
  have X:Hid (∀W,gF W w.heap.size w.heap.size M (aG) (aG) [] []->w.heap.size<=W.heap.size->aH 232 #[ah w.heap.size,aa 0,aa n] W fun e w'=>(∃r,e=.returned (aa r))/\qo W w.heap.size w.heap.size M (aG) (aG) (aU n) ([]++DV n) w'):=
   fun W h ag=>(KG n 0 n M w.heap.size w.heap.size _ _ [] [] W (by omega) (by omega) (by simp;omega) (by omega) (by omega) h ag).mono fun e w' ⟨ao,ap⟩=>⟨⟨_,ao⟩,by rw[Y];exact ap⟩
  clear s A ad i D Y;go_enter func230,ntmps230
  go_wp2_with fail
  with_reducible refine C.mono ?_
  rintro e w1 ⟨rfl,rfl⟩;clear C
  go_wp2_with fail
  with_reducible refine(X.o _ q.o (by simp)).mono ?_
  rintro e c ⟨⟨r,rfl⟩,g,t,ab,ar,b⟩;have ac:au (fun _=>False) w c:=by
   have Q:au (fun k=>False\/w.heap.size<=k) w c:=((au.refl (fun k=>False\/w.heap.size<=k) w).alloc _).trans (b.mono (fun k h=>by
    rcases h with h|h|h
    .exact .inr (by omega)
    .cases h
    .cases h))
   exact Q.strip
  have d:Hid (Below w.heap.size w c):=ac.toBelow (ay _) (fun _ h=>h.elim);have G:Hid (∀w1,gF w1 w.heap.size w.heap.size M g t (aU n) ([]++DV n)->Below w.heap.size w w1->aH 233 #[ah w.heap.size] w1 fun e w'=>∃v,e=.returned v/\w'.ownsRow w1.heap.size 163 7 v (aU n).length ((aU n).flatMap nU)/\Below w1.heap.size w1 w'):=fun w1 O P=>U.o w1 _ _ _ O P;have L:Hid (gF c.drew w.heap.size w.heap.size M g t (aU n) ([]++DV n)):=ab.kept (au.refl (fun _=>False) c).drew (fun _ _ h=>h);clear y Z q U X H ab ar b ac;have y:=(d.o.cell (p:=(ae cb 0)) z).trans E
  go_wp2_with fail
  have u:Hid ((fun W:World=>W.cell? (ae cb 0)=some (ah fb)) c.drew):=y;have al:∀p:jD (fun W:World=>W.cell? (ae cb 0)=some (ah fb)),p.W.cell? (ae cb 0)=some (ah fb):=fun p=>p.h;refine ak (fun W=>∃p:jD (fun W:World=>W.cell? (ae cb 0)=some (ah fb)),W=p.W) [3,4,5,6] [(0,true),(1,false)] ⟨⟨_,u.o⟩,rfl⟩ 5 ?_;simp only[bn,aX,aY,aW,aN,aM,aO]
  repeat(refine aD (fun K b=>?_);go_simp;first|(refine b _ ?_;clear b K)|(apply Exists.intro;refine⟨fun _=>?_,b _ ?_⟩;rfl;clear b K))
  refine aJ ?_;refine aA 2 rfl fun K b=>?_;refine bg sQ rfl _ _ rfl (vals:=#[ah w.heap.size]) rfl (G.o c.drew L.o (d.o.trans (Below.bC _ 1))) ?_;rintro e w2 ⟨g,rfl,m,l⟩;refine⟨g,rfl,?_⟩;obtain⟨T,nc,rfl⟩:=fD m;have R:w2.cell? (ae cb 0)=some (ah fb):=(l.cell (p:=(ae cb 0)) (by have:=d.o.size;exact bB z this)).trans u.o;refine b _ _ (fun _ _=>⟨⟨_,R⟩,rfl⟩) ?_;clear b K;refine aF [3,4,5,6] _ _ _ (by kernel_rfl) ?_;simp only[pick,aX,aY,aW,aN,aM];have j:Below w.heap.size w w2:=(d.o.trans (Below.bC _ 1)).trans (l.mono d.o.size);have f:w2.heap[fb]? =some (kK 0 1 (aG) n):=(j.block fb F).trans V.o;have av:w2.cell? (ae fb 3)=some (aG):=by simp[World.cell?,f]
  have aw:w2.frozen? (ae fb 3)=false:=by simp[World.frozen?,f]
  have J:=af f;have x:=af m;have B:w.heap.size<=c.heap.size:=d.o.size;have I:=af j;clear f m l j;go_wp2
  first|go_end0|go_ret
  refine⟨rfl,_,aS (S:=fun k=>k=fb) (bL x.o B) ((au.refl _ w2).set (a:=(ae fb 3)) _ (.inl rfl)) (fun N e aj=>by have Q:=(x.o.lt N e).1;have an:w.heap.size<=c.drew.heap.size:=B;omega),?_,?_⟩
  .exact dA w2 fb 3 _ _ _ J.o
  .exact((au.refl (fun k=>k=fb) w).below I.o).set (a:=(ae fb 3)) _ (.inl rfl)
def SV (w:World) (fb n:Nat) (e:Ending) (w':World):Prop:=
 ∃nv,e=.returned nv/\w'.ownsRow w.heap.size 163 7 nv (aU n).length ((aU n).flatMap nU)/\w'.heap[fb]? =some (kK 1 0 nv n)/\au (fun k=>k=fb) w w'
theorem yM (fb n:Nat) (D:n<=40000) (w:World) (q:w.heap[fb]? =some (kK 0 0 (aG) n)):
  aH 164 #[ah fb] w (SV w fb n):=by
 have B:fb<w.heap.size:=(aZ.1 q).1;obtain⟨w0,h⟩:∃w0,w0=w.alloc (.cells #[ah fb] 137):=⟨_,rfl⟩;have m:Below w.heap.size w w0:=by rw[h];exact(aB _ _).alloc (ay _) _
 have y:w0.cell? (ae w.heap.size 0)=some (ah fb):=by rw[h,ed _ _ _ _ rfl];rfl
 have J:w0.heap.size=w.heap.size+1:=by rw[h];simp
 have d:w0.heap[fb]? =some (kK 0 0 (aG) n):=(m.block fb B).trans q;have j:(w0.setCell (ae fb 1) (.int .i32 1)).heap[fb]? =some (kK 0 1 (aG) n):=dA w0 fb 1 _ _ _ d;have p:(w0.setCell (ae fb 1) (.int .i32 1)).cell? (ae w.heap.size 0)=some (ah fb):=(dD (az (by show fb≠w.heap.size;omega))).trans y;have r:=HV fb w.heap.size n D _ p j (by omega);have s:=yz (fn:=230) (cK func230 (by kernel_rfl) rfl) (R:=fun w1=>∃c,w1.ownsRow w.heap.size 163 7 c (aU n).length ((aU n).flatMap nU)/\w1.heap[fb]? =some (kK 0 1 c n)/\au (fun k=>k=fb) w w1/\w1.cell? (ae w.heap.size 0)=some (ah fb)) fb 0 (ah w.heap.size) w0 (by simp[World.cell?,d]) (by simp[World.cell?,d]) (by simp[World.frozen?,d]) (by simp[World.frozen?,d])
  (r.mono fun e w1 ⟨A,c,g,f,i⟩=>⟨A,⟨c,bL g (by simp;omega),f,((au.refl _ w).below m).trans (((au.refl (fun k=>k=fb) w0).set (a:=(ae fb 1)) _ (.inl rfl)).trans i),((cu i (b:=w.heap.size) (by simp;omega) (by omega)).1 0).trans p⟩,by simp[World.cell?,f],by simp[World.cell?,f],by simp[World.frozen?,f],by simp[World.frozen?,f]⟩)
 have t:=af s;go_enter func164,ntmps164
 go_wp2_with fail
 rw[<-h];refine t.o.mono ?_;rintro e w2 ⟨rfl,w1,⟨c,g,j,i,z⟩,rfl⟩;have x:=dA w1.drew fb 0 _ _ (.int .u32 1) (show w1.drew.heap[fb]? =_ from j);have l:=dA _ fb 1 _ _ (.int .i32 0) x;have C:au (fun k=>k=fb) w ((w1.drew.setCell (ae fb 0) (.int .u32 1)).setCell (ae fb 1) (.int .i32 0)):=((i.drew).set (a:=(ae fb 0)) _ (.inl rfl)).set (a:=(ae fb 1)) _ (.inl rfl);have E:((w1.drew.setCell (ae fb 0) (.int .u32 1)).setCell (ae fb 1) (.int .i32 0)).ownsRow w.heap.size 163 7 c (aU n).length ((aU n).flatMap nU):=aS (S:=fun k=>k=fb) g ((((au.refl (fun k=>k=fb) w1).drew).set (a:=(ae fb 0)) _ (.inl rfl)).set (a:=(ae fb 1)) _ (.inl rfl)) (fun v e F=>by have G:=(g.lt v e).1;omega);have H:((w1.drew.setCell (ae fb 0) (.int .u32 1)).setCell (ae fb 1) (.int .i32 0)).cell? (ae w.heap.size 0)=some (ah fb):=by
  exact(dD (az (by show fb≠w.heap.size;omega))).trans ((dD (az (by show fb≠w.heap.size;omega))).trans z)
 have I:((w1.drew.setCell (ae fb 0) (.int .u32 1)).setCell (ae fb 1) (.int .i32 0)).cell? (ae fb 3)=some c:=by simp[World.cell?,l]
 have u:Hid (SV w fb n (.returned c) ((w1.drew.setCell (ae fb 0) (.int .u32 1)).setCell (ae fb 1) (.int .i32 0))):=⟨c,rfl,E,l,C⟩;obtain⟨K,nc,rfl⟩:=fD g;generalize((w1.drew.setCell (ae fb 0) (.int .u32 1)).setCell (ae fb 1) (.int .i32 0))=L at*;simp only[];go_wp2;go_ret;exact u.o
theorem q9 (fb n:Nat) (b:Value) (p:∃a c,b=.slice a (aU n).length c) (w:World) (g:w.heap[fb]? =some (kK 1 0 b n)):
  aH 164 #[ah fb] w (eY w b):=by
 have m:fb<w.heap.size:=(aZ.1 g).1;obtain⟨w0,d⟩:∃w0,w0=w.alloc (.cells #[ah fb] 137):=⟨_,rfl⟩;have f:Below w.heap.size w w0:=by rw[d];exact(aB _ _).alloc (ay _) _
 have r:w0.cell? (ae w.heap.size 0)=some (ah fb):=by rw[d,ed _ _ _ _ rfl];rfl
 have h:w0.heap[fb]? =some (kK 1 0 b n):=(f.block fb m).trans g;have i:=fun l=>Cr (ae fb 0) l w0 (by simp[World.cell?,h]);have k:=af i;have q:w0.cell? (ae fb 3)=some b:=by simp[World.cell?,h]
 have j:=af f;obtain⟨s,nc,rfl⟩:=p;clear i h f g;go_enter func164,ntmps164
 go_wp2_with fail
 rw[<-d];clear d;refine(k.o _).mono ?_;rintro e w2 ⟨rfl,rfl⟩;go_wp2;go_ret;exact⟨rfl,j.o⟩
theorem pF (fb:Nat) (w:World) (a:w.cell? (ae fb 5)=some (.bool true)):
  aH 163 #[ah fb] w fun e w'=>e=.returned (.bool false)/\w'=w:=by
 go_enter func163,ntmps163;go_wp2;go_ret;exact⟨rfl,rfl⟩
theorem DX (fb n:Nat) (w:World) (b:w.cell? (ae fb 5)=some (.bool true)) (c:w.cell? (ae fb 4)=some (aa n)):
  aH 166 #[ah fb] w fun e w'=>e=.returned (aa n)/\w'=w:=by
 have a:=pF fb w b;go_enter func166,ntmps166
 go_wp2_with (go_at_call 163;refine a.mono ?_;rintro e w' ⟨rfl,rfl⟩)
 go_ret;exact⟨rfl,rfl⟩
theorem jd (fb n:Nat) (d:0<n) (g:n<=100000) (w:World) (c:w.cell? (ae fb 5)=some (.bool true)) (b:w.cell? (ae fb 4)=some (aa n)):
  aH 95 #[ah fb] w fun e w'=>e=.returned (aa ((2*n-2:Nat):Int))/\w'=w:=by
 have a:=DX fb n w c b;have d0:((n:Int)==0)=false:=by simp;omega
 have f:(2:Int)*(n:Int)-2=((2*n-2:Nat):Int):=by omega
 generalize((2*n-2:Nat):Int)=r at*;go_enter func95,ntmps95
 go_wp2_with (go_at_call 166;refine a.mono ?_;rintro e w' ⟨rfl,rfl⟩)
 go_ret;exact⟨rfl,rfl⟩
theorem gy (fb n:Nat) (F:n<=40000) (w:World) (d:w.heap[fb]? =some (kK 0 0 (aG) n)):
  aH 92 #[ah fb] w fun e w'=>∃j v,e=.returned v/\w'.ownsRow w.heap.size 163 7 j (aU n).length ((aU n).flatMap nU)/\w'.ownsRow w.heap.size 163 7 v (aU n).length ((aU n).flatMap nU)/\w'.heap[fb]? =some (kK 1 0 j n)/\au (fun k=>k=fb) w w':=by
 have y:w.cell? (ae fb 5)=some (.bool true):=by simp[World.cell?,d]
 have q:=pF fb w y;have B:fb<w.heap.size:=(aZ.1 d).1;have z:(w.alloc (.cells #[] 163)).heap[fb]? =some (kK 0 0 (aG) n):=(bY _ _ _ B).trans d;have p:=af (yM fb n F _ z);have I:=zt (e:=163) (size:=7) w #[] 0 (ay _) (bf _) rfl;have HO:=af I;go_enter func92,ntmps92
 go_wp2_with (go_at_call 163;refine q.mono ?_;rintro e w' ⟨rfl,rfl⟩)
 go_wp2_with fail
 refine p.o.mono ?_;rintro e w2 ⟨j,rfl,i,A,g⟩;have K:=aS (S:=fun k=>k=fb) HO.o g (fun a e N=>by have O:=MN e;omega);have H:=i.lt;obtain⟨m,nc,rfl,-,-,J⟩:=cz.aC iZ (by decide) i;have P:(aU n).length<=100000:=by rw[dh];omega
 generalize c:aU n=D at*;have r:=af c;have t:=af i;have s:=af A;have E:au (fun k=>k=fb) w' w2:=((au.refl _ w').alloc _).trans g;have u:=af E;have L:=g.size;simp at L;have x:Hid (∀b,(Value.slice m D.length nc).ownBlock=some b->(w'.alloc (.cells #[] 163)).heap.size<=b/\b<w2.heap.size):=fun b e=>H b e
 go_wp2_with (at_builtin;refine iH Q7 iZ Jo w'.heap.size K J rfl _ _ rfl rfl nc rfl (by unfold maxLen;omega) (by omega) (by omega) ?_;intro M w3 l C)
 go_ret;rw[jU,fK]at l;have f:au (fun k=>k=w'.heap.size) w2 w3:=(au.refl _ w2).grown C (fun k e=>.inl (by injection e with e;exact e.symm));have G:∀a,(Value.slice m D.length nc).ownBlock=some a->a≠w'.heap.size:=fun a e=>by have:=(x.o a e).1;simp at this;omega
 have c:=r.o;subst c;refine⟨_,M,rfl,bL (aS (S:=fun k=>k=w'.heap.size) t.o f G) (by simp),l,(f.block fb (by omega) (by omega)).trans s.o,?_⟩
 .exact(((u.o.mono (fun k h=>.inl h)).trans (f.mono (fun k h=>.inr (by omega))))).strip
end
section
open Go.RowKit Go.Sort Go.Shelf Go.Lib Go.Maps
theorem Fe {w:World} {g off:Nat} {N:List Nd} {i:Nat} {d:Nd} (h:cz nU 7 w (some (ae g off)) N) (hi:N[i]? =some d):
  g<w.heap.size/\w.cell? (ae g (off+i*7))=some (.int .u8 d.kind)/\w.cell? (ae g (off+i*7+1))=some (aa d.l)/\w.cell? (ae g (off+i*7+2))=some (aa d.r)/\w.cell? (ae g (off+i*7+3))=some (aa d.fr)/\w.cell? (ae g (off+i*7+4))=some (aa d.Jk)/\w.cell? (ae g (off+i*7+6))=some (aa d.item):=by
 have⟨a,hd⟩:=fC.1 hi;rcases h with h|⟨b,o,e,f,j⟩
 .subst h;simp at a
 .cases e;have c:=j i a;rw[hd]at c;exact⟨f,c 0 (by omega),c 1 (by omega),c 2 (by omega),c 3 (by omega),c 4 (by omega),c 6 (by omega)⟩
structure mQ (w:World) (base fb n:Nat) (nv:Value):Prop where
 blk:w.heap[fb]? =some (kK 1 0 nv n)
 row:w.ownsRow base 163 7 nv (aU n).length ((aU n).flatMap nU)
theorem jF (n:Nat) (h:0<n):FT.At (aU n) (dK 0 n) 0:=⟨[],[],by unfold aU;rw[aI (by omega)];simp,rfl⟩
theorem Ad (w:World) (base:Nat) (xs:List Value) (e:TypeId) (a:base<=w.heap.size) (b:xs.length<=maxLen):(w.alloc (.cells xs.toArray e)).ownsRow base e 1 (aj w.heap.size xs.length xs.length) xs.length xs:=
 ⟨by simp,.inr ⟨w.heap.size,xs.length,xs.toArray,rfl,a,tC w _,ay _,b,by simp,by simp⟩⟩
def SX (w:World) (n x:Nat) (e:Ending) (w':World):Prop:=
 ∃v,e=.returned (.tuple #[v,aa 0])/\w'.ownsRow w.heap.size 3 1 v ((dK 0 n).path 0 x).length (((dK 0 n).path 0 x).map fun i=>aa (i:Nat))/\Below w.heap.size w w'
theorem uD (base fb n x:Nat) (aS:Value) (a6:n<=40000) (a8:x<n) (w:World) (h:mQ w base fb n aS):
  aH 192 #[ah fb,aa x] w (SX w n x):=by
 have aj:fb<w.heap.size:=(aZ.1 h.blk).1;have d:=h.blk;have ad:w.cell? (ae fb 5)=some (.bool true):=by simp[World.cell?,d]
 have L:w.cell? (ae fb 4)=some (aa n):=by simp[World.cell?,d]
 have ar:=pF fb w ad;have Q:=dh n;obtain⟨aR,nc,rfl,-,-,T⟩:=cz.aC iZ (by decide) h.row;have aO:∃g off,aR=some (ae g off):=by
  rcases T with aJ|⟨g,off,e,_⟩
  .rw[aJ]at Q;simp at Q;omega
  .exact⟨g,off,e⟩
 obtain⟨g,off,rfl⟩:=aO;have aq:=q9 fb n _ ⟨_,_,rfl⟩ w d;have au:=af (fun W (d:Below w.heap.size w W)=>jd fb n (by omega) (by omega) W ((d.cell (p:=(ae fb 5)) aj).trans ad) ((d.cell (p:=(ae fb 4)) aj).trans L));have ai:=bO 0 n (by omega);have hS:=eZ 0 n (by omega);have av:=af (jF n (by omega));have X:=af T;have j:Hid ((dK 0 n).wf/\(dK 0 n).lo<=x/\x<(dK 0 n).hi/\(dK 0 n).root 0=2*n-2):=⟨ai.1,by omega,by omega,by unfold FT.root;omega⟩;have d1:decide ((x:Int)<0)=false:=by simp
 have d2:decide ((x:Int)>=(n:Int))=false:=by simp;omega
 have d3:decide ((n:Int)<=(x:Int))=false:=by simp;omega
 have d4:decide (n<=x)=false:=by simp;omega
 have aL:(aU n).length<=100000:=by omega
 generalize ag:aU n=D at*;have aY:=af ag;clear ag d h T ai hS Q;go_enter func192,ntmps192
 go_wp2_with fail
 with_reducible refine ar.mono ?_
 rintro e w' ⟨rfl,ac⟩;subst w'
 go_wp2_with fail
 with_reducible refine aq.mono ?_
 rintro e w1 ⟨rfl,E⟩
 go_wp2_with fail
 refine(au.o w1 E).mono ?_;rintro e w2 ⟨rfl,ac⟩;subst ac
 go_wp2_with fail
 have ak:=Ad w2 w.heap.size [.int .i64 ((2*n-2:Nat):Int)] 3 E.size (by unfold maxLen;simp);simp only[dY,fB,jU]at ak
 go_loopg [7,8] ((dK 0 n).ht) (fun aQ aV aW wr=>∃(t:FT) (s:Nat) (a:List Nat),aV=.int .i64 (t.root s:Nat)/\t.ht<=aQ/\Below w.heap.size w wr/\Hid (FT.At D t s)/\Hid ((dK 0 n).path 0 x=a++t.path s x)/\Hid (t.wf/\t.lo<=x/\x<t.hi)/\
  Hid (wr.ownsRow w.heap.size 3 1 aW (a.length+1) ((a++[t.root s]).map fun i=>aa (i:Nat))))
 case atStart=>exact⟨dK 0 n,0,[],by rw[j.o.2.2.2],ay _,(E.trans ((aB _ w2).alloc E.size _)),av,rfl,⟨j.o.1,j.o.2.1,j.o.2.2.1⟩,by rw[j.o.2.2.2];exact ak⟩
 case round=>
  obtain⟨t,s,a,rfl,a4,b,c,G,az,HO⟩:=hrel;obtain⟨F,Z,z,A,I,J,K⟩:=Fe (X.o.below b) c.o.get;have a5:=c.o.lt;have a7:a.length+1<=n+1:=by
   have C:=FT.nP (dK 0 n) 0 x;have a0:=uz 0 n n (um (Dh));have a1:0<(t.path s x).length:=by obtain⟨P,hP⟩:=FT.rO t s x;rw[hP];simp
   have L:=G.o;rw[L,bq]at C;omega
  have a2:D.length<=100000:=aL;cases t with
  |leaf q=>
   simp only[FT.top]at Z z A I J K;have V:Hid (a.length+1=((dK 0 n).path 0 x).length/\a++[(FT.leaf q).root s]=(dK 0 n).path 0 x):=by
    show _/\_;rw[G.o];simp[FT.path,FT.root,FT.size]
   generalize(FT.leaf q).root s=k at*;go_wp2;go_ret2;have C:=HO.o;rw[V.o.1,V.o.2]at C;exact⟨_,rfl,C,b⟩
  |node l r=>
   simp only[FT.top]at Z z A I J K;have B:((s+l.size:Nat):Int)-1=((l.root s:Nat):Int):=by unfold FT.root;have:=l.size_pos;omega
   have ab:((s+l.size+r.size:Nat):Int)-1=((r.root (s+l.size):Nat):Int):=by unfold FT.root;have:=r.size_pos;omega
   rw[B]at z;rw[ab]at A;clear B ab I J K;obtain⟨-,aA,aD,aE,aF,H,aG⟩:=Fe (X.o.below b) c.o.left.get;rw[FT.uA]at H;clear aA aD aE aF aG;have aN:=c.o.left.lt;have aP:=c.o.right.lt;have a3:(FT.node l r).ht=max l.ht r.ht+1:=rfl;have U:Hid ((dK 0 n).path 0 x=(a++[(FT.node l r).root s])++(if x<l.hi then l.path s x else r.path (s+l.size) x)):=by
    show _=_;rw[G.o,dW];rfl
   have aw:=af c.o.left;have ax:=af c.o.right;have Y:=af az.o;have y:=HO.o;generalize aM:(FT.node l r).root s=k at*;have al:(a++[k]).length=a.length+1:=by simp
   obtain⟨kl,M⟩:∃kl,kl=l.root s:=⟨_,rfl⟩;obtain⟨kr,N⟩:∃kr,kr=r.root (s+l.size):=⟨_,rfl⟩;rw[<-M]at z H aN;rw[<-N]at A aP;have u:Hid (kl=l.root s/\kr=r.root (s+l.size)):=⟨M,N⟩;obtain⟨m,R⟩:∃m,m=l.hi:=⟨_,rfl⟩;rw[<-R]at H;have v:Hid (m=l.hi):=R;clear M N R aM;by_cases f:x<m
   .have d5:decide ((x:Int)<(m:Int))=true:=by simpa using f
    have d6:decide (x<m)=true:=by simpa using f
    go_wp2_with (at_builtin;refine uy mI w.heap.size y [.int .i64 kl] rfl (by simp[Value.oneCell']) rfl _ _ rfl rfl _ rfl (by unfold maxLen;omega) (by omega) b.size ?_;intro aX w3 S F)
    go_roundg l.ht
    case measure=>omega
    case rel=>
     have O:=Y.o;refine⟨l,s,a++[k],by rw[<-u.o.1],ay _,dB b y F b.size (ay _),aw,?_,?_,?_⟩
     .show _=_;rw[U.o,<-v.o,aK f]
     .have B:=v.o;obtain⟨⟨am,an,aT⟩,ao,ap⟩:=O;exact⟨am,ao,by omega⟩
     .rw[al,bS,<-u.o.1];exact S
   .have d5:decide ((x:Int)<(m:Int))=false:=by simpa using f
    have d6:decide (x<m)=false:=by simpa using f
    go_wp2_with (at_builtin;refine uy mI w.heap.size y [.int .i64 kr] rfl (by simp[Value.oneCell']) rfl _ _ rfl rfl _ rfl (by unfold maxLen;omega) (by omega) b.size ?_;intro aX w3 S F)
    go_roundg r.ht
    case measure=>omega
    case rel=>
     have O:=Y.o;refine⟨r,s+l.size,a++[k],by rw[<-u.o.2],ay _,dB b y F b.size (ay _),ax,?_,?_,?_⟩
     .show _=_;rw[U.o,<-v.o,aI f]
     .have B:=v.o;obtain⟨⟨am,an,aT⟩,ao,ap⟩:=O;exact⟨an,by omega,ap⟩
     .rw[al,bS,<-u.o.2];exact S
end
section
open Go.RowKit Go.Sort Go.Shelf Go.Lib Go.Maps
attribute [local irreducible] wpQuiet
attribute [local go_sem] Oper.fo
section
variable {P:Program} {ops:Array Oper} {o:Oper} {a:Act} {K:Act->World->Prop} {Q:Exit->Act->World->Prop} {E0:Prop}
theorem Ff {α:Type} {enc:α->List Value} {sz:Nat} {t e:TypeId} {bytes:Nat} (f:eH P t e sz bytes) {W:World} {ad:Option Addr} {l:List α} {c:Nat} (s:cz enc sz W ad l) (k:l.length<=c) (lo hi:Nat) (g:lo<=hi) (j:hi<=l.length)
  (m:o.guard=none) (x:Operand) (lw d:Operand) (v:o.op=.slice t x (some lw) (some d) none) (B:a.eval x=.slice ad l.length c)
  (u:a.eval lw=.int .i64 lo) (p:a.eval d=.int .i64 hi)
  (h:∀b,cz enc sz W b ((l.take hi).drop lo)->K (a.put o.dst (.slice b (hi-lo) (c-lo))) W):
  if Region.wanted o (yielded ops a.tmps)=true then Oper.wp P o a W K Q else E0:=by
 have A:Region.wanted o (yielded ops a.tmps)=true:=by simp[Region.wanted,m]
 rw[aK A];obtain⟨ht,⟨i,z,q,E,y,C,F⟩,D⟩:=f;have r:=h _ (DT s k lo hi j);have hu:∀W',(underlying t).run P W'=.ok (.slice e) W':=fun W'=>oJ ht W';have w:∀W',(sizeOf e).run P W'=.ok sz W':=fun W'=>by simp[sizeOf,typeInfo,q,y]
 have n:hi<=c:=by omega
 unfold Oper.wp execOp;simp[v,B,u,p,Instr.sliceAt,Instr.slice,Instr.sliceBounds,Instr.sliceBound,hu,w,asIntOf,g,n];exact r
end
theorem Rd.Ue {α:Type} {enc:α->Value} {w:World} {a:Option Addr} {l:List α} (h:Rd enc w a l):cz (fun x=>[enc x]) 1 w a l:=by
 rcases h with h|⟨b,off,e,c,d⟩
 .exact .inl h
 .exact .inr ⟨b,off,e,c,fun i hi j f=>by
   obtain rfl:j=0:=by omega
   rw[iF,dM];exact d i hi⟩
def Uf (B nb:Nat) (w0:World) (W:World) (acc:List Nat) (D:Nat->Prop):Prop:=
 Below B w0 W/\W.heap[nb]? =some (.cells #[aa acc.length] 3 (0,0))/\D=fun k=>k=nb
theorem Pe:∀args w,(callFunc 158 args).run prog w=.ok (.enter 158 args) w:=cK func158 (by kernel_rfl) rfl
theorem Pf:∀args w,(callFunc 105 args).run prog w=.ok (.enter 105 args) w:=cK func105 (by kernel_rfl) rfl
theorem SY (N:List Nd) (nm:Nat->Int) (YS:List Nat) (LN LL:Nat->Value) (tb B c:Nat) (w0:World) (j:List Nat) (I:j.length<=1000000) (E:B<=c) (q:B=w0.heap.size):
  Told 158 #[ah c] N YS LN LL B w0 j (Uf B c w0) where
 enters:=Pe
 base:=fun W d D h=>h.1
 lt:=fun W d D h k A=>by
  obtain⟨f,e,rfl⟩:=h;have:=(aZ.1 e).1;subst A;exact⟨E,this⟩
 jE:=fun W W' d D h r=>by
  obtain⟨f,e,rfl⟩:=h;exact⟨f.trans (r.mono (q▸f.size)),(r.block c (aZ.1 e).1).trans e,rfl⟩
 told:=fun W d D t s a b h J K M hF=>by
  obtain⟨f,e,rfl⟩:=h;have u:(d++((nl YS t).take b).drop a).length=d.length+(b-a):=by rw[bq,kS,eB];omega
  have C:=hF.length_le;rw[u]at C;have x:=af e;have l:=af f;have y:=af u;have F:W.cell? (ae c 0)=some (aa d.length):=by simp[World.cell?,e]
  have O:W.frozen? (ae c 0)=false:=by simp[World.frozen?,e]
  have w:c<W.heap.size:=(aZ.1 e).1;have H:(d.length:Int)+((b:Int)-(a:Int))=((d.length+(b-a):Nat):Int):=by omega
  generalize LN (t.root s)=i at*;generalize LL (t.root s)=g at*;show aH 158 #[.agg #[i,g],aa a,aa b,ah c] W _;generalize L:d.length=n at*;have G:=((aB W.heap.size W).alloc (ay _) (.cells #[i,g] 150)).cell (p:=(ae c 0)) w;have m:Hid (∀v,au (fun k=>k=c) W ((W.setCell (ae c 0) v).alloc (.cells #[i,g] 150))):=fun v=>((au.refl (fun k=>k=c) W).set (a:=(ae c 0)) _ (.inl rfl)).alloc _;have z:Hid (∀v,((W.setCell (ae c 0) v).alloc (.cells #[i,g] 150)).heap[c]? =some (.cells #[v] 3 (0,0))):=fun v=>(bY _ _ _ (by simpa using w)).trans (dA _ c 0 _ _ v x.o);go_enter func158,ntmps158;go_wp2
  first|go_end0|go_ret
  refine⟨rfl,_,⟨?_,?_,rfl⟩,fun k h=>.inl h,m.o _⟩
  .exact l.o.trans ((m.o _).toBelow (bJ (xm q) l.o.size) (fun k h=>by omega))
  .rw[z.o,y.o];rfl
def Rl (B ob:Nat) (nm:Nat->Int) (w0:World) (W:World) (acc:List Nat) (D:Nat->Prop):Prop:=
 Below B w0 W/\∃v,W.heap[ob]? =some (.cells #[v] 35 (0,0))/\W.ownsRow B 27 1 v acc.length ((acc.map nm).map (Value.int .u32))/\D=fun k=>k=ob\/v.ownBlock=some k
theorem MO (N:List Nd) (nm:Nat->Int) (YS:List Nat) (LN LL:Nat->Value) (tb B ob:Nat) (w0:World) (M:List Nat) (ba:M.length<=1000000) (X:B<=ob) (F:B=w0.heap.size) (aC:Hq w0 tb N nm YS LN LL) (bb:YS.length<=1000000):
  Told 105 #[ah ob] N YS LN LL B w0 M (Rl B ob nm w0) where
 enters:=Pf
 base:=fun W d D h=>h.1
 lt:=fun W d D h k hk=>by
  obtain⟨n,v,f,g,rfl⟩:=h;rcases hk with rfl|hk
  .exact⟨X,(aZ.1 f).1⟩
  .exact g.lt k hk
 jE:=fun W W' d D h G=>by
  obtain⟨n,v,f,g,rfl⟩:=h;exact⟨n.trans (G.mono (F▸n.size)),v,(G.block ob (aZ.1 f).1).trans f,ax g G,rfl⟩
 told:=fun W d D t s a b h aE aG bc hF=>by
  obtain⟨n,v,f,g,rfl⟩:=h;have U:(d++((nl YS t).take b).drop a).length=d.length+(b-a):=by rw[bq,kS,eB];omega
  have aP:=hF.length_le;rw[U]at aP;have⟨r,cn,aw,bd,a4⟩:=aC.EU t s aE;have a5:=a4.below n (xm F.symm);rw[aw];generalize be:nl YS t=L at*;generalize LL (t.root s)=J at*;obtain⟨i,j,rfl⟩:=fD g;have Y:ob<W.heap.size:=(aZ.1 f).1;obtain⟨w1,w⟩:∃w1,w1=W.alloc (.cells #[.slice r L.length cn,J] 150):=⟨_,rfl⟩;have y:Below W.heap.size W w1:=by rw[w];exact(aB _ _).alloc (ay _) _
  have a3:w1.heap[W.heap.size]? =some (.cells #[.slice r L.length cn,J] 150 (0,0)):=by rw[w];exact di W _
  have V:=(y.block ob Y).trans f;have ap:w1.cell? (ae ob 0)=some (.slice i d.length j):=by simp[World.cell?,V]
  have aq:w1.cell? (ae W.heap.size 0)=some (.slice r L.length cn):=by simp[World.cell?,a3]
  have a8:=ag ap;have a9:=ag aq;have al:Hid (w1.drew.ownsRow B 27 1 (.slice i d.length j) d.length ((d.map nm).map (Value.int .u32))):=ax g y.drew;have am:Hid (Rd (.int .u32) w1.drew r (L.map nm)):=a5.below y.drew;have ad:=af V;have Z:=af y;have O:=af n;have ac:=af U;have a1:W.heap.size<w1.heap.size:=by rw[w];simp
  have aV:=g.lt;have ao:=af aV;have a0:∀m,(Value.slice i d.length j).ownBlock=some m->ob≠m:=bz g f (by decide);have Q:=af a0;have aQ:(L.map nm).length=L.length:=by simp
  show aH 105 #[.agg #[.slice r L.length cn,J],aa a,aa b,ah ob] W _;go_enter func105,ntmps105
  go_wp2_with fail
  rw[<-w];refine ak (fun W=>∃p:aT w1,W=p.W) [6,7] [(0,true),(1,false),(2,true),(3,false),(4,false)] ⟨⟨_,(aB _ _).drew⟩,rfl⟩ 3 ?_;simp only[bn,aX,aY,aW,aN,aM,aO]
  repeat(refine aD (fun K q=>?_);go_simp;first|(refine q _ ?_;clear q K)|(apply Exists.intro;refine⟨fun _=>?_,q _ ?_⟩;rfl;clear q K))
  refine aJ ?_;refine aA 5 rfl fun K q=>?_;refine Ff (c:=cn) sM am.o.Ue (by simp;omega) a b aG (by simp;omega) rfl (.tmp 9) (.tmp 10) (.tmp 11) rfl (by rw[aQ];rfl) rfl rfl ?_;intro a6 aU;refine q _ _ (fun h _=>h) ?_;refine aF [6,7] _ _ _ (by kernel_rfl) ?_;simp only[pick,aX,aY,aW,aN,aM];have z:(((L.map nm).take b).drop a).length=b-a:=by simp;omega
  refine mJ sM (fun _=>rfl) (fun x u hu=>by simp at hu;subst hu;rfl) B al.o aU rfl (.tmp 7) (.tmp 12) rfl rfl (cn-a) (by rw[z];rfl) (by rw[z];unfold maxLen;omega) (by rw[z];omega) (by show B<=w1.heap.size;omega) ?_;intro bf w2 I aK aI;rw[z]at I;have T:au (fun k=>(Value.slice i d.length j).ownBlock=some k) w1.drew w2:=(au.refl _ _).grown aK (fun k hk=>.inl hk);have a2:ob<w1.heap.size:=uo Y a1;have aL:¬(Value.slice i d.length j).ownBlock=some ob:=fun h=>Q.o ob h rfl;have H:w2.heap[ob]? =some (.cells #[.slice i d.length j] 35 (0,0)):=(T.block ob a2 aL).trans ad.o;have a7:w2.cell? (ae ob 0)=some (.slice i d.length j):=by simp[World.cell?,H]
  have bg:w2.frozen? (ae ob 0)=false:=by simp[World.frozen?,H]
  have aj:=af H;have an:=af I;have ab:Hid (au (fun k=>k=ob\/(Value.slice i d.length j).ownBlock=some k) W w2):=(((au.refl _ W).below Z.o).drew).trans (T.mono fun k h=>.inr h);have P:=af aI;obtain⟨A,C,rfl⟩:=fD I;go_wp2
  first|go_end0|go_ret
  have R:=(ab.o.set (a:=(ae ob 0)) (.slice A (d.length+(b-a)) C) (.inl (.inl rfl)));have aR:∀m,(Value.slice A (d.length+(b-a)) C).ownBlock=some m->m≠ob:=fun m e=>by
   rcases P.o with h9|h9
   .exact fun E=>Q.o m (h9▸e) E.symm
   .rw[h9]at e;injection e with e;intro E;have:w1.drew.heap.size=ob:=by rw[e,E]
    have az:w1.heap.size=ob:=this;omega
  refine⟨rfl,_,⟨O.o.trans (R.toBelow (bJ (xm F) O.o.size) (fun k h=>?_)),.slice A (d.length+(b-a)) C,dA _ ob 0 _ _ _ aj.o,?_,rfl⟩,fun k h=>?_,R⟩
  .rcases h with rfl|h
   .exact X
   .exact(ao.o k h).1
  .have h9:=aS (S:=fun k=>k=ob) an.o ((au.refl (fun k=>k=ob) w2).set (a:=(ae ob 0)) (.slice A (d.length+(b-a)) C) (.inl rfl)) aR;have ar:(d++(L.take b).drop a).length=d.length+(b-a):=ac.o;rw[ar];have av:(((d++(L.take b).drop a).map nm).map (Value.int .u32))=((d.map nm).map (Value.int .u32))++(((L.map nm).take b).drop a).flatMap (fun x=>[ai x]):=by
    rw[bS,bS,<-List.map_take,<-wZ];congr 1
    induction(((L.take b).drop a).map nm)with
    |nil=>rfl
    |cons x l ih=>rw[lC,lq,ih];rfl
   rw[av];exact h9
  .rcases h with rfl|h
   .exact .inl (.inl rfl)
   .rcases P.o with h9|h9
    .exact .inl (.inr (h9▸h))
    .rw[h9]at h;injection h with h;right;have az:w1.heap.size=k:=h;omega
end
section
open Go.RowKit
theorem Ae (g:Nat) (cb:Array Value) (n:Nat) (p:Nat->Bool) (w:World) (G:n<4611686018427387904) (C:∀args w,(callFunc g args).run prog w=.ok (.enter g args) w)
  (q:∀(W:World) (i:Nat),Below w.heap.size w W->i<n->aH g (#[aa i]++cb) W (eY W (.bool (p i)))):
  aH 252 #[aa n,.func (.func g) #[] cb] w (eY w (.tuple #[aa (bsrch p n 0 n 0).1,aa (bsrch p n 0 n 0).2])):=by
 have l:=af q;generalize u:bsrch p n 0 n 0=r;have m:=af u;have⟨x,y⟩:=r;go_enter func252,ntmps252;go_wp2
 go_loopg [6,7,8] n (fun v z A B wr=>∃(lo hi k:Nat),z=.int .i64 lo/\A=.int .i64 hi/\B=.int .i64 k/\lo<=hi/\hi<=n/\k+(hi-lo)<=n/\hi-lo<=v/\Below w.heap.size w wr/\
  Hid (bsrch p n lo hi k=(x,y)))
 case atStart=>exact⟨0,n,0,rfl,rfl,rfl,bf _,ay _,by omega,by omega,aB _ _,m⟩
 case round=>
  obtain⟨lo,hi,k,rfl,rfl,rfl,F,s,E,D,b,j⟩:=hrel;by_cases t:lo<hi
  .have c:=l.o wr (lo+(hi-lo)/2) b (by omega);rw[show((lo+(hi-lo)/2:Nat):Int)=(lo:Int)+((hi:Int)-(lo:Int))/2 by omega]at c;have a:=j.o;have f:bsrch p n lo hi k=bsrch p (n+1) lo hi k:=Hl p _ _ _ _ _ (by omega) (by omega);rw[f,bsrch,aK t]at a;cases hp:p (lo+(hi-lo)/2)<;>rw[hp]at c a
   .have d:=af a
    go_wp2_with (go_at_fn g;refine c.mono ?_;rintro e w' ⟨rfl,h⟩)
    go_roundg (hi-(lo+(hi-lo)/2+1))
    case measure=>omega
    case rel=>
     exact⟨lo+(hi-lo)/2+1,hi,k+1,by go_num,rfl,by go_num,by omega,s,by omega,ay _,b.trans (h.mono b.size),d.o⟩
   .have d:=af a
    go_wp2_with (go_at_fn g;refine c.mono ?_;rintro e w' ⟨rfl,h⟩)
    go_roundg ((lo+(hi-lo)/2)-lo)
    case measure=>omega
    case rel=>
     exact⟨lo,lo+(hi-lo)/2,k+1,rfl,by go_num,by go_num,by omega,by omega,by omega,ay _,b.trans (h.mono b.size),d.o⟩
  .obtain rfl:hi=lo:=by omega
   have a:=j.o;have f:bsrch p n hi hi k=(hi,k):=by cases n<;>simp[bsrch]
   rw[f]at a;cases a;go_wp2;go_ret2;exact⟨rfl,b⟩
theorem Pg (i:Nat) (d bx:Nat) (a:Option Addr) (l:List Int) (c:Nat) (x:Int) (W:World) (g:W.cell? (ae d 0)=some (.slice a l.length c)) (n:W.cell? (ae bx 0)=some (aa x))
  (h:Rd (.int .i64) W a l) (hi:i<l.length):
  aH 253 (#[aa i]++#[ah d,ah bx]) W (eY W (.bool (decide (x<=l.getD i 0)))):=by
 obtain⟨b,off,rfl,j,e⟩:=h.get (by omega);have k:=e i hi;have f:l.getD i 0=l[i]:=by simp[hi]
 rw[f];clear f e;generalize l[i]=y at*;have m:(i:Int)<(l.length:Int):=by omega
 go_enter func253,ntmps253;go_wp2
 go_quiet (fail)
 go_wp2;go_ret;exact⟨uU (by first|rfl|simp),⟨rfl,rfl,rfl,ay _,fun _ _=>rfl⟩⟩
theorem Fg:∀args w,(callFunc 253 args).run prog w=.ok (.enter 253 args) w:=cK func253 (by kernel_rfl) rfl
theorem DY (a:Option Addr) (l:List Int) (c:Nat) (x:Int) (w:World) (h:Rd (.int .i64) w a l) (j:l.length<4611686018427387904):
  aH 170 #[.slice a l.length c,aa x] w (eY w (.tuple #[aa (aR l x).1,aa (aR l x).2])):=by
 have H:=af h;unfold aR;have f:=Fg;have d:Hid (∀(W:World) (i:Nat),Below ((w.alloc (.cells #[.slice a l.length c] 143)).alloc (.cells #[aa x] 2)).heap.size ((w.alloc (.cells #[.slice a l.length c] 143)).alloc (.cells #[aa x] 2)) W->i<l.length->
   aH 253 (#[aa i]++#[ah w.heap.size,ah (w.heap.size+1)]) W (eY W (.bool ((fun i=>decide (x<=l.getD i 0)) i)))):=by
  intro W i b hi;have g:Below w.heap.size w W:=(((aB _ _).alloc (ay _) _).alloc (by simp) _).trans (b.mono (by simp;omega));refine Pg i _ _ a l c x W ?_ ?_ (H.o.below g) hi
  .rw[b.cell (by simp;omega)];simp
  .rw[b.cell (by simp)];simp
 generalize(fun i=>decide (x<=l.getD i 0))=p at*;go_enter func170,ntmps170
 go_wp2_with (go_at_call 252;refine(Ae _ _ _ p _ j f d.o).mono ?_;rintro e w' ⟨rfl,b⟩)
 go_ret2;exact⟨rfl,(((aB _ _).alloc (ay _) _).alloc (by simp) _).trans (b.mono (by simp;omega))⟩
theorem Ph (i:Nat) (d bx:Nat) (a:Option Addr) (l:List Int) (c:Nat) (x:Int) (W:World) (g:W.cell? (ae d 0)=some (.slice a l.length c)) (n:W.cell? (ae bx 0)=some (aa x))
  (h:Rd (.int .i64) W a l) (hi:i<l.length):
  aH 254 (#[aa i]++#[ah d,ah bx]) W (eY W (.bool (decide (x<l.getD i 0)))):=by
 obtain⟨b,off,rfl,j,e⟩:=h.get (by omega);have k:=e i hi;have f:l.getD i 0=l[i]:=by simp[hi]
 rw[f];clear f e;generalize l[i]=y at*;have m:(i:Int)<(l.length:Int):=by omega
 go_enter func254,ntmps254;go_wp2
 go_quiet (fail)
 go_wp2;go_ret;exact⟨uU (by first|rfl|simp),⟨rfl,rfl,rfl,ay _,fun _ _=>rfl⟩⟩
theorem Fh:∀args w,(callFunc 254 args).run prog w=.ok (.enter 254 args) w:=cK func254 (by kernel_rfl) rfl
theorem DZ (a:Option Addr) (l:List Int) (c:Nat) (x:Int) (w:World) (h:Rd (.int .i64) w a l) (j:l.length<4611686018427387904):
  aH 171 #[.slice a l.length c,aa x] w (eY w (.tuple #[aa (aP l x).1,aa (aP l x).2])):=by
 have H:=af h;unfold aP;have f:=Fh;have d:Hid (∀(W:World) (i:Nat),Below ((w.alloc (.cells #[.slice a l.length c] 143)).alloc (.cells #[aa x] 2)).heap.size ((w.alloc (.cells #[.slice a l.length c] 143)).alloc (.cells #[aa x] 2)) W->i<l.length->
   aH 254 (#[aa i]++#[ah w.heap.size,ah (w.heap.size+1)]) W (eY W (.bool ((fun i=>decide (x<l.getD i 0)) i)))):=by
  intro W i b hi;have g:Below w.heap.size w W:=(((aB _ _).alloc (ay _) _).alloc (by simp) _).trans (b.mono (by simp;omega));refine Ph i _ _ a l c x W ?_ ?_ (H.o.below g) hi
  .rw[b.cell (by simp;omega)];simp
  .rw[b.cell (by simp)];simp
 generalize(fun i=>decide (x<l.getD i 0))=p at*;go_enter func171,ntmps171
 go_wp2_with (go_at_call 252;refine(Ae _ _ _ p _ j f d.o).mono ?_;rintro e w' ⟨rfl,b⟩)
 go_ret2;exact⟨rfl,(((aB _ _).alloc (ay _) _).alloc (by simp) _).trans (b.mono (by simp;omega))⟩
end
section
open Go.RowKit Go.Sort Go.Shelf Go.Lib Go.Maps
attribute [local irreducible] wpQuiet
attribute [local go_sem] Oper.fo
structure xG where
 rv:Value
 xv:Value
 gv:Value
 nv:Value
 lv:Value
 yv:Value
 fv:Value
 LN:Nat->Value
 LL:Nat->Value
structure jl (w:World) (lo hi tb fb:Nat) (R:List Pt) (gone:List Bool) (YS:List Nat) (V:xG):Prop where
 blk:w.heap[tb]? =some (.cells #[V.rv,V.xv,V.gv,ah fb,V.nv,V.lv,V.yv,aa YS.length] 146 (0,0))
 fq:lo<=tb/\tb<hi/\lo<=fb/\fb<hi/\hi<=w.heap.size
 row:w.ownsRow lo 29 3 V.rv R.length (R.flatMap dx)
 xs:w.ownsRow lo 2 1 V.xv R.length ((bU R).map (Value.int .i64))
 Cs:w.ownsRow lo 4 1 V.gv R.length (gone.map Value.bool)
 ig:mQ w lo fb R.length V.fv
 iP:w.ownsRow lo 163 7 V.nv (aU R.length).length ((aU R.length).flatMap nU)
 DR:w.ownsRow lo 150 2 V.lv (aU R.length).length ((List.range (aU R.length).length).flatMap fun k=>[V.LN k,V.LL k])
 ys:w.ownsRow lo 2 1 V.yv YS.length ((iW R YS).map (Value.int .i64))
 EU:∀t s,FT.At (aU R.length) t s->w.ownsRow lo 27 1 (V.LN (t.root s)) (nl YS t).length (((nl YS t).map (jw R)).map (Value.int .u32))
 zW:∀l r s,FT.At (aU R.length) (.node l r) s->w.ownsRow lo 3 1 (V.LL ((FT.node l r).root s)) (lf l.hi (nl YS (.node l r))).length ((lf l.hi (nl YS (.node l r))).map (Value.int .i64))
 Cn:∀k,k<(aU R.length).length->∃a m c,V.LL k=.slice a m c
 top:∀v,v=V.rv\/v=V.xv\/v=V.gv\/v=V.nv\/v=V.lv\/v=V.yv\/v=V.fv->∀g,v.ownBlock=some g->g<hi
 nX:∀k,k<(aU R.length).length->(∀g,(V.LN k).ownBlock=some g->g<hi)/\∀g,(V.LL k).ownBlock=some g->g<hi
 Mj:∀g,V.xv.ownBlock=some g->V.yv.ownBlock≠some g
 Gx:∀i k,i<(aU R.length).length->k<(aU R.length).length->i≠k->∀g,(V.LN i).ownBlock=some g->(V.LN k).ownBlock≠some g
 Fj:∀i k,i<(aU R.length).length->k<(aU R.length).length->i≠k->∀g,(V.LL i).ownBlock=some g->(V.LL k).ownBlock≠some g
theorem jl.kept {S:Nat->Prop} {w w':World} {lo hi tb fb:Nat} {R:List Pt} {gone:List Bool} {YS:List Nat} {V:xG} (h:jl w lo hi tb fb R gone YS V) (K:au S w w') (hS:∀k,lo<=k->k<hi->¬S k):jl w' lo hi tb fb R gone YS V:=by
 have ht:=h.top;have a:∀{e:TypeId} {sz:Nat} {v:Value} {n:Nat} {xs:List Value},w.ownsRow lo e sz v n xs->(∀g,v.ownBlock=some g->g<hi)->w'.ownsRow lo e sz v n xs:=fun a d=>aS a K fun g e=>hS g (a.lt g e).1 (d g e);have c:∀t s,FT.At (aU R.length) t s->t.root s<(aU R.length).length:=fun t s b=>b.lt;exact⟨bF K h.blk (hS tb h.fq.1 h.fq.2.1),⟨h.fq.1,h.fq.2.1,h.fq.2.2.1,h.fq.2.2.2.1,bJ h.fq.2.2.2.2 K.size⟩,
  a h.row (ht _ (by simp)),a h.xs (ht _ (by simp)),a h.Cs (ht _ (by simp)),
  ⟨bF K h.ig.blk (hS fb h.fq.2.2.1 h.fq.2.2.2.1),a h.ig.row (ht _ (by simp))⟩,a h.iP (ht _ (by simp)),a h.DR (ht _ (by simp)),a h.ys (ht _ (by simp)),
  fun t s b=>a (h.EU t s b) (h.nX _ (c t s b)).1,fun l r s b=>a (h.zW l r s b) (h.nX _ (c _ s b)).2,h.Cn,h.top,h.nX,h.Mj,h.Gx,h.Fj⟩
theorem jl.below {w w':World} {B lo hi tb fb:Nat} {R:List Pt} {gone:List Bool} {YS:List Nat} {V:xG} (h:jl w lo hi tb fb R gone YS V) (a:Below B w w') (e:hi<=B):jl w' lo hi tb fb R gone YS V:=
 h.kept (S:=fun k=>hi<=k) ⟨a.os,a.tape,a.output,a.size,fun k f g=>a.block k (by omega)⟩ fun k b c d=>by omega
theorem jl.dn {w:World} {lo hi tb fb:Nat} {R:List Pt} {gone:List Bool} {YS:List Nat} {V:xG} (h:jl w lo hi tb fb R gone YS V) (E:0<R.length):Hq w tb (aU R.length) (jw R) YS V.LN V.LL:=by
 have o:=h.blk;have G:=dh R.length;have x:w.cell? (ae tb 4)=some V.nv:=by simp[World.cell?,o]
 have y:w.cell? (ae tb 5)=some V.lv:=by simp[World.cell?,o]
 refine⟨?_,?_,fun t s n=>?_,fun l r s n=>?_,h.Cn⟩
 .obtain⟨g,c,e,_⟩:=aQ h.iP (by omega);obtain⟨a,v,i,-,-,d⟩:=cz.aC iZ (by decide) h.iP;rw[e]at i;injection i with j z A;rw[<-j]at d;exact⟨g,0,c,by rw[x,e],d⟩
 .obtain⟨g,c,e,_,D,_⟩:=aQ h.DR (by omega);have H:(aU R.length).length=(List.range (aU R.length).length).length:=by simp
  obtain⟨a,v,i,-,-,d⟩:=cz.aC (enc:=fun k=>[V.LN k,V.LL k]) (fun _=>rfl) (by decide) h.DR;rw[e]at i;injection i with j z A;rw[<-j]at d;refine⟨g,c,by rw[y,e],D,fun k p=>?_⟩;have⟨b,off,m,F,f⟩:=d.get (by simp;omega);injection m with m;injection m with C B _;subst C B;have q:=f k (by simpa using p) 0 (by omega);have u:=f k (by simpa using p) 1 (by omega);simp only[wQ,jU,dM,aM,aN]at q u;exact⟨q,u⟩
 .obtain⟨a,c,e,-,f,d⟩:=Rd.aC (h.EU t s n);rw[bX]at e f;exact⟨a,c,e,f,d⟩
 .obtain⟨a,c,e,-,f,d⟩:=Rd.aC (h.zW l r s n);exact⟨a,c,e,d⟩
theorem xH (tb fb:Nat) (w:World) (a:w.cell? (ae tb 3)=some (ah fb)):
  aH 169 #[ah tb] w fun e w'=>e=.returned (.bool false)/\w'=w:=by
 go_enter func169,ntmps169;go_wp2;go_ret;exact⟨rfl,rfl⟩
theorem lJ (p:Nat->Bool) (n:Nat) (hp:∀i j,i<=j->j<n->p i=true->p j=true):∀(f lo hi k:Nat),hi-lo<=f->lo<=hi->hi<=n->(∀t,t<lo->p t=false)->(∀t,hi<=t->t<n->p t=true)->
  (bsrch p f lo hi k).1<=n/\(∀t,t<(bsrch p f lo hi k).1->p t=false)/\(∀t,(bsrch p f lo hi k).1<=t->t<n->p t=true):=by
 intro f
 induction f with
 |zero=>
  intro lo hi k e g a b c;simp only[bsrch];obtain rfl:hi=lo:=by omega
  exact⟨a,b,c⟩
 |succ f ih=>
  intro lo hi k e g a b c;simp only[bsrch];by_cases h:lo<hi
  .rw[aK h];by_cases d:p (lo+(hi-lo)/2)=true
   .rw[aK d];exact ih _ _ _ (by omega) (by omega) (by omega) b (fun t ht m=>hp _ t ht m d)
   .rw[aI d];refine ih _ _ _ (by omega) (by omega) a (fun t ht=>?_) c;cases l:p t with
    |false=>rfl
    |true=>exact absurd (hp t _ (by omega) (by omega) l) d
  .rw[aI h];obtain rfl:hi=lo:=by omega
   exact⟨a,b,c⟩
theorem nY {α:Type} {q:α->Bool}:∀(l:List α) (m:Nat),m<=l.length->(∀t (h:t<l.length),t<m->q l[t]=true)->(∀t (h:t<l.length),m<=t->q l[t]=false)->m=l.countP q
 |[],m,a,_,_=>by simp at a;simp[a]
 |x::l,0,_,_,b=>by
  symm;refine Db.2 fun y f=>?_;obtain⟨t,ht,rfl⟩:=jk f;rw[b t ht (bf _)];decide
 |x::l,m+1,a,c,b=>by
  have d:q x=true:=c 0 (by simp) (by omega);rw[GM d,<-nY l m (by simpa using a) (fun t ht e=>c (t+1) (by simpa using ht) (by omega)) (fun t ht e=>b (t+1) (by simpa using ht) (by omega))]
theorem BD {l:List Int} (g:l.Pairwise (·<=·)) (x:Int):(aR l x).1=l.countP fun y=>decide (y<x):=by
 have⟨c,d,f⟩:=lJ (fun i=>decide (x<=l.getD i 0)) l.length (fun i j h b hi=>by
  by_cases e:i=j
  .exact e▸hi
  .have:=gH.1 g i j (by omega) b (by omega);simp[b,show i<l.length by omega]at hi |-;omega) l.length 0 l.length 0 (by omega) (by omega) (ay _) (by omega) (by omega)
 unfold aR;refine nY l _ c (fun t ht a=>?_) (fun t ht a=>?_)
 .have:=d t a;simp[ht]at this;simpa using this
 .have:=f t a ht;simp[ht]at this;simpa using this
theorem BF {l:List Int} (g:l.Pairwise (·<=·)) (x:Int):(aP l x).1=l.countP fun y=>decide (y<=x):=by
 have⟨c,d,f⟩:=lJ (fun i=>decide (x<l.getD i 0)) l.length (fun i j h b hi=>by
  by_cases e:i=j
  .exact e▸hi
  .have:=gH.1 g i j (by omega) b (by omega);simp[b,show i<l.length by omega]at hi |-;omega) l.length 0 l.length 0 (by omega) (by omega) (ay _) (by omega) (by omega)
 unfold aP;refine nY l _ c (fun t ht a=>?_) (fun t ht a=>?_)
 .have:=d t a;simp[ht]at this;simpa using this
 .have:=f t a ht;simp[ht]at this;simpa using this
theorem cB.UL {R:List Pt} {gone:List Bool} {YS:List Nat} (h:cB R gone YS):(iW R YS).Pairwise (·<=·):=dE.2 h.le
theorem MP {R:List Pt} {gone:List Bool} {YS:List Nat} (h:cB R gone YS) (y:Int):(aR (iW R YS) y).1=below (kR R) y YS:=by
 rw[BD h.UL];unfold iW below;rw[Dv];rfl
theorem Pj {R:List Pt} {gone:List Bool} {YS:List Nat} (h:cB R gone YS) (y:Int):(aP (iW R YS) y).1=upto (kR R) y YS:=by
 rw[BF h.UL];unfold iW upto;rw[Dv];rfl
theorem fU (p:Nat->Bool) (n:Nat):(bsrch p n 0 n 0).2<=n/\(bsrch p n 0 n 0).1<=n:=by
 have:=DK p n 0 n 0 (by omega);omega
def D5 (S:World->List Nat->(Nat->Prop)->Prop) (W:World) (D:Nat->Prop) (r:List Nat×Nat) (e:Ending) (w':World):Prop:=
 e=.returned (aa r.2)/\∃D',S w' r.1 D'/\(∀k,D' k->D k\/W.heap.size<=k)/\au D W w'
theorem KI (F:Nat) (cb:Array Value) (R:List Pt) (gone:List Bool) (YS:List Nat) (V:xG) (lo hi tb fb:Nat) (W:World) (S:World->List Nat->(Nat->Prop)->Prop) (D:Nat->Prop) (x1 x2 y1 y2 j:Int)
  (b:jl W lo hi tb fb R gone YS V) (c:R=[]\/x2<x1\/y2<y1) (u:∀W',Below W.heap.size W W'->S W' [] D):
  aH 104 #[ah tb,.agg #[aa x1,aa x2,aa y1,aa y2,ai j],.func (.func F) #[] cb] W (D5 S W D (kV R YS x1 x2 y1 y2)):=by
 have m:=b.blk;have e:kV R YS x1 x2 y1 y2=([],0):=by unfold kV;rw[aK c]
 rw[e];obtain⟨y,z,s⟩:=fD b.row;have x:tb<W.heap.size:=bB b.fq.2.1 b.fq.2.2.2.2;rw[s]at m;have i:Hid (∀W',Below W.heap.size W W'->D5 S W D ([],0) (.returned (aa 0)) W'):=fun W' h=>⟨rfl,D,u W' h,fun k h=>.inl h,(au.refl _ _).below h⟩;obtain⟨w1,a⟩:∃w1,w1=W.alloc (.cells #[aa x1,aa x2,aa y1,aa y2,ai j] 38):=⟨_,rfl⟩;have p:Below W.heap.size W w1:=by rw[a];exact(aB _ _).alloc (ay _) _
 have d:w1.heap[W.heap.size]? =some (.cells #[aa x1,aa x2,aa y1,aa y2,ai j] 38 (0,0)):=by rw[a];exact di W _
 have q:=(p.block tb x).trans m;have v:w1.cell? (ae tb 0)=some (.slice y R.length z):=by simp[World.cell?,q]
 have w:w1.cell? (ae tb 3)=some (ah fb):=by simp[World.cell?,q]
 have A:w1.cell? (ae W.heap.size 0)=some (aa x1):=by simp[World.cell?,d]
 have B:w1.cell? (ae W.heap.size 1)=some (aa x2):=by simp[World.cell?,d]
 have C:w1.cell? (ae W.heap.size 2)=some (aa y1):=by simp[World.cell?,d]
 have E:w1.cell? (ae W.heap.size 3)=some (aa y2):=by simp[World.cell?,d]
 have f:=xH tb fb w1 w;have g:=af p;have r:R.length=0↔R=[]:=List.length_eq_zero_iff;obtain⟨n,t⟩:∃n,n=R.length:=⟨_,rfl⟩;rw[<-t]at v r;rw[<-r]at c;clear b u q d p e s m t r;by_cases l:n=0
 .have d1:((n:Int)==0)=true:=by simp[l]
  have d2:(n==0)=true:=by simp[l]
  have d3:decide (n=0)=true:=by simp[l]
  clear c;go_enter func104,ntmps104
  go_wp2_with fail
  rw[<-a];clear a
  go_wp2_with (go_at_call 169;refine f.mono ?_;rintro e w' ⟨rfl,rfl⟩)
  go_ret;exact i.o _ g.o
 .have d1:((n:Int)==0)=false:=by simp;omega
  have d2:(n==0)=false:=by simp;omega
  have d3:decide (n=0)=false:=by simp;omega
  by_cases I:x2<x1
  .have f1:decide (x1>x2)=true:=by simp;omega
   have f2:decide (x2<x1)=true:=by simp;omega
   clear c;go_enter func104,ntmps104
   go_wp2_with fail
   rw[<-a];clear a
   go_wp2_with (go_at_call 169;refine f.mono ?_;rintro e w' ⟨rfl,rfl⟩)
   go_ret;exact i.o _ g.o
  .have f1:decide (x1>x2)=false:=by simp;omega
   have f2:decide (x2<x1)=false:=by simp;omega
   have G:decide (y1>y2)=true:=by simp;omega
   have H:decide (y2<y1)=true:=by simp;omega
   clear c;go_enter func104,ntmps104
   go_wp2_with fail
   rw[<-a];clear a
   go_wp2_with (go_at_call 169;refine f.mono ?_;rintro e w' ⟨rfl,rfl⟩)
   go_ret;exact i.o _ g.o
theorem KJ (F:Nat) (cb:Array Value) (R:List Pt) (gone:List Bool) (YS:List Nat) (V:xG) (lo hi tb fb B:Nat) (w0 W:World) (S:World->List Nat->(Nat->Prop)->Prop) (D:Nat->Prop) (x1 x2 y1 y2 aE:Int)
  (aq:jl w0 lo hi tb fb R gone YS V) (K:cB R gone YS) (z:0<R.length) (bV:x1<=x2) (bF:y1<=y2) (bb:R.length<=40000) (a8:B=w0.heap.size) (aD:List Nat)
  (ar:Told F cb (aU R.length) YS V.LN V.LL B w0 aD S) (hF:(kV R YS x1 x2 y1 y2).1=aD) (hS:S W [] D):
  aH 104 #[ah tb,.agg #[aa x1,aa x2,aa y1,aa y2,ai aE],.func (.func F) #[] cb] W (D5 S W D (kV R YS x1 x2 y1 y2)):=by
 have bd:=ar.base W [] D hS;have y:=aq.below bd (by rw[a8];exact aq.fq.2.2.2.2);obtain⟨bM,bN,a5⟩:=fD y.row;have bj:tb<W.heap.size:=bB y.fq.2.1 y.fq.2.2.2.2;have bx:fb<W.heap.size:=bB y.fq.2.2.2.1 y.fq.2.2.2.2;have aG:=y.blk;have bw:=K.len;obtain⟨ac,ad,a6,-,-,aL⟩:=Rd.aC y.xs;obtain⟨aj,ak,a7,-,-,aM⟩:=Rd.aC y.ys;rw[a5,a6,a7]at aG;have b2:(bU R).length<=40000:=by unfold bU;rw[bX];exact bb
 have b3:(iW R YS).length<=40000:=by unfold iW;rw[bX];omega
 have bi:¬(R=[]\/x2<x1\/y2<y1):=by
  rintro(h|h|h)
  .subst h;simp at z
  .omega
  .omega
 have aF:kV R YS x1 x2 y1 y2=((down YS (kR R) y1 y2 (aR (bU R) x1).1 (aP (bU R) x2).1 (dK 0 R.length)).1,
   (aR (bU R) x1).2+(aP (bU R) x2).2+(aR (iW R YS) y1).2+(aP (iW R YS) y2).2+(down YS (kR R) y1 y2 (aR (bU R) x1).1 (aP (bU R) x2).1 (dK 0 R.length)).2):=by unfold kV;rw[aI bi]
 have bG:=fU (fun i=>decide (x1<=(bU R).getD i 0)) (bU R).length;have bH:=fU (fun i=>decide (x2<(bU R).getD i 0)) (bU R).length;have bK:=fU (fun i=>decide (y1<=(iW R YS).getD i 0)) (iW R YS).length;have bL:=fU (fun i=>decide (y2<(iW R YS).getD i 0)) (iW R YS).length;have aO:∀W',Below W.heap.size W W'->aH 172 #[ah tb,aa (2*R.length-2:Nat),aa (aR (iW R YS) y1).1,aa (aP (iW R YS) y2).1,.agg #[aa (aR (bU R) x1).1,aa (aP (bU R) x2).1,.func (.func F) #[] cb]] W' (Ra S W' D (down YS (kR R) y1 y2 (aR (bU R) x1).1 (aP (bU R) x2).1 (dK 0 R.length)).1 (down YS (kR R) y1 y2 (aR (bU R) x1).1 (aP (bU R) x2).1 (dK 0 R.length)).2):=fun W' m=>by
  obtain⟨w1,w2,w3⟩:=bO 0 R.length z;have bS:=eZ 0 R.length z;have h:=Kv F cb (aU R.length) (jw R) YS V.LN V.LL tb B w0 S (kR R) y1 y2 (aR (bU R) x1).1 (aP (bU R) x2).1 (xm a8.symm) aD ar (aq.dn z) K.le bF (by rw[dh];omega) (by omega) (by unfold aR;omega) (by unfold aP;omega) (dK 0 R.length) 0 (jF R.length z) w1 (by omega) W' [] D (ar.jE _ _ _ _ hS m) (by rw[fK,<-hF,aF];exact List.prefix_refl _);rw[K.top z,fK]at h;rw[MP K,Pj K];have e:(dK 0 R.length).root 0=2*R.length-2:=by unfold FT.root;omega
  rw[e]at h;exact h
 have bk:=lQ (YS:=YS) (yv:=kR R) (y1:=y1) (y2:=y2) (fr:=(aR (bU R) x1).1) (ub:=(aP (bU R) x2).1) (dK 0 R.length);rw[eZ 0 R.length z]at bk;rw[aF];have a3:=af aO;have aQ:∀W',Below W.heap.size W W'->aH 95 #[ah fb] W' fun e w'=>e=.returned (aa ((2*R.length-2:Nat):Int))/\w'=W':=fun W' m=>by
  have be:=(m.block fb bx).trans y.ig.blk;exact jd fb R.length z (by omega) W' (by simp[World.cell?,be]) (by simp[World.cell?,be])
 have a4:=af aQ;have aS:=fun W' (m:Below W.heap.size W W')=>DY ac (bU R) ad x1 W' (aL.below m) (by omega);have aV:=fun W' (m:Below W.heap.size W W')=>DZ ac (bU R) ad x2 W' (aL.below m) (by omega);have aW:=fun W' (m:Below W.heap.size W W')=>DY aj (iW R YS) ak y1 W' (aM.below m) (by omega);have aX:=fun W' (m:Below W.heap.size W W')=>DZ aj (iW R YS) ak y2 W' (aM.below m) (by omega);have bW:(aR (bU R) x1).2<=40000:=by unfold aR;omega
 have bY:(aP (bU R) x2).2<=40000:=by unfold aP;omega
 have bZ:(aR (iW R YS) y1).2<=40000:=by unfold aR;omega
 have b0:(aP (iW R YS) y2).2<=40000:=by unfold aP;omega
 have b1:(down YS (kR R) y1 y2 (aR (bU R) x1).1 (aP (bU R) x2).1 (dK 0 R.length)).2<=80000:=by omega
 clear aO aQ aF bi bG bH bK bL bk aL aM a6 a7 hF ar hS aq;generalize down YS (kR R) y1 y2 (aR (bU R) x1).1 (aP (bU R) x2).1 (dK 0 R.length)=P at*;generalize bz:aR (bU R) x1=L at*;generalize bA:aP (bU R) x2=M at*;generalize bC:aR (iW R YS) y1=N at*;generalize bD:aP (iW R YS) y2=O at*;generalize bf:(bU R).length=aJ at*;generalize bg:(iW R YS).length=aK at*;obtain⟨w1,Q⟩:∃w1,w1=W.alloc (.cells #[aa x1,aa x2,aa y1,aa y2,ai aE] 38):=⟨_,rfl⟩;have av:Below W.heap.size W w1:=by rw[Q];exact(aB _ _).alloc (ay _) _
 have ab:w1.heap[W.heap.size]? =some (.cells #[aa x1,aa x2,aa y1,aa y2,ai aE] 38 (0,0)):=by rw[Q];exact di W _
 have T:=(av.block tb bj).trans aG;have bs:w1.cell? (ae tb 0)=some (.slice bM R.length bN):=by simp[World.cell?,T]
 have j:w1.cell? (ae tb 1)=some (.slice ac aJ ad):=by simp[World.cell?,T,bf]
 have b:w1.cell? (ae tb 3)=some (ah fb):=by simp[World.cell?,T]
 have l:w1.cell? (ae tb 6)=some (.slice aj aK ak):=by simp[World.cell?,T,bg]
 have c:w1.cell? (ae W.heap.size 0)=some (aa x1):=by simp[World.cell?,ab]
 have d:w1.cell? (ae W.heap.size 1)=some (aa x2):=by simp[World.cell?,ab]
 have f:w1.cell? (ae W.heap.size 2)=some (aa y1):=by simp[World.cell?,ab]
 have g:w1.cell? (ae W.heap.size 3)=some (aa y2):=by simp[World.cell?,ab]
 have bl:=xH tb fb w1 b;have al:=af av;obtain⟨n,bh⟩:∃n,n=R.length:=⟨_,rfl⟩;rw[<-bh]at bs z bb a4 a3;have d1:((n:Int)==0)=false:=by simp;omega
 have d2:(n==0)=false:=by simp;omega
 have d3:decide (n=0)=false:=by simp;omega
 have f1:decide (x1>x2)=false:=by simp;omega
 have f2:decide (x2<x1)=false:=by simp;omega
 have bP:decide (y1>y2)=false:=by simp;omega
 have bQ:decide (y2<y1)=false:=by simp;omega
 have bo:=af aS;have bp:=af aV;have bq:=af aW;have br:=af aX;have bE:W.heap.size<=w1.heap.size:=av.size;clear T ab av aG bh aS aV aW aX bz bA bC bD bf bg y K bw a5 bd;have aw:tb<w1.heap.size:=bB bj bE;have U:W.heap.size<w1.heap.size:=by rw[Q];simp
 go_enter func104,ntmps104
 go_wp2_with fail
 rw[<-Q];clear Q
 go_wp2_with (go_at_call 169;refine bl.mono ?_;rintro e w' ⟨rfl,bu⟩;subst w')
 have aZ:Hid (∀p:aT w1,aH 170 #[.slice ac aJ ad,aa x1] p.W fun e w'=>e=.returned (.tuple #[aa L.1,aa L.2])/\Below p.W.heap.size p.W w'):=fun p=>bo.o _ (al.o.trans (p.h.mono al.o.size));have H:=ag j;have J:=ag l;have I:=ag b;have A:=ag c;have C:=ag d;have E:=ag f;have G:=ag g;refine bI (by kernel_rfl) (by kernel_rfl) ?_
 repeat(quiet_step ((go_at_call 170;exact dC (aZ.o _))))
 refine jb ?_;intro w2 q;have a:Below w1.heap.size w1 w2:=by obtain⟨p,rfl⟩:=q;exact p.h
 have am:=af (al.o.trans (a.mono al.o.size));have v:=(a.cell (p:=(ae tb 1)) aw).trans j;have x:=(a.cell (p:=(ae tb 6)) aw).trans l;have w:=(a.cell (p:=(ae tb 3)) aw).trans b;have r:=(a.cell (p:=(ae W.heap.size 0)) U).trans c;have s:=(a.cell (p:=(ae W.heap.size 1)) U).trans d;have t:=(a.cell (p:=(ae W.heap.size 2)) U).trans f;have u:=(a.cell (p:=(ae W.heap.size 3)) U).trans g;have ax:=bB aw a.size;have X:=bB U a.size;clear q a aZ H J I A C E G j l b c d f g;have j:=v;clear v;have l:=x;clear x;have b:=w;clear w;have c:=r;clear r;have d:=s;clear s;have f:=t;clear t;have g:=u;clear u
 go_wp2_with fail
 have a0:Hid (∀p:aT w2,aH 171 #[.slice ac aJ ad,aa x2] p.W fun e w'=>e=.returned (.tuple #[aa M.1,aa M.2])/\Below p.W.heap.size p.W w'):=fun p=>bp.o _ (am.o.trans (p.h.mono am.o.size));have H:=ag j;have J:=ag l;have I:=ag b;have A:=ag c;have C:=ag d;have E:=ag f;have G:=ag g;refine bI (by kernel_rfl) (by kernel_rfl) ?_
 repeat(quiet_step ((go_at_call 171;exact dC (a0.o _))))
 refine jb ?_;intro w3 q;have a:Below w2.heap.size w2 w3:=by obtain⟨p,rfl⟩:=q;exact p.h
 have an:=af (am.o.trans (a.mono am.o.size));have v:=(a.cell (p:=(ae tb 1)) ax).trans j;have x:=(a.cell (p:=(ae tb 6)) ax).trans l;have w:=(a.cell (p:=(ae tb 3)) ax).trans b;have r:=(a.cell (p:=(ae W.heap.size 0)) X).trans c;have s:=(a.cell (p:=(ae W.heap.size 1)) X).trans d;have t:=(a.cell (p:=(ae W.heap.size 2)) X).trans f;have u:=(a.cell (p:=(ae W.heap.size 3)) X).trans g;have az:=bB ax a.size;have Y:=bB X a.size;clear q a a0 H J I A C E G j l b c d f g;have j:=v;clear v;have l:=x;clear x;have b:=w;clear w;have c:=r;clear r;have d:=s;clear s;have f:=t;clear t;have g:=u;clear u
 go_wp2_with fail
 have a1:Hid (∀p:aT w3,aH 170 #[.slice aj aK ak,aa y1] p.W fun e w'=>e=.returned (.tuple #[aa N.1,aa N.2])/\Below p.W.heap.size p.W w'):=fun p=>bq.o _ (an.o.trans (p.h.mono an.o.size));have H:=ag j;have J:=ag l;have I:=ag b;have A:=ag c;have C:=ag d;have E:=ag f;have G:=ag g;refine bI (by kernel_rfl) (by kernel_rfl) ?_
 repeat(quiet_step ((go_at_call 170;exact dC (a1.o _))))
 refine jb ?_;intro w4 q;have a:Below w3.heap.size w3 w4:=by obtain⟨p,rfl⟩:=q;exact p.h
 have ao:=af (an.o.trans (a.mono an.o.size));have v:=(a.cell (p:=(ae tb 1)) az).trans j;have x:=(a.cell (p:=(ae tb 6)) az).trans l;have w:=(a.cell (p:=(ae tb 3)) az).trans b;have r:=(a.cell (p:=(ae W.heap.size 0)) Y).trans c;have s:=(a.cell (p:=(ae W.heap.size 1)) Y).trans d;have t:=(a.cell (p:=(ae W.heap.size 2)) Y).trans f;have u:=(a.cell (p:=(ae W.heap.size 3)) Y).trans g;have aA:=bB az a.size;have Z:=bB Y a.size;clear q a a1 H J I A C E G j l b c d f g;have j:=v;clear v;have l:=x;clear x;have b:=w;clear w;have c:=r;clear r;have d:=s;clear s;have f:=t;clear t;have g:=u;clear u
 go_wp2_with fail
 have a2:Hid (∀p:aT w4,aH 171 #[.slice aj aK ak,aa y2] p.W fun e w'=>e=.returned (.tuple #[aa O.1,aa O.2])/\Below p.W.heap.size p.W w'):=fun p=>br.o _ (ao.o.trans (p.h.mono ao.o.size));have H:=ag j;have J:=ag l;have I:=ag b;have A:=ag c;have C:=ag d;have E:=ag f;have G:=ag g;refine bI (by kernel_rfl) (by kernel_rfl) ?_
 repeat(quiet_step ((go_at_call 171;exact dC (a2.o _))))
 refine jb ?_;intro aN q;have a:Below w4.heap.size w4 aN:=by obtain⟨p,rfl⟩:=q;exact p.h
 have ap:=af (ao.o.trans (a.mono ao.o.size));have v:=(a.cell (p:=(ae tb 1)) aA).trans j;have x:=(a.cell (p:=(ae tb 6)) aA).trans l;have w:=(a.cell (p:=(ae tb 3)) aA).trans b;have r:=(a.cell (p:=(ae W.heap.size 0)) Z).trans c;have s:=(a.cell (p:=(ae W.heap.size 1)) Z).trans d;have t:=(a.cell (p:=(ae W.heap.size 2)) Z).trans f;have u:=(a.cell (p:=(ae W.heap.size 3)) Z).trans g;have bT:=bB aA a.size;have bR:=bB Z a.size;clear q a a2 H J I A C E G j l b c d f g;have j:=v;clear v;have l:=x;clear x;have b:=w;clear w;have c:=r;clear r;have d:=s;clear s;have f:=t;clear t;have g:=u;clear u
 go_wp2_with fail
 refine(a4.o aN ap.o).mono ?_;rintro e w' ⟨rfl,bu⟩;subst w'
 go_wp2_with fail
 refine(a3.o aN ap.o).mono ?_;rintro e w6 ⟨rfl,bm,bc,a9,ba⟩;have bn:Hid (D5 S W D (P.1,L.2+M.2+N.2+O.2+P.2) (.returned (aa (L.2+M.2+N.2+O.2+P.2:Nat))) w6):=
  ⟨rfl,bm,bc,fun k h=>(a9 k h).imp id fun bv=>bJ ap.o.size bv,(((au.refl (fun k=>D k\/W.heap.size<=k) W).below ap.o).trans (ba.mono fun k h=>.inl h)).strip⟩
 clear bc a9 ba;go_wp2;go_ret;have aY:=bn.o;have bt:((L.2+M.2+N.2+O.2+P.2:Nat):Int)=(((L.2:Int)+(M.2:Int))+(N.2:Int)+(O.2:Int))+(P.2:Int):=by omega
 rw[bt]at aY;exact aY
theorem MQ {R:List Pt} {gone:List Bool} {YS:List Nat} (c:cB R gone YS) (o:R.length<=40000) (x1 x2 y1 y2:Int):(kV R YS x1 x2 y1 y2).1.length<=R.length/\(kV R YS x1 x2 y1 y2).2<=400000:=by
 unfold kV;split
 .exact⟨bf _,bf _⟩
 .rename_i h;have d:0<R.length:=by
   cases R with
   |nil=>simp at h
   |cons a b=>simp
  have e:y1<=y2:=by omega
  have⟨w1,w2,w3⟩:=bO 0 R.length d;refine⟨?_,?_⟩
  .refine xz (zR _ w1 c.nodup c.le e) fun k f=>?_;have:=((uZ _ w1 c.le e k).1 f).1;rw[c.top d]at this;exact c.lt this
  .have p:=fU (fun i=>decide (x1<=(bU R).getD i 0)) (bU R).length;have q:=fU (fun i=>decide (x2<(bU R).getD i 0)) (bU R).length;have r:=fU (fun i=>decide (y1<=(iW R YS).getD i 0)) (iW R YS).length;have s:=fU (fun i=>decide (y2<(iW R YS).getD i 0)) (iW R YS).length;have t:(bU R).length=R.length:=by unfold bU;simp
   have u:(iW R YS).length=YS.length:=by unfold iW;simp
   have v:=c.len;have g:=lQ (YS:=YS) (yv:=kR R) (y1:=y1) (y2:=y2) (fr:=(aR (bU R) x1).1) (ub:=(aP (bU R) x2).1) (dK 0 R.length);rw[eZ 0 R.length d]at g;show(aR (bU R) x1).2+(aP (bU R) x2).2+(aR (iW R YS) y1).2+(aP (iW R YS) y2).2+_<=_;have j:(aR (bU R) x1).2<=40000:=by unfold aR;omega
   have l:(aP (bU R) x2).2<=40000:=by unfold aP;omega
   have m:(aR (iW R YS) y1).2<=40000:=by unfold aR;omega
   have n:(aP (iW R YS) y2).2<=40000:=by unfold aP;omega
   omega
theorem MR (F:Nat) (cb:Array Value) (R:List Pt) (gone:List Bool) (YS:List Nat) (V:xG) (lo hi tb fb:Nat) (w0 W:World) (S:World->List Nat->(Nat->Prop)->Prop) (D:Nat->Prop) (x1 x2 y1 y2 c:Int)
  (d:jl w0 lo hi tb fb R gone YS V) (i:cB R gone YS) (f:R.length<=40000)
  (j:Below w0.heap.size w0 W) (k:∀W',Below W.heap.size W W'->S W' [] D)
  (g:0<R.length->Told F cb (aU R.length) YS V.LN V.LL w0.heap.size w0 (kV R YS x1 x2 y1 y2).1 S) (hS:S W [] D):
  aH 104 #[ah tb,.agg #[aa x1,aa x2,aa y1,aa y2,ai c],.func (.func F) #[] cb] W (D5 S W D (kV R YS x1 x2 y1 y2)):=by
 by_cases h:R=[]\/x2<x1\/y2<y1
 .exact KI F cb R gone YS V lo hi tb fb W S D x1 x2 y1 y2 c (d.below j d.fq.2.2.2.2) h k
 .have e:0<R.length:=by
   cases R with
   |nil=>simp at h
   |cons a b=>simp
  exact KJ F cb R gone YS V lo hi tb fb _ w0 W S D x1 x2 y1 y2 c d i e (by omega) (by omega) f rfl _ (g e) rfl hS
def Ug (w:World) (R:List Pt) (r:List Nat×Nat) (e:Ending) (w':World):Prop:=
 ∃v,e=.returned (.tuple #[v,aa (r.2+r.1.length:Nat)])/\w'.ownsRow w.heap.size 27 1 v r.1.length ((eD (r.1.map (jw R))).map (Value.int .u32))/\Below w.heap.size w w'
theorem Fp {w:World} {lo hi tb fb:Nat} {R:List Pt} {gone:List Bool} {YS:List Nat} {V:xG} (p:jl w lo hi tb fb R gone YS V) (f:cB R gone YS) (s:R.length<=40000) (x1 x2 y1 y2 a:Int):
  aH 39 #[ah tb,.agg #[aa x1,aa x2,aa y1,aa y2,ai a]] w (Ug w R (kV R YS x1 x2 y1 y2)):=by
 obtain⟨w1,b⟩:∃w1,w1=(w.alloc (.cells #[aa x1,aa x2,aa y1,aa y2,ai a] 38)).alloc (.cells #[aG] 35):=⟨_,rfl⟩;have i:Below w.heap.size w w1:=by rw[b];exact((aB _ _).alloc (ay _) _).alloc (by simp) _
 have H:w1.heap[w.heap.size+1]? =some (.cells #[aG] 35 (0,0)):=by rw[b];exact xx w _ _
 have Y:w1.heap[w.heap.size]? =some (.cells #[aa x1,aa x2,aa y1,aa y2,ai a] 38 (0,0)):=by rw[b];exact Dz w _ _
 have hS:Rl w.heap.size (w.heap.size+1) (jw R) w w1 [] (fun k=>k=w.heap.size+1\/(aG).ownBlock=some k):=
  ⟨i,aG,H,dz _ _ _ _,rfl⟩
 have⟨W,U⟩:=MQ f s x1 x2 y1 y2;have T:=f.len;have t:=MR 105 #[ah (w.heap.size+1)] R gone YS V lo hi tb fb w w1 (Rl w.heap.size (w.heap.size+1) (jw R) w) _ x1 x2 y1 y2 a p f s i
  (fun W' g=>by
    have⟨C,v,m,D,E⟩:=hS;exact⟨C.trans (g.mono i.size),v,(g.block _ (aZ.1 m).1).trans m,ax D g,E⟩)
  (fun F=>MO (aU R.length) (jw R) YS V.LN V.LL tb w.heap.size (w.heap.size+1) w _ (by omega) (by omega) rfl (p.dn F) (by omega)) hS
 generalize kV R YS x1 x2 y1 y2=r at*;have x:=af t;have X:r.1.length<=40000:=by omega
 go_enter func39,ntmps39
 go_wp2_with fail
 rw[<-b];refine x.o.mono ?_;rintro e w2 ⟨rfl,O,⟨G,v,c,d,rfl⟩,Q,S⟩;have z:=af d;have j:=af G;have P:=af c;have L:w2.cell? (ae (w.heap.size+1) 0)=some v:=by simp[World.cell?,c]
 have K:∀n,v.ownBlock=some n->w.heap.size+1≠n:=bz d c (by decide);have B:=af K;have I:=(aZ.1 c).1;have u:=af (uW (l:=r.1.map (jw R)) d (by omega));obtain⟨M,N,rfl⟩:=fD d
 go_wp2_with fail
 refine u.o.mono ?_;rintro e w3 ⟨rfl,J,q⟩;have A:=af J;have Z:w3.cell? (ae (w.heap.size+1) 0)=some (.slice M r.1.length N):=((cu q I (fun h=>B.o _ h rfl)).1 0).trans L;have y:Hid (Below w.heap.size w w3):=j.o.trans (q.toBelow j.o.size (fun k h=>(z.o.lt k h).1))
 go_wp2_with fail
 go_quiet (fail)
 go_wp2;go_ret2;exact⟨_,rfl,A.o,y.o.trans (Below.bC _ _)⟩
end
end Go.Proofs.YtkjdbndekceffaaGreat
