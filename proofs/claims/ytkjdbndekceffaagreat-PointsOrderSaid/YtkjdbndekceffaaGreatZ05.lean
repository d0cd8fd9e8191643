/- Made small by a program. -/
import Derived.Test.YtkjdbndekceffaaGreatZ03
set_option linter.unusedSimpArgs false
set_option linter.unusedVariables false
set_option maxRecDepth 100000
set_option maxHeartbeats 16000000
namespace Go.Proofs.YtkjdbndekceffaaGreat
open Tryz
section
open Go.RowKit Go.Shelf
attribute [local go_sem] Oper.semAt_some
abbrev Uk (kid:List Bool):={q:Nat // q<kid.length/\kid[q]? =some false}
def Sz (w0:World) (nd:Array Value) (kv:Value) (base:Nat) (kid:List Bool) (pre:List (Uk kid)) (W:World):Prop:=
 W.heap[w0.heap.size]? =some (.cells nd 163 (0,0))/\W.heap[w0.heap.size+1]? =some (.cells #[kv] 95 (0,0))/\W.heap[w0.heap.size+2]? =some (.cells #[.bool false] 4 (0,0))/\W.heap[w0.heap.size+3]? =some (.cells #[af pre.length] 3 (0,0))/\W.ownsRow base 4 1 kv kid.length (kid.map Value.bool)/\Below w0.heap.size w0 W
theorem NQ {w0:World} {B base:Nat} {w:Array Value} {v:Value} {u:List Bool} (p:w0.heap.size<=B):OwnFrom B (Sz w0 w v base u):=by
 rintro s W W' C ⟨d,f,g,h,i,j⟩ m n;have a:∀(b:Nat) cs t fr,W.heap[b]? =some (.cells cs t fr)->W'.heap[b]? =W.heap[b]? :=fun b cs t fr l=>m.block b (aZ.1 l).1 fun e=>by
  obtain⟨-,o,c,q⟩:=n b e.symm;rw[l]at c;injection c with c;subst c;cases q
 refine⟨(a _ _ _ _ d).trans d,(a _ _ _ _ f).trans f,(a _ _ _ _ g).trans g,(a _ _ _ _ h).trans h,aY i fun A e=>?_,j.grown m j.size fun k e=>bD p (n k e).1⟩;rcases i.2 with⟨rfl,_⟩|⟨z,x,y,rfl,_,r,_⟩
 .cases e
 .simp only[Value.ownBlock,ji]at e;subst e;exact a _ _ _ _ r
theorem IU (F:Fence) (n:Nat) (hF:F.fn 319) (ah:F.fn 343) (N:F.fn 364) (C:F.round=none) (aL:3<=n) (f t d:Int) (i j:Nat) (aI:i≠j) (g m b base:Nat) (a:List Bool) (w:World) (am:a.length=m) (aK:m<=100000) (hi:a[i]? =some false) (O:a[j]? =some false)
  (P:w.ownsRow base 4 1 (au g m b) m (a.map Value.bool)):
  CallsIn F n prog 319 #[Ba 2 i j f t d,au g m b] w (fV w (.bool true)):=by
 have ad:1<=n:=aa;subst am;have X:=ag P;have aH:g<w.heap.size:=(P.lt g rfl).2;refine Ag func319 rfl hF ?_ C;simp only[ntmps319,qN,dY,eZ,Nat.reduceAdd,Nat.reduceSub,qG,qH,qO,qK,fO,mH]
 gi_wp2_with (gi_at_call 343;refine(zP F (n-1) ah C _ _ _ _ _ _ _).mono ?_;rintro e w' ⟨rfl,rfl⟩)
 obtain⟨wk,k⟩:∃wk,wk=((((w.alloc (ll 2 i j f t d)).alloc (.cells #[au g a.length b] 95)).alloc (.cells #[.bool false] 4)).alloc (.cells #[af 0] 3)).alloc (ll 2 i j f t d):=⟨_,rfl⟩;have M:Below w.heap.size w wk:=by rw[k];exact(((((aJ _ w).alloc (aB _) _).alloc aA _).alloc aD _).alloc aD _).alloc aD _
 have aQ:wk.heap.size=w.heap.size+5:=by rw[k];simp
 have s:wk.heap[w.heap.size]? =some (.cells #[.int .u8 2,af i,af j,af f,af t,af 0,af d] 163 (0,0)):=by
  rw[k];exact(bY _ _ _ (by first|(simp;done)|(simp;omega))).trans ((bY _ _ _ (by first|(simp;done)|(simp;omega))).trans ((bY _ _ _ (by first|(simp;done)|(simp;omega))).trans (IG w _ _)))
 have A:wk.heap[w.heap.size+1]? =some (.cells #[au g a.length b] 95 (0,0)):=by
  rw[k];exact(bY _ _ _ aA).trans ((bY _ _ _ aA).trans ((bY _ _ _ aA).trans (Ex w _ _)))
 have y:wk.heap[w.heap.size+2]? =some (.cells #[.bool false] 4 (0,0)):=by
  rw[k];have v:=cB ((w.alloc (ll 2 i j f t d)).alloc (.cells #[au g a.length b] 95)) (.cells #[.bool false] 4);rw[show((w.alloc (ll 2 i j f t d)).alloc (.cells #[au g a.length b] 95)).heap.size=w.heap.size+2 by simp]at v;exact(bY _ _ _ aA).trans ((bY _ _ _ aA).trans v)
 have u:wk.heap[w.heap.size+3]? =some (.cells #[af 0] 3 (0,0)):=by
  rw[k];have v:=cB (((w.alloc (ll 2 i j f t d)).alloc (.cells #[au g a.length b] 95)).alloc (.cells #[.bool false] 4)) (.cells #[af 0] 3);rw[show(((w.alloc (ll 2 i j f t d)).alloc (.cells #[au g a.length b] 95)).alloc (.cells #[.bool false] 4)).heap.size=w.heap.size+3 by simp]at v;exact(bY _ _ _ aA).trans v
 have ao:wk.cell? (ae (w.heap.size+1+1+1+1) 1)=some (af i):=by
  rw[k,ek _ _ _ _ aA];rfl
 have ap:wk.cell? (ae (w.heap.size+1+1+1+1) 2)=some (af j):=by
  rw[k,ek _ _ _ _ aA];rfl
 rw[<-k];have U:Hid (Sz w #[.int .u8 2,af i,af j,af f,af t,af 0,af d] (au g a.length b) base a [] wk):=⟨s,A,y,u,az X.o M,M⟩;have ak:=(fE.1 hi).1;have al:=(fE.1 O).1;refine Ef C ad (gf:=364) (lb:=#[aj (w.heap.size+1+1+1+1)]) rfl N (di func364 aO rfl)
  (FQ (α:=Uk a) (fun x=>(x.1:Int)) ⟨i,ak,hi⟩ ⟨j,al,O⟩ F (n-1) N C aa (w.heap.size+1+1+1+1) wk aa ao ap aA aA) NI.trans (fun W l o av an _ _ _=>zQ (B:=wk.heap.size) aa W l o av an) (aJ _ _) (fun _=>rfl)
  (fun E W=>Sz w #[.int .u8 2,af i,af j,af f,af t,af 0,af d] (au g a.length b) base a E W)
  (fun _ _ _=>False)
  (NQ aa)
  (fun _ _ _ _ _ ar _ _=>ar)
  U.o
  (fun x=>{tmps:=#[Ba 2 i j f t d,au g a.length b,aj w.heap.size,aj (w.heap.size+1),aj (w.heap.size+1+1),aj (w.heap.size+1+1+1),af x.1,Ba 2 i j f t d,.func (.func 364) #[] #[aj (w.heap.size+1+1+1+1)],af x.1,undef,undef,undef,undef,undef,undef,undef,undef,undef,undef,undef,undef,undef,undef,undef,undef,undef,undef,undef,undef,undef,undef,undef,undef,undef,undef,undef,undef,undef,undef,undef,undef,undef],defers:=[]}) ?assign ?body ?done ?stop
 case assign=>
  intro l x W K H
  gi_wp2
  exact H
 case body=>
  rintro l E ⟨q,aN,aq⟩ W ⟨s,A,y,u,L,J⟩ aM;have aw:W.cell? (ae (w.heap.size+1) 0)=some (au g a.length b):=aG A;have ab:W.cell? (ae (w.heap.size+1+1+1) 0)=some (af E.length):=aG u;have f3:W.frozen? (ae (w.heap.size+1+1+1) 0)=false:=aG u;have z:=L.cellAt q aa;rw[iy,aq]at z;simp only[fP]at z;have aP:(q:Int)<(a.length:Int):=aa;have ay:decide ((q:Int)<0)=false:=aA;have aE:decide (a.length<=q)=false:=aD;have Q:=ag s;have T:=ag A;have R:=ag y;have S:=ag u;have Y:=ag L;have G:=ag J
  gi_wp2
  refine⟨xH _ _ _,fun o=>dz (aC (by first|(simp;done)|(simp;omega))),(aC (by first|(simp;done)|(simp;omega))).trans Q.o,(aC (by first|(simp;done)|(simp;omega))).trans T.o,(aC (by first|(simp;done)|(simp;omega))).trans R.o,?_,aY Y.o (fun ac e=>aC (by have v:g=ac:=(by injection e);simp;omega)),G.o.setCell (p:=(ae (w.heap.size+1+1+1) 0)) aD _⟩;rw[dC W (w.heap.size+3) 0 _ _ _ S.o];simp
 case done=>
  rintro D aT W aF rfl ⟨s,A,y,u,L,J⟩ H;have n0:W.cell? (ae w.heap.size 0)=some (.int .u8 2):=aG s;have aR:W.cell? (ae w.heap.size 1)=some (af i):=aG s;have aS:W.cell? (ae w.heap.size 2)=some (af j):=aG s;have Z:W.cell? (ae (w.heap.size+1+1) 0)=some (.bool false):=aG y;have f2:W.frozen? (ae (w.heap.size+1+1) 0)=false:=aG y;have ab:W.cell? (ae (w.heap.size+1+1+1) 0)=some (af 2):=aG u;have ax:((i:Int)!=(j:Int))=true:=aD;have V:=ag H;have G:=ag J
  gi_wp2
  have I:=(xH W (ae (w.heap.size+1+1) 0) (.bool true)).same D _ V.o rfl;refine⟨aA,.inl ⟨_,_,rfl,Az I,?_⟩⟩;have ai:=cell_kept (World.cell?_setCell_same' W (ae (w.heap.size+1+1) 0) (.bool true) (by rw[Z];rfl)) (AJ _ D (.deferred none)) (fun r e=>by cases e;exact⟨_,I,rfl⟩);refine⟨.bool true,?_,rfl,(G.o.setCell (p:=(ae (w.heap.size+1+1) 0)) (by first|(simp;done)|(simp;omega)) _).trans (belowK_b (w:=w) (aB _) _ D _ _ aa I rfl rfl)⟩;simp[results,f319,go_sem,ai]
 case stop=>
  rintro D c E W _ _ h _;exact h.elim
theorem Qu (f t c:Int) (i j:Nat) (d:i≠j) (g m b base:Nat) (a:List Bool) (w:World) (h:a.length=m) (k:m<=100000) (hi:a[i]? =some false) (e:a[j]? =some false)
  (l:w.ownsRow base 4 1 (au g m b) m (a.map Value.bool)):
  aK 319 #[Ba 2 i j f t c,au g m b] w (fV w (.bool true)):=by
 refine(x9 (n:=3)).1 ?_;exact IU _ 3 trivial trivial trivial rfl ai f t c i j d g m b base a w h k hi e l
def SA (w0:World) (nd:Array Value) (pre:List (Fin 0)) (W:World):Prop:=
 W.heap[w0.heap.size]? =some (.cells nd 163 (0,0))/\W.heap[w0.heap.size+2]? =some (.cells #[.bool false] 4 (0,0))/\W.heap[w0.heap.size+3]? =some (.cells #[af 0] 3 (0,0))/\Below w0.heap.size w0 W
theorem NR {w0:World} {B:Nat} {p:Array Value} (m:w0.heap.size<=B):OwnFrom B (SA w0 p):=by
 rintro s W W' q ⟨d,f,g,h⟩ j l;have c:∀(b:Nat) cs t fr,W.heap[b]? =some (.cells cs t fr)->W'.heap[b]? =W.heap[b]? :=fun b cs t fr i=>j.block b (aZ.1 i).1 fun e=>by
  obtain⟨-,o,a,n⟩:=l b e.symm;rw[i]at a;injection a with a;subst a;cases n
 exact⟨(c _ _ _ _ d).trans d,(c _ _ _ _ f).trans f,(c _ _ _ _ g).trans g,h.grown j h.size fun k e=>bD m (l k e).1⟩
theorem LD (F:Fence) (n:Nat) (hF:F.fn 319) (H:F.fn 343) (v:F.fn 364) (j:F.round=none) (T:3<=n) (f t a:Int) (d:Value) (S:d.oneCell'=true) (w:World):
  CallsIn F n prog 319 #[Ba 1 (-1) (-1) f t a,d] w (fV w (.bool true)):=by
 have E:1<=n:=aa;refine Ag func319 rfl hF ?_ j;simp only[ntmps319,qN,dY,eZ,Nat.reduceAdd,Nat.reduceSub,qG,qH,qO,qK,fO,mH]
 gi_wp2_with (gi_at_call 343;refine(zP F (n-1) H j _ _ _ _ _ _ _).mono ?_;rintro e w' ⟨rfl,rfl⟩)
 obtain⟨wk,b⟩:∃wk,wk=((((w.alloc (ll 1 (-1) (-1) f t a)).alloc (.cells #[d] 95)).alloc (.cells #[.bool false] 4)).alloc (.cells #[af 0] 3)).alloc (ll 1 (-1) (-1) f t a):=⟨_,rfl⟩;have G:Below w.heap.size w wk:=by rw[b];exact(((((aJ _ w).alloc (aB _) _).alloc aA _).alloc aD _).alloc aD _).alloc aD _
 have U:wk.heap.size=w.heap.size+5:=by rw[b];simp
 have q:wk.heap[w.heap.size]? =some (.cells #[.int .u8 1,af (-1),af (-1),af f,af t,af 0,af a] 163 (0,0)):=by
  rw[b];exact(bY _ _ _ (by first|(simp;done)|(simp;omega))).trans ((bY _ _ _ (by first|(simp;done)|(simp;omega))).trans ((bY _ _ _ (by first|(simp;done)|(simp;omega))).trans ((bY _ _ _ (by first|(simp;done)|(simp;omega))).trans (cB w _))))
 have i:wk.heap[w.heap.size+2]? =some (.cells #[.bool false] 4 (0,0)):=by
  rw[b];have g:=cB ((w.alloc (ll 1 (-1) (-1) f t a)).alloc (.cells #[d] 95)) (.cells #[.bool false] 4);rw[show((w.alloc (ll 1 (-1) (-1) f t a)).alloc (.cells #[d] 95)).heap.size=w.heap.size+2 by simp]at g;exact(bY _ _ _ aA).trans ((bY _ _ _ aA).trans g)
 have s:wk.heap[w.heap.size+3]? =some (.cells #[af 0] 3 (0,0)):=by
  rw[b];have g:=cB (((w.alloc (ll 1 (-1) (-1) f t a)).alloc (.cells #[d] 95)).alloc (.cells #[.bool false] 4)) (.cells #[af 0] 3);rw[show(((w.alloc (ll 1 (-1) (-1) f t a)).alloc (.cells #[d] 95)).alloc (.cells #[.bool false] 4)).heap.size=w.heap.size+3 by simp]at g;exact(bY _ _ _ aA).trans g
 have M:wk.cell? (ae (w.heap.size+1+1+1+1) 1)=some (af (-1)):=by
  rw[b,ek _ _ _ _ aA];rfl
 have N:wk.cell? (ae (w.heap.size+1+1+1+1) 2)=some (af (-1)):=by
  rw[b,ek _ _ _ _ aA];rfl
 rw[<-b];have z:Hid (SA w #[.int .u8 1,af (-1),af (-1),af f,af t,af 0,af a] [] wk):=⟨q,i,s,G⟩;refine Ef j E (gf:=364) (lb:=#[aj (w.heap.size+1+1+1+1)]) rfl v (di func364 aO rfl)
  (Kh (α:=Fin 0) (fun x=>(x.1:Int)) F (n-1) v j aa (w.heap.size+1+1+1+1) wk aa M N) NI.trans (fun W l o P L _ _ _=>zQ (B:=wk.heap.size) aa W l o P L) (aJ _ _) (fun _=>rfl)
  (fun u W=>SA w #[.int .u8 1,af (-1),af (-1),af f,af t,af 0,af a] u W)
  (fun _ _ _=>False)
  (NR aa)
  (fun _ _ _ _ _ O _ _=>O)
  z.o
  (fun x=>{tmps:=#[Ba 1 (-1) (-1) f t a,d,aj w.heap.size,aj (w.heap.size+1),aj (w.heap.size+1+1),aj (w.heap.size+1+1+1),af x.1,Ba 1 (-1) (-1) f t a,.func (.func 364) #[] #[aj (w.heap.size+1+1+1+1)],af x.1,undef,undef,undef,undef,undef,undef,undef,undef,undef,undef,undef,undef,undef,undef,undef,undef,undef,undef,undef,undef,undef,undef,undef,undef,undef,undef,undef,undef,undef,undef,undef,undef,undef],defers:=[]}) ?assign ?body ?done ?stop
 case assign=>
  intro l x W K k
  gi_wp2
  exact k
 case body=>
  intro l u x W _ h;exact absurd x.2 (kC _)
 case done=>
  rintro D V W R rfl ⟨q,i,s,I⟩ k;have n0:W.cell? (ae w.heap.size 0)=some (.int .u8 1):=aG q;have C:W.cell? (ae (w.heap.size+1+1) 0)=some (.bool false):=aG i;have f2:W.frozen? (ae (w.heap.size+1+1) 0)=false:=aG i;have Q:W.cell? (ae (w.heap.size+1+1+1) 0)=some (af 0):=aG s;have A:=ag k;have y:=ag I
  gi_wp2
  have m:=(xH W (ae (w.heap.size+1+1) 0) (.bool true)).same D _ A.o rfl;refine⟨aA,.inl ⟨_,_,rfl,Az m,?_⟩⟩;have J:=cell_kept (World.cell?_setCell_same' W (ae (w.heap.size+1+1) 0) (.bool true) (by rw[C];rfl)) (AJ _ D (.deferred none)) (fun r e=>by cases e;exact⟨_,m,rfl⟩);refine⟨.bool true,?_,rfl,(y.o.setCell (p:=(ae (w.heap.size+1+1) 0)) (by first|(simp;done)|(simp;omega)) _).trans (belowK_b (w:=w) (aB _) _ D _ _ aa m rfl rfl)⟩;simp[results,f319,go_sem,J]
 case stop=>
  rintro D c u W _ _ h _;exact h.elim
theorem SB (f t b:Int) (a:Value) (c:a.oneCell'=true) (w:World):
  aK 319 #[Ba 1 (-1) (-1) f t b,a] w (fV w (.bool true)):=by
 refine(x9 (n:=3)).1 ?_;exact LD _ 3 trivial trivial trivial rfl ai f t b a c w
end
section
open Go.RowKit
def jd (x y:Int):Int:=if x<y then -1 else if y<x then 1 else 0
theorem Qv (x y:Int) (w:World):aK 229 #[af x,af y] w fun e w'=>e=.returned (af (jd x y))/\w'=w:=by
 unfold jd;rcases Int.lt_trichotomy x y with h|rfl|h
 .rw[aN h];go_enter func229,ntmps229;go_wp2;go_ret;exact⟨rfl,rfl⟩
 .rw[aM (AX _),aM (AX _)];go_enter func229,ntmps229;go_wp2;go_ret;exact⟨rfl,rfl⟩
 .rw[aM aa,aN h];go_enter func229,ntmps229;go_wp2;go_ret;exact⟨rfl,rfl⟩
theorem EH (x y:Int) (w:World):aK 202 #[ay x,ay y] w fun e w'=>e=.returned (af (jd x y))/\w'=w:=by
 unfold jd;rcases Int.lt_trichotomy x y with h|rfl|h
 .rw[aN h];go_enter func202,ntmps202;go_wp2;go_ret;exact⟨rfl,rfl⟩
 .rw[aM (AX _),aM (AX _)];go_enter func202,ntmps202;go_wp2;go_ret;exact⟨rfl,rfl⟩
 .rw[aM aa,aN h];go_enter func202,ntmps202;go_wp2;go_ret;exact⟨rfl,rfl⟩
def bX (p:Pt):List Value:=[.int .i64 p.1,.int .i64 p.2.1,.int .u32 p.2.2]
theorem bg (p:Pt):(bX p).length=3:=rfl
theorem nG (p:Pt):∀u∈bX p,u.oneCell'=true:=by intro u hu;simp[bX]at hu;rcases hu with rfl|rfl|rfl<;>rfl
abbrev iT (x y i:Int):Value:=.agg #[af x,af y,ay i]
def xz (w w':World):Prop:=∃q os,w'=Sort.grow (w.drewN q) os
theorem xz.refl (w:World):xz w w:=⟨0,#[],by rw[Sort.grow_empty];rfl⟩
theorem xz.alloc {w w':World} (h:xz w w') (o:Obj):xz w (w'.alloc o):=by
 obtain⟨q,os,rfl⟩:=h;exact⟨q,os.push o,by simp[Sort.grow,World.alloc,World.drewN]⟩
theorem xz.drew {w w':World} (h:xz w w'):xz w w'.drew:=by
 obtain⟨q,os,rfl⟩:=h;exact⟨q+1,os,rfl⟩
theorem xz.below {w w':World} (h:xz w w') {B:Nat} (a:B<=w.heap.size):Below B w w':=by
 obtain⟨q,os,rfl⟩:=h;refine⟨rfl,rfl,rfl,by simp[Sort.grow,World.drewN],fun k b=>?_⟩;show(w.heap++os)[k]? =_;rw[xB aa]
def iE (p q:Pt):Int:=if jd p.1 q.1=0 then jd p.2.2 q.2.2 else jd p.1 q.1
theorem qf (p q:Pt):iE p q<0↔kE p q:=by
 unfold iE kE jd
 repeat' split
 all_goals omega
theorem Qw (p q:Pt):iE p q=0↔p.1=q.1/\p.2.2=q.2.2:=by
 unfold iE jd
 repeat' split
 all_goals omega
theorem SC (a b:Int) (w:World) (n:Nat) (f:w.cell? (ae n 0)=some (af a)) (g:w.cell? (ae n 1)=some (af b)):
  aK 228 #[au n 2 2] w fun e w'=>e=.returned (af (if a=0 then b else a))/\w'=w:=by
 by_cases c:a=0
 .subst c;rw[aN rfl];by_cases d:b=0
  .subst d;go_enter func228,ntmps228;go_wp2
   go_loopw [7] (fun i wr=>∃k:Nat,i=.int .i64 k/\k<=2/\wr=w) (fun i _=>2-(intOf i).toNat)
   case atStart=>exact⟨0,rfl,aa,rfl⟩
   case round=>
    obtain⟨k,rfl,j,rfl⟩:=hrel;by_cases h:k<2
    .have l:wr.cell? (ae n k)=some (af 0):=by
      obtain rfl|rfl:k=0\/k=1:=aa
      .exact f
      .exact g
     go_wp2;go_roundw
     case rel=>exact⟨k+1,by go_num,aa,by first|rfl|trivial⟩
     case measure=>exact dU
    .go_wp2;go_ret;exact⟨rfl,rfl⟩
  .have hd:(b !=0)=true:=by simp[d]
   go_enter func228,ntmps228;go_wp2
   go_loopw [7] (fun i wr=>∃k:Nat,i=.int .i64 k/\k<=1/\wr=w) (fun i _=>2-(intOf i).toNat)
   case atStart=>exact⟨0,rfl,aa,rfl⟩
   case round=>
    obtain⟨k,rfl,j,rfl⟩:=hrel;by_cases h:k<1
    .obtain rfl:k=0:=aa;go_wp2;go_roundw
     case rel=>exact⟨1,by go_num,aa,by first|rfl|trivial⟩
     case measure=>simp[intOf]
    .obtain rfl:k=1:=aa;go_wp2;go_ret;exact⟨rfl,rfl⟩
 .rw[aM c];have hd:(a !=0)=true:=by simp[c]
  go_enter func228,ntmps228;go_wp2
  go_loopw [7] (fun i wr=>i=.int .i64 0/\wr=w) (fun i _=>2-(intOf i).toNat)
  case atStart=>exact⟨rfl,rfl⟩
  case round=>
   obtain⟨rfl,rfl⟩:=hrel;go_wp2;go_ret;exact⟨rfl,rfl⟩
theorem VR (a b x y:Int) (w:World):aK 152 #[af a,af b,ay x,ay y] w fun e w'=>e=.returned (af (if jd a b=0 then jd x y else jd a b))/\xz w w':=by
 have c:=ag (fun W=>Qv a b W);have d:=ag (fun W=>EH x y W);generalize jd a b=p at*;generalize jd x y=q at*;go_enter func152,ntmps152
 go_wp2_with fail
 refine(c.o _).mono ?_;rintro e w1 ⟨rfl,rfl⟩
 go_wp2_with fail
 refine(d.o _).mono ?_;rintro e w1 ⟨rfl,rfl⟩
 go_wp2_with fail
 refine(SC p q _ _ (by rw[ek _ _ _ _ rfl];rfl) (by rw[ek _ _ _ _ rfl];rfl)).mono ?_;rintro e w1 ⟨rfl,rfl⟩;go_wp2
 all_goals
  go_ret;exact⟨rfl,(xz.refl _).alloc _⟩
theorem xz.trans {w w1 w2:World} (h:xz w w1) (c:xz w1 w2):xz w w2:=by
 obtain⟨q,os,rfl⟩:=h;obtain⟨b,a,rfl⟩:=c;refine⟨q+b,os++a,?_⟩;rw[<-Sort.grow_grow];show Sort.grow (Sort.grow ((w.drewN q).drewN b) os) a=_;rw[fZ]
theorem SE (p q:Pt) (w:World):aK 94 #[iT p.1 p.2.1 p.2.2,iT q.1 q.2.1 q.2.2] w fun e w'=>e=.returned (af (iE p q))/\xz w w':=by
 have a:=ag (fun W=>VR p.1 q.1 p.2.2 q.2.2 W);unfold iE;generalize(if jd p.1 q.1=0 then jd p.2.2 q.2.2 else jd p.1 q.1)=r at*;go_enter func94,ntmps94
 go_wp2_with fail
 refine(a.o _).mono ?_;rintro e w1 ⟨rfl,h⟩;go_wp2;go_ret;exact⟨rfl,(((xz.refl _).alloc _).alloc _).trans h⟩
theorem IV:gF 94:=di func94 aO rfl
end
section
open Go.RowKit Go.Sort Go.Shelf Go.Lib
section
variable {α:Type} [Inhabited α] {enc:α->List Value} {k:Nat}
theorem wF (a:∀x,(enc x).length=k) (h:0<k) (l:List α):(flatK enc k l.toArray).toList=l.flatMap enc:=by
 apply xM;intro t;by_cases ht:t<l.length*k
 .have b:t/k<l.length:=Nat.div_lt_of_lt_mul (by rw[x8];exact ht);have c:t%k<k:=pU _ h;have d:=flat_get a l (t/k) b (t%k) c;rw[Nat.div_add_mod' t k]at d;rw[d];have e:=get_flatK enc k l.toArray t (aP ht);have f:t<(flatK enc k l.toArray).size:=aP ht;rw[Ip,Array.getElem?_eq_getElem f];rw[rQ _ t f]at e;rw[e];have g:t%k<(enc l[t/k]).length:=by rw[a];exact c
  rw[cz g];simp[b,g]
 .rw[ow aD,ow (by rw[gm a];omega)]
theorem qR (i:∀x,(enc x).length=k) (m:0<k) {w:World} {base g c n:Nat} {e:TypeId} {l:List α} (o:l.length=n) (h:w.ownsRow base e k (au g n c) n (l.flatMap enc)):HoldsK enc k w g 0 l.toArray:=by
 intro j a;have f:j<n*k:=by rw[<-o];simpa using a
 have b:=h.cellAt j f;have d:=h.frozenAt j;rw[jL];refine⟨?_,d⟩;rw[b,<-wF i m,Ip,Array.getElem?_eq_getElem a];rw[rQ (flatK enc k l.toArray) j a];rfl
theorem uq (p:∀x,(enc x).length=k) (z:0<k) {w:World} {base g c n:Nat} {e:TypeId} {l l':List α} (r:l'.length=n) (h:w.ownsRow base e k (au g n c) n (l.flatMap enc)) (q:Nat) (os:Array Obj):
  (Sort.grow (putRowK enc k (Sort.ahead w q) g 0 l'.toArray) os).ownsRow base e k (au g n c) n (l'.flatMap enc)/\w.grownBy (Sort.grow (putRowK enc k (Sort.ahead w q) g 0 l'.toArray) os) (some g):=by
 rcases h.2 with⟨f,_⟩|⟨J,H,d,f,v,o,m,B,D,ht⟩
 .cases f
 .injection f with a I s;injection a with a;injection a with a _ _;subst a s;have A:g<w.heap.size:=(aZ.1 o).1;have key:(Sort.grow (putRowK enc k (Sort.ahead w q) g 0 l'.toArray) os).heap[g]? =some (.cells (Sort.putCells id 0 (flatK enc k l'.toArray) d) e (0,0)):=by
   show((w.heap.modify g (Sort.onCells (Sort.putCells id 0 (flatK enc k l'.toArray))))++os)[g]? =_;rw[xB (aP A),xG,aN rfl,o];rfl
  have E:(Sort.putCells id 0 (flatK enc k l'.toArray) d).size=c*k:=by simp[Sort.putCells,D]
  have K:n*k<=c*k:=o8 _ m;have G:(Sort.putCells id 0 (flatK enc k l'.toArray) d).toList.take (n*k)=l'.flatMap enc:=by
   rw[<-wF p z];have u:(flatK enc k l'.toArray).size=n*k:=by simp[r]
   generalize flatK enc k l'.toArray=F at*;apply xM;intro j;rw[uI];by_cases i:j<n*k
   .rw[aN i];have y:j<d.size:=aa;simp[Sort.putCells,y,u,i]
   .rw[aM i];exact(ow aD).symm
  refine⟨⟨by rw[gm p,r],.inr ⟨g,c,_,rfl,v,key,m,B,E,G⟩⟩,?_⟩;refine⟨rfl,rfl,rfl,?_,fun b t C=>?_⟩
  .show w.heap.size<=((w.heap.modify g _)++os).size;simp
  .show((w.heap.modify g _)++os)[b]? =_;rw[xB (aP t),xG,aM (fun e=>C (by rw[e]))]
theorem si {d d':Array α} (h:PermIn 0 d.size d d'):d'.toList.Perm d.toList:=by
 have⟨b,_,a⟩:=h;rw[show d.extract 0 d.size=d by simp,show d'.extract 0 d.size=d' by rw[<-b];simp]at a;exact a
theorem mV {P:Program} {p:Ren} (L:SlLaysF0.n6 P p) (s:∀x,(enc x).length=k) (B:0<k) (F:∀w,(isAgg (p.t 24)).run P w=.ok true w) (T:∀w,(Go.sizeOf (p.t 24)).run P w=.ok k w) (b:∀x,∀v∈enc x,v.oneCell'=true)
  (o:α->α->Int) (H:SWO (ltOf o)) (f:Nat) (cb:Array Value) (G:∀args w,(callFunc f args).run P w=.ok (.enter f args) w)
  (I:∀x y W,Calls P f (#[.agg (enc x).toArray,.agg (enc y).toArray]++cb) W fun e w'=>e=.returned (af (o x y))/\∃q S,w'=Sort.grow (W.drewN q) S)
  {w:World} {base g c n:Nat} {e:TypeId} {l:List α} (d:l.length=n) (O:n<4611686018427387904) (h:w.ownsRow base e k (au g n c) n (l.flatMap enc)):
  Calls P (p.f 6) #[au g n c,.func (.func f) #[] cb] w fun u w'=>
   u=.returned (.tuple #[])/\∃l':List α,l'.Perm l/\l'.Pairwise (fun x y=>¬o y x<0)/\w'.ownsRow base e k (au g n c) n (l'.flatMap enc)/\w.grownBy w' (some g):=by
 have N:g<w.heap.size:=by
  rcases h.2 with⟨b,_⟩|⟨Z,U,V,b,ab,K,_⟩
  .cases b
  .injection b with a X Y;injection a with a;injection a with a _ _;subst a;exact(aZ.1 K).1
 have z:=AnyQ.slices_SortFunc L k F T enc s b o H f cb g 0 c l.toArray w G (fun m os dk _ x y=>I x y _) (qR s B d h) N (by simpa[d]using O);rw[show l.toArray.size=n by simpa using d]at z;refine z.mono ?_;rintro u w' ⟨J,d',m,os,hp,E,rfl⟩;rw[show n=l.toArray.size by simpa using d.symm]at hp E;have D:=si hp;have C:d'.toList.length=n:=by rw[D.length_eq];simpa using d
 have⟨Q,R⟩:=uq s B C h m os;refine⟨J,d'.toList,D,?_,Q,R⟩;rw[gQ];intro i j hi A M;have ac:d'.size=n:=aP C;have r:=E i j (aX _) M (by simp at A |-;omega);simp at hi A;rw[rQ d' j aa,rQ d' i aa]at r;unfold ltOf at r;simpa using r
end
instance:Inhabited Pt:=⟨(0,0,0)⟩
theorem yn {α:Type} {a:α->α->Int} {R:α->α->Prop} (h:∀x y,a x y<0↔R x y) (hi:∀x,¬R x x) (ht:∀x y z,R x y->R y z->R x z) (b:∀x y z,¬R x y->¬R y z->¬R x z):SWO (ltOf a) where
 irrefl x:=by unfold ltOf;rw[iI,h];exact hi x
 trans x y z h1 h2:=by unfold ltOf at*;rw[decide_eq_true_iff,h]at*;exact ht x y z h1 h2
 ntrans x y z h1 h2:=by unfold ltOf at*;rw[iI,h]at*;exact b x y z h1 h2
theorem Vl:SWO (ltOf iE):=yn qf sU (fun _ _ _=>oH) (fun x y z=>by unfold kE;omega)
theorem Bh {B g:Nat} {w w':World} (h:w.grownBy w' (some g)) (a:B<=w.heap.size) (b:B<=g):Below B w w':=FE h a b
theorem oN (a:Option Addr) (l:List Pt) (n c:Nat) (w:World) (k:l.length=n) (h:bQ bX 3 w a l) (m:n<=1000000):
  aK 91 #[.slice a n c] w fun e w'=>∃v,e=.returned v/\w'.ownsRow w.heap.size 29 3 v n (l.flatMap bX)/\Below w.heap.size w w':=by
 subst k;have o:∀(w:World) (a:Option Addr) (n c n' d:Nat),(binOp .eql 22 (.slice a n c) (.slice none n' d)).run prog w=.ok (.bool a.isNone) w:=fun w a n c n' d=>Ea w _ _ a n c n' d underlying22;cases a with
 |none=>
  have i:l=[]:=by
   rcases h with h|⟨b,off,h,_⟩
   .exact h
   .cases h
  subst i;go_enter func91,ntmps91;go_wp2;go_ret;exact⟨_,rfl,dw _ _ _ _,aJ _ _⟩
 |some ad=>
  have f:=Am (e:=29) (size:=3) w #[] 0 (aB _) (aX _) rfl;have h':bQ bX 3 (w.alloc (.cells #[] 29)) (some ad) l:=h.below ((aJ _ _).alloc (aB _) _);go_enter func91,ntmps91
  go_wp2_with (at_builtin;refine iO pV bg nG w.heap.size f h' rfl _ _ rfl rfl c rfl dD aa aA ?_;intro p w' g j)
  go_ret;rw[jL,fO]at g;exact⟨_,rfl,g,dB ((aJ _ _).alloc (aB _) _) f j aA (aB _)⟩
theorem F6 {l l':List Pt} (hu:(ids l).Nodup) (hp:l'.Perm l) (g:l'.Pairwise fun x y=>¬iE y x<0):l'=eP l:=by
 refine Kg hu ?_ fun p=>hp.mem_iff;have c:(ids l').Nodup:=(hp.map _).nodup_iff.2 hu;have d:l'.Pairwise fun p q=>p.2.2≠q.2.2:=dA.1 c;refine(g.and d).imp fun{a b} f=>?_;have⟨e,h⟩:=f;rw[qf]at e;unfold kE at*;omega
theorem Kn {w:World} {base g c n:Nat} {l:List Pt} (i:l.length=n) (k:n<4611686018427387904) (h:w.ownsRow base 29 3 (au g n c) n (l.flatMap bX)) (hu:(ids l).Nodup):
  aK 93 #[au g n c,.func (.func 94) #[] #[]] w fun e w'=>
   e=.returned (.tuple #[])/\w'.ownsRow base 29 3 (au g n c) n ((eP l).flatMap bX)/\w.grownBy w' (some g):=by
 have a:=mV Tryz.Iy bg ai isAgg29 sizeOf29 nG iE Vl 94 #[] IV (fun x y W=>SE x y W) i k h;change aK 93 _ _ _ at a;refine a.mono ?_;rintro e w' ⟨d,l',hp,j,b,f⟩;rw[F6 hu hp j]at b;exact⟨d,b,f⟩
theorem qg (p:Option Addr) (a:Nat) (b:Value) (w:World):
  aK 93 #[.slice p 0 a,b] w fun e w'=>e=.returned (.tuple #[])/\w'=w:=Ig Tryz.Iy p a b w
theorem NS {w:World} {base n:Nat} {v:Value} {l:List Pt} (b:l.length=n) (k:n<4611686018427387904) (h:w.ownsRow base 29 3 v n (l.flatMap bX)) (hu:(ids l).Nodup) (d:base<=w.heap.size):
  aK 93 #[v,.func (.func 94) #[] #[]] w fun e w'=>
   e=.returned (.tuple #[])/\w'.ownsRow base 29 3 v n ((eP l).flatMap bX)/\Below base w w':=by
 rcases h.2 with⟨rfl,c⟩|⟨g,m,o,rfl,f,_⟩
 .subst c;obtain rfl:l=[]:=gX b;refine(qg none 0 _ w).mono ?_;rintro e w' ⟨a,rfl⟩;exact⟨a,by simpa[eP]using h,aJ _ _⟩
 .refine(Kn b k h hu).mono ?_;rintro e w' ⟨a,j,i⟩;exact⟨a,j,Bh i d f⟩
theorem SF {w:World} {base n:Nat} {v:Value} {l:List Pt} (b:l.length=n) (o:n<=1000000) (h:w.ownsRow base 29 3 v n (l.flatMap bX)):
  aK 215 #[v] w fun e w'=>e=.returned (.tuple #[])/\w'.ownsRow base 29 3 v n (l.reverse.flatMap bX)/\w.grownBy w' v.ownBlock:=by
 rcases h.2 with⟨rfl,f⟩|⟨g,d,i,rfl,j,_⟩
 .subst f;obtain rfl:l=[]:=gX b;have a:=AnyQ.slices_Reverse_empty Tryz.RO none 0 w;change aK 215 _ _ _ at a;refine a.mono ?_;rintro e w' ⟨c,rfl⟩;exact⟨c,aP h,World.grownBy.refl _ _⟩
 .have a:=AnyQ.slices_Reverse Tryz.RO 3 isAgg29 sizeOf29 bX bg nG g 0 d l.toArray w (qR bg ai b h) aD;change aK 215 _ _ _ at a;rw[show l.toArray.size=n by simpa using b]at a;refine a.mono ?_;rintro e w' ⟨c,m,rfl⟩;have k:=uq (l':=l.reverse) bg ai (aP b) h m #[];rw[Sort.grow_empty]at k;rw[show l.toArray.reverse=l.reverse.toArray by simp];exact⟨c,k.1,k.2⟩
end
section
open Go.RowKit Go.Sort Go.Shelf Go.Lib Go.Maps
attribute [local go_sem] Oper.semAt_some
theorem NT (a:Nat) (c:a<=100000) (w:World):
  aK 231 #[af a] w fun e w'=>e=.returned (.tuple #[aj w.heap.size,af 0])/\w'=w.alloc (.cells #[af a,aL,aL,.bool true] 372):=by
 have b:decide ((a:Int)<0)=false:=aA;refine calls_of_wp func231 rfl ?_;simp only[ntmps231,qN,dY,eZ,Nat.reduceAdd,Nat.reduceSub,qG,qH,qO,qK,fO,mH];go_wp2;go_ret2;exact⟨rfl,rfl⟩
theorem Qx (a:Option Addr) (l:List Nd) (n c:Nat) (w:World) (k:l.length=n) (h:bQ oK 7 w a l) (m:n<=1000000):
  aK 292 #[.slice a n c] w fun e w'=>∃v,e=.returned v/\w'.ownsRow w.heap.size 163 7 v n (l.flatMap oK)/\Below w.heap.size w w':=by
 subst k;have o:∀(w:World) (a:Option Addr) (n c n' d:Nat),(binOp .eql 141 (.slice a n c) (.slice none n' d)).run prog w=.ok (.bool a.isNone) w:=fun w a n c n' d=>Ea w _ _ a n c n' d underlying141;cases a with
 |none=>
  have i:l=[]:=by
   rcases h with h|⟨b,off,h,_⟩
   .exact h
   .cases h
  subst i;go_enter func292,ntmps292;go_wp2;go_ret;exact⟨_,rfl,dw _ _ _ _,aJ _ _⟩
 |some ad=>
  have f:=Am (e:=163) (size:=7) w #[] 0 (aB _) (aX _) rfl;have h':bQ oK 7 (w.alloc (.cells #[] 163)) (some ad) l:=h.below ((aJ _ _).alloc (aB _) _);go_enter func292,ntmps292
  go_wp2_with (at_builtin;refine iO Sq jq Ki w.heap.size f h' rfl _ _ rfl rfl c rfl dD aa aA ?_;intro p w' g j)
  go_ret;rw[jL,fO]at g;exact⟨_,rfl,g,dB ((aJ _ _).alloc (aB _) _) f j aA (aB _)⟩
theorem IW (k:Nat) (b:Nat) (a:Option Addr) (nc:Nat) (j:Value) (l:List Nd) (w:World) (d:w.heap[b]? =some (.cells #[af k,.slice a l.length nc,j,.bool true] 372 (0,0))) (h:bQ oK 7 w a l) (g:l.length<=1000000):
  aK 233 #[aj b] w fun e w'=>∃v,e=.returned v/\w'.ownsRow w.heap.size 163 7 v l.length (l.flatMap oK)/\Below w.heap.size w w':=by
 have m:w.cell? (ae b 1)=some (.slice a l.length nc):=aG d;have c:=Qx a l l.length nc w rfl h g;go_enter func233,ntmps233
 go_wp2_with (go_at_call 292;refine c.mono ?_;rintro e w' ⟨v,rfl,i,f⟩)
 go_ret;exact⟨_,rfl,i,f⟩
end
section
open Go.RowKit Go.Sort Go.Shelf Go.Lib Go.Maps
attribute [local irreducible] wpQuiet
attribute [local go_sem] Oper.eF
structure gL (w:World) (b base most:Nat) (nv kv:Value) (l:List Nd) (kid:List Bool):Prop where
 blk:w.heap[b]? =some (.cells #[af most,nv,kv,.bool true] 372 (0,0))
 jc:w.ownsRow base 163 7 nv l.length (l.flatMap oK)
 row:w.ownsRow base 4 1 kv l.length (kid.map Value.bool)
 len:kid.length=l.length
def kF (b:Nat) (nv kv:Value) (k:Nat):Prop:=k=b\/nv.ownBlock=some k\/kv.ownBlock=some k
def qU (w:World) (b base most:Nat) (nv kv:Value) (l:List Nd) (kid:List Bool) (w':World):Prop:=
 ∃VS VT,gL w' b base most VS VT l kid/\(∀k,kF b VS VT k->kF b nv kv k\/w.heap.size<=k)/\ax (kF b nv kv) w w'
theorem gL.lt {w:World} {b base f:Nat} {c a:Value} {l:List Nd} {d:List Bool} (h:gL w b base f c a l d):∀k,kF b c a k->k<w.heap.size:=by
 rintro k (rfl|e|e)
 .exact(aZ.1 h.blk).1
 .exact(h.jc.lt k e).2
 .exact(h.row.lt k e).2
theorem gL.kept {w w':World} {b base g:Nat} {d c:Value} {l:List Nd} {f:List Bool} (h:gL w b base g d c l f) {S:Nat->Prop} (K:ax S w w') (hS:∀k,kF b d c k->¬S k):gL w' b base g d c l f:=
 ⟨bz K h.blk (hS b (.inl rfl)),aT h.jc K (fun a e=>hS a (.inr (.inl e))),aT h.row K (fun a e=>hS a (.inr (.inr e))),h.len⟩
theorem qU.trans {w w1 w2:World} {b base i:Nat} {c a j f:Value} {g:List Nd} {e:List Bool} (d:∀k,kF b j f k->kF b c a k\/w.heap.size<=k) (K:ax (kF b c a) w w1) (h:qU w1 b base i j f g e w2):qU w b base i c a g e w2:=by
 have⟨o,n,A,m,K2⟩:=h;refine⟨o,n,A,fun k l=>?_,?_⟩
 .rcases m k l with h9|h9
  .exact d k h9
  .have:=K.size;exact .inr aa
 .exact((K.mono (fun k h=>.inl h)).trans (K2.mono (fun k h9=>d k h9))).strip
theorem fF {w:World} {base:Nat} {e:TypeId} {sz:Nat} {v:Value} {n:Nat} {xs:List Value} (h:w.ownsRow base e sz v n xs):∃a c,v=.slice a n c:=by
 rcases h.2 with⟨rfl,rfl⟩|⟨g,b,d,rfl,_⟩<;>exact⟨_,_,rfl⟩
def Bi (b x:Nat) (nv kv:Value) (k L R f t it:Int) (W:World):Prop:=
 W.cell? (ae b 1)=some (nv)/\W.cell? (ae b 2)=some (kv)/\W.cell? (ae x 0)=some (.int .u8 k)/\W.cell? (ae x 1)=some (af L)/\W.cell? (ae x 2)=some (af R)/\W.cell? (ae x 3)=some (af f)/\W.cell? (ae x 4)=some (af t)/\W.cell? (ae x 5)=some (af 0)/\W.cell? (ae x 6)=some (af it)
theorem wG (k L R f t i:Int) (r b base m:Nat) (a4 c:Value) (X aq:List Bool) (l:List Nd) (w:World) (ao:l.length=m) (cn:m<r) (co:r<=100000) (bV:aq.length=m)
  (h:gL w b base r a4 c l X) (cl:base<=w.heap.size)
  (bi:∀W,W.ownsRow base 4 1 c m (X.map Value.bool)->aK 319 #[Ba k L R f t i,c] W (fV W (.bool true)))
  (bm:∀W,W.ownsRow base 4 1 c m (X.map Value.bool)->base<=W.heap.size->aK 320 #[Ba k L R f t i,c] W (NK W base m c aq)):
  aK 291 #[aj b,Ba k L R f t i] w fun e w'=>e=.returned (.tuple #[af m,af 0])/\qU w b base r a4 c (l++[⟨k,L,R,f,t,i⟩]) (aq++[false]) w':=by
 have⟨C,ap,a3,cm⟩:=h;rw[ao]at ap a3;have U:b<w.heap.size:=(aZ.1 C).1;obtain⟨g,nc,a2,-,-,-⟩:=bQ.aI jq ai ap;rw[ao]at a2;subst a2;have bz:w.cell? (ae b 0)=some (af r):=aG C;have bB:w.cell? (ae b 1)=some (.slice g m nc):=aG C;have bD:w.cell? (ae b 2)=some c:=aG C;have b9:w.cell? (ae b 3)=some (.bool true):=aG C;have bc:=ag C;have aR:=ag a3;have aN:=ag ap;have bj:=ag bi;have bo:=ag bm;have ac:=ag ao;have bh:=ag bV;have d3:decide (r<=m)=false:=aD;go_enter func291,ntmps291;go_wp2;obtain⟨wk,V⟩:∃wk,wk=w.alloc (.cells #[.int .u8 k,af L,af R,af f,af t,af 0,af i] 163):=⟨_,rfl⟩;have y:Hid (Below w.heap.size w wk):=by rw[V];exact(aJ _ w).alloc (aB _) _
 have br:Hid (wk.heap[w.heap.size]? =some (.cells #[.int .u8 k,af L,af R,af f,af t,af 0,af i] 163 (0,0))):=by rw[V];exact cB w _
 rw[<-V];have x:w.heap.size<wk.heap.size:=by rw[V];simp
 have bk:=ag (az aN.o y.o);have aS:=ag (az aR.o y.o);have bd:Hid (wk.heap[b]? =some (.cells #[af r,.slice g m nc,c,.bool true] 372 (0,0))):=(y.o.block b U).trans bc.o;have bE:=(y.o.cell (p:=(ae b 0)) U).trans bz;have bF:=(y.o.cell (p:=(ae b 1)) U).trans bB;have u:=(y.o.cell (p:=(ae b 2)) U).trans bD;have A:=br.o;have a6:wk.cell? (ae w.heap.size 0)=some (.int .u8 k):=aG A;have x1:wk.cell? (ae w.heap.size 1)=some (af L):=aG A;have x2:wk.cell? (ae w.heap.size 2)=some (af R):=aG A;have a7:wk.cell? (ae w.heap.size 3)=some (af f):=aG A;have a8:wk.cell? (ae w.heap.size 4)=some (af t):=aG A;have a9:wk.cell? (ae w.heap.size 5)=some (af 0):=aG A;have ba:wk.cell? (ae w.heap.size 6)=some (af i):=aG A;have cx:=ah u;have cq:=ah a6;have cr:=ah x1;have cs:=ah x2;have ct:=ah a7;have cu:=ah a8;have cv:=ah a9;have cw:=ah ba;have bf:Hid (∀p:aQ wk,aK 319 #[Ba k L R f t i,c] p.W fun e w'=>e=.returned (.bool true)/\Below p.W.heap.size p.W w'):=fun p=>bj.o _ (az aS.o p.h);refine bG aO aO ?_
 repeat(quiet_step ((go_at_call 319;exact dJ (bf.o _))))
 refine jM ?_;intro j bY;have n:Below wk.heap.size wk j:=by obtain⟨p,rfl⟩:=bY;exact p.h
 have bl:=ag (az bk.o n);have bp:=ag (az aS.o n);have T:b<wk.heap.size:=aa;have be:Hid (j.heap[b]? =some (.cells #[af r,.slice g m nc,c,.bool true] 372 (0,0))):=(n.block b T).trans bd.o;have cC:=(n.cell (p:=(ae b 0)) T).trans bE;have b7:=(n.cell (p:=(ae b 1)) T).trans bF;have b8:=(n.cell (p:=(ae b 2)) T).trans u;have b2:=(n.cell (p:=(ae w.heap.size 0)) x).trans a6;have y1:=(n.cell (p:=(ae w.heap.size 1)) x).trans x1;have y2:=(n.cell (p:=(ae w.heap.size 2)) x).trans x2;have b3:=(n.cell (p:=(ae w.heap.size 3)) x).trans a7;have b4:=(n.cell (p:=(ae w.heap.size 4)) x).trans a8;have b5:=(n.cell (p:=(ae w.heap.size 5)) x).trans a9;have b6:=(n.cell (p:=(ae w.heap.size 6)) x).trans ba;go_wp2
 go_quiet (fail)
 go_wp2;have J:Hid ((j.drewN nq).ownsRow base 163 7 (.slice g m nc) m (l.flatMap oK)):=bl.o;have N:Hid ((j.drewN nq).ownsRow base 4 1 c m (X.map Value.bool)):=bp.o;have H:Hid ((j.drewN nq).heap[b]? =some (.cells #[af r,.slice g m nc,c,.bool true] 372 (0,0))):=be.o;have bM:Hid (Below w.heap.size w (j.drewN nq)):=(y.o.trans (n.mono aa)).trans (Below.bq _ _);have aY:w.heap.size<(j.drewN nq).heap.size:=bR x n.size;have Z:(j.drewN nq).cell? (ae b 1)=some (.slice g m nc):=b7;have ab:(j.drewN nq).cell? (ae b 2)=some c:=b8;have aw:(j.drewN nq).cell? (ae w.heap.size 0)=some (.int .u8 k):=b2;have ay:(j.drewN nq).cell? (ae w.heap.size 1)=some (af L):=y1;have aA:(j.drewN nq).cell? (ae w.heap.size 2)=some (af R):=y2;have aC:(j.drewN nq).cell? (ae w.heap.size 3)=some (af f):=b3;have aE:(j.drewN nq).cell? (ae w.heap.size 4)=some (af t):=b4;have aL:(j.drewN nq).cell? (ae w.heap.size 5)=some (af 0):=b5;have aM:(j.drewN nq).cell? (ae w.heap.size 6)=some (af i):=b6;generalize j.drewN nq=w6 at*;have bW:∀d,(Value.slice g m nc).ownBlock=some d->d<w6.heap.size/\d≠b/\d≠w.heap.size:=fun d e=>⟨(J.o.lt d e).2,fun G=>bn J.o H.o ai d e G.symm,fun G=>by have:=(aN.o.lt d e).2;omega⟩;have bU:∀d,c.ownBlock=some d->d<w6.heap.size/\d≠b/\d≠w.heap.size:=fun d e=>⟨(N.o.lt d e).2,fun G=>bn N.o H.o ai d e G.symm,fun G=>by have:=(aR.o.lt d e).2;omega⟩;have bX:∀d,(Value.slice g m nc).ownBlock=some d->c.ownBlock≠some d:=bA J.o N.o ai;have M:=ag bW;have I:=ag bU;have aP:=ag bX;have an:b<w6.heap.size:=aa;have ck:base<=w6.heap.size:=aa;have bH:∀o,w6.frozen? (ae b o)=false:=fun o=>by have h9:=H.o;simp[World.frozen?,h9]
 have bg:Hid (Bi b w.heap.size (.slice g m nc) c k L R f t i w6.drew):=⟨Z,ab,aw,ay,aA,aC,aE,aL,aM⟩;have ca:∀p:jS (Bi b w.heap.size (.slice g m nc) c k L R f t i),p.W.cell? (ae b 1)=some (.slice g m nc):=fun p=>p.h.1;have cb:∀p:jS (Bi b w.heap.size (.slice g m nc) c k L R f t i),p.W.cell? (ae b 2)=some (c):=fun p=>p.h.2.1;have cc:∀p:jS (Bi b w.heap.size (.slice g m nc) c k L R f t i),p.W.cell? (ae w.heap.size 0)=some (.int .u8 k):=fun p=>p.h.2.2.1;have cd:∀p:jS (Bi b w.heap.size (.slice g m nc) c k L R f t i),p.W.cell? (ae w.heap.size 1)=some (af L):=fun p=>p.h.2.2.2.1;have ce:∀p:jS (Bi b w.heap.size (.slice g m nc) c k L R f t i),p.W.cell? (ae w.heap.size 2)=some (af R):=fun p=>p.h.2.2.2.2.1;have cf:∀p:jS (Bi b w.heap.size (.slice g m nc) c k L R f t i),p.W.cell? (ae w.heap.size 3)=some (af f):=fun p=>p.h.2.2.2.2.2.1;have cg:∀p:jS (Bi b w.heap.size (.slice g m nc) c k L R f t i),p.W.cell? (ae w.heap.size 4)=some (af t):=fun p=>p.h.2.2.2.2.2.2.1;have ch:∀p:jS (Bi b w.heap.size (.slice g m nc) c k L R f t i),p.W.cell? (ae w.heap.size 5)=some (af 0):=fun p=>p.h.2.2.2.2.2.2.2.1;have ci:∀p:jS (Bi b w.heap.size (.slice g m nc) c k L R f t i),p.W.cell? (ae w.heap.size 6)=some (af i):=fun p=>p.h.2.2.2.2.2.2.2.2;refine ak (fun W=>∃p:jS (Bi b w.heap.size (.slice g m nc) c k L R f t i),W=p.W) [14,15,16,17,18,19,20] [(0,false),(1,false),(2,false),(3,false),(4,false),(5,true),(6,true),(9,true),(10,false),(11,false),(12,false),(13,true)] ⟨⟨_,bg.o⟩,rfl⟩ 9 ?_;refine aF 7 rfl fun K am=>?_;go_simp;have O:ax (fun _=>False) w6 (w6.alloc (.cells #[.int .u8 k,af L,af R,af f,af t,af 0,af i] 163)).drew:=((ax.refl _ _).alloc _).drew;obtain⟨a5,-⟩:=bZ O an (fun h=>h);obtain⟨B,-⟩:=bZ O aY (fun h=>h);refine am _ _ (fun _ _=>⟨⟨_,(a5 1).trans Z,(a5 2).trans ab,(B 0).trans aw,(B 1).trans ay,(B 2).trans aA,(B 3).trans aC,(B 4).trans aE,(B 5).trans aL,(B 6).trans aM⟩,rfl⟩) ?_;refine aF 8 rfl fun K am=>?_;refine bC Sq base (aT (S:=fun _=>False) J.o O (fun _ _ h=>h)) [.int .u8 k,.int .i64 L,.int .i64 R,.int .i64 f,.int .i64 t,.int .i64 0,.int .i64 i] rfl (by simp[Value.oneCell']) rfl (.tmp 40) (.tmp 42) rfl rfl w6.heap.size rfl (lg _ _) dD aa aD ?_;intro v F Y bL bK aV cj;have s:ax (fun k=>(Value.slice g m nc).ownBlock=some k) w6 Y:=(O.mono (fun _ h=>h.elim)).grown bK (fun k bT=>.inl bT);have⟨P,bx⟩:=bZ s an (fun e=>(M.o _ e).2.1 rfl);obtain⟨z,-⟩:=bZ s aY (fun e=>(M.o _ e).2.2 rfl);refine am _ _ (fun _ _=>⟨⟨_,(P 1).trans Z,(P 2).trans ab,(z 0).trans aw,(z 1).trans ay,(z 2).trans aA,(z 3).trans aC,(z 4).trans aE,(z 5).trans aL,(z 6).trans aM⟩,rfl⟩) ?_;have bb:=aT (S:=fun k=>(Value.slice g m nc).ownBlock=some k) N.o s (fun d e u=>aP.o d u e);have bN:base<=Y.heap.size:=by have:=s.size;omega
 have a0:b<Y.heap.size:=by have:=s.size;omega
 have aU:∀o,Y.frozen? (ae b o)=false:=fun o=>(bx o).trans (bH o);refine aH [14,15,16,17,18,19,20] ?_;have bu:=bo.o _ bb bN;have bv:=(P 1).trans Z;have bw:=(P 2).trans ab
 go_wp2_with (go_at_call 320;refine bu.mono ?_;rintro e wp ⟨cA,rfl,aX,aW,Q⟩;obtain⟨D,E,rfl⟩:=fF aX;obtain⟨ar,av⟩:=bZ Q a0 (fun e=>(I.o _ e).2.1 rfl);have cy:=(ar 1).trans bv;have cz:=(ar 2).trans bw;have f1:=(av 1).trans (aU 1);have f2:=(av 2).trans (aU 2);clear ar av)
 have bs:ax (kF b (.slice g m nc) c) w6 wp:=(s.mono (fun k h=>.inr (.inl h))).trans (Q.mono (fun k h=>.inr (.inr h)));have bt:ax (kF b (.slice g m nc) c) w ((wp.setCell (ae b 1) (au v (m+1) F)).setCell (ae b 2) (.slice D (m+1) E)):=
  ((((ax.refl (kF b (.slice g m nc) c) w).below bM.o).trans bs).set (a:=(ae b 1)) _ (.inl (.inl rfl))).set (a:=(ae b 2)) _ (.inl (.inl rfl))
 have a1:v≠b/\c.ownBlock≠some v:=by
  rcases aV with h9|h9
  .exact⟨(M.o _ h9).2.1,fun e=>aP.o _ h9 e⟩
  .simp at h9;exact⟨aa,fun e=>by have:=(I.o _ e).1;omega⟩
 have bP:∀d,(Value.slice D (m+1) E).ownBlock=some d->d≠b:=fun d e=>by
  rcases aW with h9|⟨ad,h9,bJ⟩
  .exact(I.o _ (h9.symm.trans e)).2.1
  .have:ad=d:=by rw[h9]at e;injection e
   omega
 have cp:=s.size;go_ret2;refine⟨rfl,au v (m+1) F,.slice D (m+1) E,⟨?_,?_,?_,?_⟩,?_,bt⟩
 .have bO:wp.heap[b]? =some (.cells #[af r,.slice g m nc,c,.bool true] 372 (0,0)):=(Q.block b a0 (fun e=>(I.o _ e).2.1 rfl)).trans ((s.block b an (fun e=>(M.o _ e).2.1 rfl)).trans H.o);have b0:=dC wp b 1 _ _ (au v (m+1) F) bO;have b1:=dC _ b 2 _ _ (.slice D (m+1) E) b0;exact b1
 .have bI:=aT (S:=fun k=>c.ownBlock=some k) bL Q (fun d e u=>by injection e with e;subst e;exact a1.2 u);have al:=aT (S:=fun k=>k=b) bI (((ax.refl (fun k=>k=b) wp).set (a:=(ae b 1)) (au v (m+1) F) (.inl rfl)).set (a:=(ae b 2)) (.slice D (m+1) E) (.inl rfl)) (fun d e u=>by injection e with e;subst e;exact a1.1 u);rw[bS,gZ,ac.o];exact al
 .have al:=aT (S:=fun k=>k=b) aX (((ax.refl (fun k=>k=b) wp).set (a:=(ae b 1)) (au v (m+1) F) (.inl rfl)).set (a:=(ae b 2)) (.slice D (m+1) E) (.inl rfl)) bP;rw[bS,ac.o];exact al
 .simp[ac.o,bh.o]
 .rintro q (rfl|e|e)
  .exact .inl (.inl rfl)
  .have e:v=q:=by injection e
   subst e;rcases aV with h9|h9
   .exact .inl (.inr (.inl h9))
   .simp at h9;exact .inr aa
  .rcases aW with h9|⟨ad,h9,bJ⟩
   .exact .inl (.inr (.inr (h9.symm.trans e)))
   .have:ad=q:=by rw[h9]at e;injection e
    exact .inr aa
end
section
open Go.RowKit Go.Sort Go.Shelf Go.Lib Go.Maps
theorem CG (f t a:Int) (d b base:Nat) (g i:Value) (c:List Bool) (l:List Nd) (w:World) (m:l.length<d) (n:d<=100000) (h:gL w b base d g i l c) (k:base<=w.heap.size):
  aK 291 #[aj b,Ba 1 (-1) (-1) f t a] w fun e w'=>e=.returned (.tuple #[af l.length,af 0])/\qU w b base d g i (l++[⟨1,-1,-1,f,t,a⟩]) (c++[false]) w':=by
 obtain⟨p,q,rfl⟩:=fF h.row;exact wG 1 (-1) (-1) f t a d b base l.length g _ c c l w rfl m n h.len h k (fun W _=>SB f t a _ rfl W) (fun W o j=>Su 1 f t a p l.length q base c W h.len aa o j)
theorem CK (f t d:Int) (i j:Nat) (u:i≠j) (k b base:Nat) (o q:Value) (a:List Bool) (l:List Nd) (w:World) (v:l.length<k) (x:k<=100000) (hi:a[i]? =some false) (p:a[j]? =some false) (h:gL w b base k o q l a) (s:base<=w.heap.size):
  aK 291 #[aj b,Ba 2 i j f t d] w fun e w'=>e=.returned (.tuple #[af l.length,af 0])/\qU w b base k o q (l++[⟨2,i,j,f,t,d⟩]) ((a.set i true).set j true++[false]) w':=by
 have y:=(fE.1 hi).1;have z:=(fE.1 p).1;have m:=h.len;obtain⟨g,c,rfl,_,_,_,_⟩:=aU h.row aa;exact wG 2 i j f t d k b base l.length o _ a ((a.set i true).set j true) l w rfl v x (by simp[m]) h s (fun W n=>Qu f t d i j u g l.length c base a W m aa hi p n) (fun W n r=>Qr 2 f t d i j g l.length c base a W m aa aa aa n r)
def EI (n:Nat):List Bool:=List.replicate (2*n-2) true++[false]
theorem NU (b:List Bool) (a c:Nat) (f:0<a) (g:0<c):
  (((b++EI a)++EI c).set (b.length+(2*a-2)) true).set (b.length+(2*a-1)+(2*c-2)) true++[false]=b++EI (a+c):=by
 unfold EI;have d:∀(A:List Bool) (k:Nat),(A++(List.replicate k true++[false])).set (A.length+k) true=A++List.replicate (k+1) true:=fun A k=>by
  rw[<-dX,ui _ _ aA,bS,iw,kZ,dX,ru];rfl
 have e:=d (b++List.replicate (2*a-2+1) true) (2*c-2);rw[show(b++List.replicate (2*a-2+1) true).length+(2*c-2)=b.length+(2*a-1)+(2*c-2) by simp;omega]at e;rw[List.set_append_left _ _ aA,d b (2*a-2),e,dX,dX];congr 1;rw[<-dX,List.replicate_append_replicate];congr 2;omega
theorem NV (b:List Bool) (a c:Nat) (d:0<a):((b++EI a)++EI c)[b.length+(2*a-2)]? =some false:=by
 unfold EI;rw[lS aA,nz aA,nz aA];simp
theorem LF (c:List Bool) (a b:Nat) (d:0<a) (e:0<b):((c++EI a)++EI b)[c.length+(2*a-1)+(2*b-2)]? =some false:=by
 unfold EI;rw[nz aD,nz aD];rw[show c.length+(2*a-1)+(2*b-2)-(c++(List.replicate (2*a-2) true++[false])).length-(List.replicate (2*b-2) true).length=0 by simp;omega];rfl
theorem LG (n:Nat):∀(a c j b base:Nat) (i g:Value) (l:List Nd) (p:List Bool) (w:World),c=a+n->0<n->l.length+(2*n-1)<=j->j<=100000->c<=50000->gL w b base j i g l p->base<=w.heap.size->
  aK 232 #[aj b,af a,af c] w fun e w'=>e=.returned (af ((l.length+(2*n-2):Nat):Int))/\qU w b base j i g (l++(dM a n).nodes l.length) (p++EI n) w':=by
 induction n using Nat.strongRecOn with
 |ind n ih=>
 intro a c j b base i g l p w aq aT ar K aR hP a3;have a2:=hP.lt b (.inl rfl);by_cases am:n=1
 .subst am;subst aq;have x:=ag (fun W (h:gL W b base j i g l p) (D:base<=W.heap.size)=>CG (a:Int) ((a+1:Nat):Int) (a:Int) j b base i g p l W aa K h D);have A:=ag hP;have d1:decide (((a+1:Nat):Int)-(a:Int)>1)=false:=aD;have d2:decide ((1:Int)<((a+1:Nat):Int)-(a:Int))=false:=aD;have B:(dM a 1).nodes l.length=[⟨1,-1,-1,a,((a+1:Nat):Int),a⟩]:=by rw[zO a 1 aa];simp[FT.nodes]
  rw[B];clear B hP ih ar;generalize aS:a+1=c at*;have a4:c<=50000/\a<c:=aa;clear aS;go_enter func232,ntmps232
  go_wp2_with fail
  refine(x.o _ (A.o.kept ((ax.refl (fun _=>False) w).alloc _) (fun _ _ h=>h)) aD).mono ?_;rintro e w1 ⟨rfl,C⟩;have E:=ag C;clear C;go_wp2;go_ret;refine⟨rfl,?_⟩;exact qU.trans (fun k h=>.inl h) ((ax.refl _ w).alloc _) E.o
 .obtain⟨d,au⟩:∃d,d=n-n/2:=⟨_,rfl⟩;obtain⟨f,av⟩:∃f,f=n/2:=⟨_,rfl⟩;obtain⟨m,X⟩:∃m,m=a+d:=⟨_,rfl⟩;have B:(dM a n).nodes l.length=(dM a d).nodes l.length++(dM m f).nodes (l.length+(2*d-1))++[⟨2,((l.length+(2*d-2):Nat):Int),((l.length+(2*d-1)+(2*f-2):Nat):Int),a,c,0⟩]:=by
   rw[Ey a n aa,FT.nodes,<-au,<-av,<-X,fe a d aa,fe m f aa,(bJ a d aa).2.1,(bJ m f aa).2.2];congr 3
   .omega
   .omega
   .omega
  rw[B,show n=d+f by omega];clear B;obtain⟨r,H⟩:∃r,r=l.length+(2*d-2):=⟨_,rfl⟩;obtain⟨q,I⟩:∃q,q=l.length+(2*d-1)+(2*f-2):=⟨_,rfl⟩;have aI:Hid (∀W,gL W b base j i g l p->base<=W.heap.size->aK 232 #[aj b,af a,af m] W fun e w'=>e=.returned (af r)/\qU W b base j i g (l++(dM a d).nodes l.length) (p++EI d) w'):=
   fun W h D=>(ih d aa a m j b base i g l p W X aa aa K aa h D).mono fun e w' ⟨T,Y⟩=>⟨by rw[T,H],Y⟩
  have aL:Hid (∀W i g u L,u.length=l.length+(2*d-1)->gL W b base j i g u L->base<=W.heap.size->aK 232 #[aj b,af m,af c] W fun e w'=>e=.returned (af q)/\qU W b base j i g (u++(dM m f).nodes u.length) (L++EI f) w'):=
   fun W i g u L aN h D=>(ih f aa m c j b base i g u L W aa aa aa K aR h D).mono fun e w' ⟨T,Y⟩=>⟨by rw[T,I,aN],Y⟩
  have z:Hid (r=l.length+(2*d-2)/\q=l.length+(2*d-1)+(2*f-2)):=⟨H,I⟩;rw[<-H,<-I];clear H I;have A:=ag hP;have a5:(c:Int)-((c:Int)-(a:Int))/2=(m:Int):=aa;have a1:(a:Int)<c/\(c:Int)<=50000:=aa;have s:0<d/\0<f:=aa;have d1:decide ((c:Int)-(a:Int)>1)=true:=aD;have d2:decide ((1:Int)<(c:Int)-(a:Int))=true:=aD;have aB:Hid (l.length+(2*(d+f)-1)<=j):=(show l.length+(2*(d+f)-1)<=j by omega);clear ih hP aq aT ar am au av X;go_enter func232,ntmps232
  go_wp2_with fail
  obtain⟨v,t⟩:∃v,v=w.alloc (.cells #[.int .u8 2,af (-1),af (-1),af a,af c,af 0,af 0] 163):=⟨_,rfl⟩;rw[<-t];have aJ:Hid (gL v b base j i g l p):=by rw[t];exact A.o.kept ((ax.refl (fun _=>False) w).alloc _) (fun _ _ h=>h)
  have ap:v.heap[w.heap.size]? =some (.cells #[.int .u8 2,af (-1),af (-1),af a,af c,af 0,af 0] 163 (0,0)):=by rw[t];exact cB w _
  have aH:Hid (ax (kF b i g) w v):=by rw[t];exact(ax.refl _ w).alloc _
  have aP:w.heap.size<v.heap.size:=by rw[t];simp
  have an:∀k,kF b i g k->k<w.heap.size:=A.o.lt;have ah:=ag an;clear t an;refine(aI.o _ aJ.o aa).mono ?_;rintro e w1 ⟨rfl,aA,az,ac,aw,F⟩;have R:Hid (w1.heap[w.heap.size]? =some (.cells #[.int .u8 2,af (-1),af (-1),af a,af c,af 0,af 0] 163 (0,0))):=(F.block _ aP (fun h=>by have:=ah.o _ h;omega)).trans ap;have a7:=F.size;have aC:=ag ac;have P:=ag aw;have aF:=ag F;have u1:w1.cell? (ae w.heap.size 1)=some (af (-1)):=by have h9:=R.o;simp[World.cell?,h9]
  have v1:w1.frozen? (ae w.heap.size 1)=false:=by have h9:=R.o;simp[World.frozen?,h9]
  clear ac aw F ap
  go_wp2_with fail
  have ak:=ag (dC w1 w.heap.size 1 _ _ (.int .i64 (r:Int)) R.o);have N:Hid (ax (fun k=>k=w.heap.size) w1 (w1.setCell (ae w.heap.size 1) (.int .i64 (r:Int)))):=(ax.refl _ w1).set (a:=(ae w.heap.size 1)) _ (.inl rfl);simp only[zb,nQ,oz]at ak;generalize w1.setCell (ae w.heap.size 1) (.int .i64 (r:Int))=w2 at*;have ao:∀k,kF b aA az k->k≠w.heap.size:=fun k h e=>by
   rcases P.o k h with h9|h9
   .have:=ah.o _ h9;omega
   .omega
  have Q:=ag ao;have a8:=N.o.size;clear ao u1 v1;refine(aL.o w2 aA az _ _ (by rw[bS,FT.iB,fe a d s.1]) (aC.o.kept N.o (fun k h e=>Q.o k h e)) aa).mono ?_;rintro e w3 ⟨rfl,ab,Z,ad,ay,G⟩;have aQ:w.heap.size<w2.heap.size:=aa;have S:Hid (w3.heap[w.heap.size]? =some (.cells #[.int .u8 2,af r,af (-1),af a,af c,af 0,af 0] 163 (0,0))):=(G.block _ aQ (fun h=>Q.o _ h rfl)).trans ak.o;have a9:=G.size;have aE:=ag ad;have ai:=ag ay;have aG:=ag G;have u3:w3.cell? (ae w.heap.size 2)=some (af (-1)):=by have h9:=S.o;simp[World.cell?,h9]
  have bb:w3.frozen? (ae w.heap.size 2)=false:=by have h9:=S.o;simp[World.frozen?,h9]
  clear ad ay G;have a0:Hid (w3.setCell (ae w.heap.size 2) (.int .i64 q)=w3.setCell (ae w.heap.size 2) (.int .i64 q)):=rfl;have al:=ag (dC w3 w.heap.size 2 _ _ (.int .i64 (q:Int)) S.o);have O:Hid (ax (fun k=>k=w.heap.size) w3 (w3.setCell (ae w.heap.size 2) (.int .i64 (q:Int)))):=(ax.refl _ w3).set (a:=(ae w.heap.size 2)) _ (.inl rfl);simp only[zb,nQ,oz]at al;have y:(∀o,o<7->(w3.setCell (ae w.heap.size 2) (.int .i64 (q:Int))).cell? (ae w.heap.size o)=[Value.int .u8 2,.int .i64 r,.int .i64 q,.int .i64 a,.int .i64 c,.int .i64 0,.int .i64 0][o]?):=fun o a6=>by have h9:=al.o;simp[World.cell?,h9]
  have aV:=y 0 aa;have y1:=y 1 aa;have y2:=y 2 aa;have aW:=y 3 aa;have aX:=y 4 aa;have aY:=y 5 aa;have aZ:=y 6 aa;simp only[fw,fD]at aV y1 y2 aW aX aY aZ;clear y
  go_wp2_with fail
  generalize w3.setCell (ae w.heap.size 2) (.int .i64 (q:Int))=w4 at*;have aO:∀k,kF b ab Z k->k≠w.heap.size:=fun k h e=>by
   rcases ai.o k h with h9|h9
   .exact Q.o k h9 e
   .omega
  have ba:=O.o.size;have M:=aE.o.kept O.o (fun k h e=>aO k h e);have U:(l++(dM a d).nodes l.length).length=l.length+(2*d-1):=by rw[bS,FT.iB,fe a d s.1]
  have V:((l++(dM a d).nodes l.length)++(dM m f).nodes (l.length+(2*d-1))).length=l.length+(2*(d+f)-2):=by rw[bS,U,FT.iB,fe m f s.2];omega
  rw[U]at M;have J:=A.o.len;have x:=CK (a:Int) c 0 r q (by have:=z.o;omega) j b base ab Z _ _ w4 (by rw[V];have:=aB.o;omega) K (by rw[z.o.1,<-J];exact NV p d f s.1) (by rw[z.o.2,<-J];exact LF p d f s.1 s.2) M aa;rw[V,show((p++EI d++EI f).set r true).set q true++[false]=p++EI (d+f) by rw[z.o.1,z.o.2,<-J];exact NU p d f s.1 s.2]at x;refine x.mono ?_;rintro e bc ⟨rfl,C⟩;have E:=ag C;clear C x M V U J;go_wp2;go_ret;refine⟨by rw[x8];rfl,?_⟩;rw[dX,dX]at E;rw[dX];have aU:∀k,kF b ab Z k->kF b i g k\/w.heap.size<=k:=fun k h=>by
   rcases ai.o k h with h9|h9
   .rcases P.o k h9 with h8|h8
    .exact .inl h8
    .exact .inr aa
   .exact .inr aa
  refine qU.trans aU ?_ E.o;have aM:ax (fun k=>kF b i g k\/w.heap.size<=k) w w4:=
   (((aH.o.mono (fun k h=>.inl h)).trans (aF.o.mono (fun k h=>.inl h))).trans (N.o.mono (fun k h=>.inr aa))).trans ((aG.o.mono (fun k h=>by
    rcases P.o k h with h8|h8
    .exact .inl h8
    .exact .inr aa)).trans (O.o.mono (fun k h=>.inr aa)))
  exact aM.strip
end
section
open Go.RowKit
theorem wH (w:World):(callFunc 335 #[]).run prog w=.ok (.value (.tuple #[])) w:=run_call_mark0 func335 aO aO aO .disable aO w
theorem zg (w:World):(callFunc 337 #[]).run prog w=.ok (.value (.tuple #[])) w:=run_call_mark0 func337 aO aO aO .enable aO w
theorem EJ (a:Addr) (w:World):(callFunc 338 #[.pointer (some a)]).run prog w=.ok (.value (.tuple #[])) w:=run_call_marked func338 aO aO aO .acquire aO a w
theorem IX (a:Addr) (w:World):(callFunc 340 #[.pointer (some a)]).run prog w=.ok (.value (.tuple #[])) w:=run_call_marked func340 aO aO aO .releaseMerge aO a w
theorem IY (a:Addr) (x:Value) (u:FrameMode) (w:World) (f:w.cell? a=some x) (h:w.frozen? a=false):
  CallsD prog 284 #[.pointer (some a),.bool true] u w fun e d w'=>d=u/\(e=.returned (.tuple #[])/\w'=w.drew.setCell a (.int .u32 1)):=by
 have b:w.drew.cell? a=some x:=by go_simp
 have c:w.drew.frozen? a=false:=by go_simp
 have g:=run_call_store (P:=prog) func316 aO aO aO aO (k:=.u32) (y:=1) b c
 go_enter_d func284,ntmps284
 go_wp2
 go_region_calls
 all_goals(go_end0;exact⟨rfl,rfl⟩)
theorem F7 (a:Addr) (u:FrameMode) (w:World) (b:w.cell? a=some (.int .i32 1)) (c:w.frozen? a=false):
  CallsD prog 283 #[.pointer (some a)] u w fun e d w'=>d=u/\(e=.returned (.tuple #[])/\w'=w.setCell a (.int .i32 0)):=by
 have f:=run_call_add (P:=prog) func341 aO aO aO .i32 aO (y:=-1) (s:=0) b c (by simp[go_sem];rfl);have hd:=wH;have h:=zg;have i:=IX;have g:=run_convert_to_unsafe (P:=prog) (src:=405) (dst:=409) underlying405 underlying409 aO b
 go_enter_d func283,ntmps283
 go_wp2
 go_end0
 go_wp2
 go_end0
 exact⟨rfl,rfl⟩
theorem LH (a:Addr) (w:World) (b:w.cell? a=some (.int .i32 0)) (d:w.frozen? a=false):
  aK 282 #[.pointer (some a)] w fun e w'=>e=.returned (.tuple #[])/\w'=w.setCell a (.int .i32 1):=by
 have g:=run_call_cas_hit (P:=prog) func336 aO aO aO .i32 aO (y:=1) b d;have c:(w.setCell a (.int .i32 1)).cell? a=some (.int .i32 1):=Aa w a _ b;have hd:=wH;have i:=zg;have f:=EJ;have h:=run_convert_to_unsafe (P:=prog) (src:=405) (dst:=409) underlying405 underlying409 aO c;go_enter func282,ntmps282;go_wp2
 first|go_end0|(simp only[Exit.inBlock,Exit.then];refine kY (kJ rfl _ _ _) rfl ?_)|refine kY (kJ rfl _ _ _) rfl ?_
 go_wp2
 go_end0
 exact⟨rfl,rfl⟩
def RV (R:World->Prop) (b off:Nat) (e:Ending) (w':World):Prop:=
 e=.returned (.tuple #[])/\R w'/\w'.cell? (ae b off)=some (ay 0)/\w'.cell? (ae b (off+1))=some (.int .i32 1)/\w'.frozen? (ae b off)=false/\w'.frozen? (ae b (off+1))=false
def NW (R:World->Prop) (b off:Nat) (e:Ending) (w':World):Prop:=
 e=.returned (.tuple #[])/\∃w1,R w1/\w'=(w1.drew.setCell (ae b off) (.int .u32 1)).setCell (ae b (off+1)) (.int .i32 0)
theorem IZ {R:World->Prop} {fn:Nat} (r:∀args w,(callFunc fn args).run prog w=.ok (.enter fn args) w) (b off:Nat) (cv:Value) (w:World) (h:w.cell? (ae b off)=some (ay 0)) (i:w.cell? (ae b (off+1))=some (.int .i32 0)) (f0:w.frozen? (ae b off)=false) (f1:w.frozen? (ae b (off+1))=false)
  (C:aK fn #[cv] (w.setCell (ae b (off+1)) (.int .i32 1)) (RV R b off)):
  aK 217 #[.pointer (some (ae b off)),.func (.func fn) #[] #[cv]] w (NW R b off):=by
 have s:=run_call_load (P:=prog) func281 aO aO aO .u32 aO (w:=w.setCell (ae b (off+1)) (.int .i32 1)) (a:=(ae b off)) (x:=0) ((xC _ (ae b (off+1)) (ae b off) _ aA).trans h);have c:=ag C;have g:=ag (LH (ae b (off+1)) w i f1)
 go_enter_defers func217,ntmps217
 go_wp2_with (first|(go_at_call 282;refine g.o.mono ?_;rintro e w' ⟨rfl,rfl⟩)|(refine c.o.mono ?_;rintro e w1 ⟨rfl,j,k,l,p,q⟩)|(go_at_call 216;go_in))
 refine leaves_cons (f:=284) (args:=#[.pointer (some (ae b off)),.bool true]) aA (by simp[go_sem]) ?_;refine(IY (ae b off) (.int .u32 0) .returning w1 k p).mono ?_;rintro e m n ⟨rfl,rfl,rfl⟩;refine leaves_cons (f:=283) (args:=#[.pointer (some (ae b (off+1)))]) (by simp[settle]) (by simp[go_sem]) ?_;refine(F7 (ae b (off+1)) _ _ ?_ (by simp[q])).mono ?_
 .refine(xC _ (ae b off) (ae b (off+1)) _ aA).trans ?_;rw[World.cell?_drew];exact l
 rintro e m n ⟨rfl,rfl,rfl⟩;have d:NW R b off (.returned (.tuple #[])) ((w1.drew.setCell (ae b off) (.int .u32 1)).setCell (ae b (off+1)) (.int .i32 0)):=⟨rfl,w1,j,rfl⟩;simp[Leaves,settle,results,Tryz.results217];exact d
theorem zh {R:World->Prop} {fn:Nat} (f:∀args w,(callFunc fn args).run prog w=.ok (.enter fn args) w) (b off:Nat) (cv:Value) (w:World) (a:w.cell? (ae b off)=some (ay 0)) (g:w.cell? (ae b (off+1))=some (.int .i32 0)) (f0:w.frozen? (ae b off)=false) (f1:w.frozen? (ae b (off+1))=false)
  (C:aK fn #[cv] (w.setCell (ae b (off+1)) (.int .i32 1)) (RV R b off)):
  aK 146 #[.pointer (some (ae b off)),.func (.func fn) #[] #[cv]] w (NW R b off):=by
 have h:=run_call_load (P:=prog) func281 aO aO aO .u32 aO a;have d:=ag (IZ f b off cv w a g f0 f1 C);go_enter func146,ntmps146
 go_wp2_with (first|(go_at_call 217;refine d.o.mono ?_;rintro e w' ⟨rfl,HO⟩;have c:=ag HO;clear HO)|(go_at_call 216;go_in))
 go_end0
 exact⟨rfl,c.o⟩
theorem Dv (a:Addr) (b:Value) (w:World) (c:w.cell? a=some (ay 1)):
  aK 146 #[.pointer (some a),b] w fun e w'=>e=.returned (.tuple #[])/\w'=w:=by
 have d:=run_call_load (P:=prog) func281 aO aO aO .u32 aO c;go_enter func146,ntmps146;go_wp2
 go_end0
 exact⟨rfl,rfl⟩
end
section
open Go.RowKit Go.Sort Go.Shelf Go.Lib Go.Maps
attribute [local irreducible] wpQuiet
attribute [local go_sem] Oper.eF
theorem NY {g n c a:Nat} (e:(au g n c).ownBlock=some a):g=a:=by injection e
def aW (n:Nat):List Nd:=if n=0 then[]else(dM 0 n).nodes 0
theorem df (n:Nat):(aW n).length=2*n-1:=by
 unfold aW;split
 .subst n;rfl
 .rw[FT.iB,fe 0 n aa]
abbrev lC (d m:Int) (nv:Value) (n:Nat):Obj:=.cells #[ay d,.int .i32 m,ay 0,nv,af n,.bool true] 236 (0,0)
theorem yo (n:Nat) (a:n<=100000) (w:World):
  aK 90 #[af n] w fun e w'=>e=.returned (.tuple #[aj w.heap.size,af 0])/\w'=w.alloc (lC 0 0 (aL) n):=by
 refine calls_of_wp func90 rfl ?_;simp only[ntmps90,qN,dY,eZ,Nat.reduceAdd,Nat.reduceSub,qG,qH,qO,qK,fO,mH];go_wp2;go_ret2;exact⟨rfl,rfl⟩
theorem uu:gF 233:=di func233 aO rfl
def Ul (w:World) (fb n:Nat) (e:Ending) (w':World):Prop:=
 e=.returned (.tuple #[])/\∃nv,w'.ownsRow w.heap.size 163 7 nv (aW n).length ((aW n).flatMap oK)/\w'.heap[fb]? =some (lC 0 1 nv n)/\ax (fun k=>k=fb) w w'
theorem I1 (fb cb n:Nat) (aC:n<=40000) (w:World) (E:w.cell? (ae cb 0)=some (aj fb)) (A:w.heap[fb]? =some (lC 0 1 (aL) n)) (aE:cb≠fb):
  aK 230 #[aj cb] w (Ul w fb n):=by
 have z:cb<w.heap.size:=gY w _ E;have F:fb<w.heap.size:=(aZ.1 A).1;have f4:w.cell? (ae fb 4)=some (af n):=aG A;obtain⟨M,ad⟩:∃M,M=2*n:=⟨_,rfl⟩;have az:(2:Int)*(n:Int)=(M:Int):=aa;have C:=NT M aa w;have V:=ag A;have q:Hid (gL (w.alloc (.cells #[af M,aL,aL,.bool true] 372)) w.heap.size w.heap.size M (aL) (aL) [] []):=
  ⟨cB _ _,dw _ _ _ _,dw _ _ _ _,rfl⟩
 have g:Below w.heap.size w (w.alloc (.cells #[af M,aL,aL,.bool true] 372)):=(aJ _ _).alloc (aB _) _;have s:∀(w1:World) f t al,gL w1 w.heap.size w.heap.size M f t (aW n) al->Below w.heap.size w w1->aK 233 #[aj w.heap.size] w1 fun e w'=>∃v,e=.returned v/\w'.ownsRow w1.heap.size 163 7 v (aW n).length ((aW n).flatMap oK)/\Below w1.heap.size w1 w':=fun w1 f t al h ah=>by
  obtain⟨T,nc,rfl,-,-,au⟩:=bQ.aI jq ai h.jc;exact IW M w.heap.size T nc t (aW n) w1 h.blk au (by rw[df];omega)
 by_cases D:n=0
 .have ao:Hid (aW n=[]):=by show aW n=[];rw[D];rfl
  have s:=ag s;have y:=(g.cell (p:=(ae cb 0)) z).trans E;have Z:=(g.cell (p:=(ae fb 4)) F).trans f4;have H:=ag g;have d1:decide ((n:Int)>0)=false:=aD;have d2:decide ((0:Int)<(n:Int))=false:=aD;have d3:decide (0<n)=false:=aD;clear A ad g D;go_enter func230,ntmps230
  go_wp2_with fail
  with_reducible refine C.mono ?_
  rintro e w1 ⟨rfl,rfl⟩;clear C
  go_wp2_with fail
  have L:Hid (gL (w.alloc (.cells #[af M,aL,aL,.bool true] 372)).drew w.heap.size w.heap.size M (aL) (aL) (aW n) []):=by rw[ao.o];exact⟨q.o.blk,q.o.jc,q.o.row,rfl⟩
  have c:Hid (Below w.heap.size w (w.alloc (.cells #[af M,aL,aL,.bool true] 372))):=H;have G:Hid (∀w1,gL w1 w.heap.size w.heap.size M (aL) (aL) (aW n) []->Below w.heap.size w w1->aK 233 #[aj w.heap.size] w1 fun e w'=>∃v,e=.returned v/\w'.ownsRow w1.heap.size 163 7 v (aW n).length ((aW n).flatMap oK)/\Below w1.heap.size w1 w'):=fun w1 O P=>s.o w1 _ _ _ O P;clear q s;generalize(w.alloc (.cells #[af M,aL,aL,.bool true] 372))=b at*;have u:Hid ((fun W:World=>W.cell? (ae cb 0)=some (aj fb)) b.drew):=y;have an:∀p:jS (fun W:World=>W.cell? (ae cb 0)=some (aj fb)),p.W.cell? (ae cb 0)=some (aj fb):=fun p=>p.h;refine ak (fun W=>∃p:jS (fun W:World=>W.cell? (ae cb 0)=some (aj fb)),W=p.W) [3,4,5,6] [(0,true),(1,false)] ⟨⟨_,u.o⟩,rfl⟩ 5 ?_;refine aF 2 rfl fun K i=>?_;refine bf uu rfl _ _ rfl (vals:=#[aj w.heap.size]) rfl (G.o b.drew L.o (c.o.trans (Below.bq _ 1))) ?_;rintro e w2 ⟨f,rfl,m,l⟩;refine⟨f,rfl,?_⟩;obtain⟨T,nc,rfl⟩:=fF m;have R:w2.cell? (ae cb 0)=some (aj fb):=(l.cell (p:=(ae cb 0)) (by have:=c.o.size;exact bR z this)).trans u.o;refine i _ _ (fun _ _=>⟨⟨_,R⟩,rfl⟩) ?_;clear i K;refine aH [3,4,5,6] ?_;have j:Below w.heap.size w w2:=(c.o.trans (Below.bq _ 1)).trans (l.mono c.o.size);have d:w2.heap[fb]? =some (lC 0 1 (aL) n):=(j.block fb F).trans V.o;have aw:w2.cell? (ae fb 3)=some (aL):=aG d;have ay:w2.frozen? (ae fb 3)=false:=aG d;have J:=ag d;have x:=ag m;have B:w.heap.size<=b.heap.size:=c.o.size;have I:=ag j;clear d m l j;go_wp2
  first|go_end0|go_ret
  refine⟨rfl,_,aT (S:=fun k=>k=fb) (bH x.o B) ((ax.refl _ w2).set (a:=(ae fb 3)) _ (.inl rfl)) (fun N e am=>by have Q:=(x.o.lt N e).1;have ap:w.heap.size<=b.drew.heap.size:=B;omega),?_,?_⟩
  .exact dC w2 fb 3 _ _ _ J.o
  .exact((ax.refl (fun k=>k=fb) w).below I.o).set (a:=(ae fb 3)) _ (.inl rfl)
 .have U:=ag s;have y:=(g.cell (p:=(ae cb 0)) z).trans E;have Z:=(g.cell (p:=(ae fb 4)) F).trans f4;have H:=ag g;have d1:decide ((n:Int)>0)=true:=aD;have d2:decide ((0:Int)<(n:Int))=true:=aD;have d3:decide (0<n)=true:=aD;have Y:aW n=[]++(dM 0 n).nodes ([]:List Nd).length:=by unfold aW;rw[aM D];rfl
  have X:Hid (∀W,gL W w.heap.size w.heap.size M (aL) (aL) [] []->w.heap.size<=W.heap.size->aK 232 #[aj w.heap.size,af 0,af n] W fun e w'=>(∃r,e=.returned (af r))/\qU W w.heap.size w.heap.size M (aL) (aL) (aW n) ([]++EI n) w'):=
   fun W h ah=>(LG n 0 n M w.heap.size w.heap.size _ _ [] [] W aa aa aD aa aa h ah).mono fun e w' ⟨aq,ar⟩=>⟨⟨_,aq⟩,by rw[Y];exact ar⟩
  clear s A ad g D Y;go_enter func230,ntmps230
  go_wp2_with fail
  with_reducible refine C.mono ?_
  rintro e w1 ⟨rfl,rfl⟩;clear C
  go_wp2_with fail
  with_reducible refine(X.o _ q.o aA).mono ?_
  rintro e b ⟨⟨r,rfl⟩,f,t,ab,av,i⟩;have ac:ax (fun _=>False) w b:=by
   have Q:ax (fun k=>False\/w.heap.size<=k) w b:=((ax.refl (fun k=>False\/w.heap.size<=k) w).alloc _).trans (i.mono (fun k h=>by
    rcases h with h|h|h
    .exact .inr aa
    .cases h
    .cases h))
   exact Q.strip
  have c:Hid (Below w.heap.size w b):=ac.toBelow (aB _) (fun _ h=>h.elim);have G:Hid (∀w1,gL w1 w.heap.size w.heap.size M f t (aW n) ([]++EI n)->Below w.heap.size w w1->aK 233 #[aj w.heap.size] w1 fun e w'=>∃v,e=.returned v/\w'.ownsRow w1.heap.size 163 7 v (aW n).length ((aW n).flatMap oK)/\Below w1.heap.size w1 w'):=fun w1 O P=>U.o w1 _ _ _ O P;have L:Hid (gL b.drew w.heap.size w.heap.size M f t (aW n) ([]++EI n)):=ab.kept (ax.refl (fun _=>False) b).drew (fun _ _ h=>h);clear y Z q U X H ab av i ac;have y:=(c.o.cell (p:=(ae cb 0)) z).trans E
  go_wp2_with fail
  have u:Hid ((fun W:World=>W.cell? (ae cb 0)=some (aj fb)) b.drew):=y;have an:∀p:jS (fun W:World=>W.cell? (ae cb 0)=some (aj fb)),p.W.cell? (ae cb 0)=some (aj fb):=fun p=>p.h;refine ak (fun W=>∃p:jS (fun W:World=>W.cell? (ae cb 0)=some (aj fb)),W=p.W) [3,4,5,6] [(0,true),(1,false)] ⟨⟨_,u.o⟩,rfl⟩ 5 ?_;refine aF 2 rfl fun K i=>?_;refine bf uu rfl _ _ rfl (vals:=#[aj w.heap.size]) rfl (G.o b.drew L.o (c.o.trans (Below.bq _ 1))) ?_;rintro e w2 ⟨f,rfl,m,l⟩;refine⟨f,rfl,?_⟩;obtain⟨T,nc,rfl⟩:=fF m;have R:w2.cell? (ae cb 0)=some (aj fb):=(l.cell (p:=(ae cb 0)) (by have:=c.o.size;exact bR z this)).trans u.o;refine i _ _ (fun _ _=>⟨⟨_,R⟩,rfl⟩) ?_;clear i K;refine aH [3,4,5,6] ?_;have j:Below w.heap.size w w2:=(c.o.trans (Below.bq _ 1)).trans (l.mono c.o.size);have d:w2.heap[fb]? =some (lC 0 1 (aL) n):=(j.block fb F).trans V.o;have aw:w2.cell? (ae fb 3)=some (aL):=aG d;have ay:w2.frozen? (ae fb 3)=false:=aG d;have J:=ag d;have x:=ag m;have B:w.heap.size<=b.heap.size:=c.o.size;have I:=ag j;clear d m l j;go_wp2
  first|go_end0|go_ret
  refine⟨rfl,_,aT (S:=fun k=>k=fb) (bH x.o B) ((ax.refl _ w2).set (a:=(ae fb 3)) _ (.inl rfl)) (fun N e am=>by have Q:=(x.o.lt N e).1;have ap:w.heap.size<=b.drew.heap.size:=B;omega),?_,?_⟩
  .exact dC w2 fb 3 _ _ _ J.o
  .exact((ax.refl (fun k=>k=fb) w).below I.o).set (a:=(ae fb 3)) _ (.inl rfl)
def Um (w:World) (fb n:Nat) (e:Ending) (w':World):Prop:=
 ∃nv,e=.returned nv/\w'.ownsRow w.heap.size 163 7 nv (aW n).length ((aW n).flatMap oK)/\w'.heap[fb]? =some (lC 1 0 nv n)/\ax (fun k=>k=fb) w w'
theorem zD (fb n:Nat) (D:n<=40000) (w:World) (q:w.heap[fb]? =some (lC 0 0 (aL) n)):
  aK 164 #[aj fb] w (Um w fb n):=by
 have B:fb<w.heap.size:=(aZ.1 q).1;obtain⟨w0,h⟩:∃w0,w0=w.alloc (.cells #[aj fb] 137):=⟨_,rfl⟩;have m:Below w.heap.size w w0:=by rw[h];exact(aJ _ _).alloc (aB _) _
 have y:w0.cell? (ae w.heap.size 0)=some (aj fb):=by rw[h,ek _ _ _ _ rfl];rfl
 have J:w0.heap.size=w.heap.size+1:=by rw[h];simp
 have d:w0.heap[fb]? =some (lC 0 0 (aL) n):=(m.block fb B).trans q;have j:(w0.setCell (ae fb 1) (.int .i32 1)).heap[fb]? =some (lC 0 1 (aL) n):=dC w0 fb 1 _ _ _ d;have p:(w0.setCell (ae fb 1) (.int .i32 1)).cell? (ae w.heap.size 0)=some (aj fb):=(dz (aC (by show fb≠w.heap.size;omega))).trans y;have r:=I1 fb w.heap.size n D _ p j aa;have s:=zh (fn:=230) (di func230 aO rfl) (R:=fun w1=>∃c,w1.ownsRow w.heap.size 163 7 c (aW n).length ((aW n).flatMap oK)/\w1.heap[fb]? =some (lC 0 1 c n)/\ax (fun k=>k=fb) w w1/\w1.cell? (ae w.heap.size 0)=some (aj fb)) fb 0 (aj w.heap.size) w0 (aG d) (aG d) (aG d) (aG d)
  (r.mono fun e w1 ⟨A,c,g,f,i⟩=>⟨A,⟨c,bH g aD,f,((ax.refl _ w).below m).trans (((ax.refl (fun k=>k=fb) w0).set (a:=(ae fb 1)) _ (.inl rfl)).trans i),((bZ i (b:=w.heap.size) aD aa).1 0).trans p⟩,aG f,aG f,aG f,aG f⟩)
 have t:=ag s;go_enter func164,ntmps164
 go_wp2_with fail
 rw[<-h];refine t.o.mono ?_;rintro e w2 ⟨rfl,w1,⟨c,g,j,i,z⟩,rfl⟩;have x:=dC w1.drew fb 0 _ _ (.int .u32 1) (show w1.drew.heap[fb]? =_ from j);have l:=dC _ fb 1 _ _ (.int .i32 0) x;have C:ax (fun k=>k=fb) w ((w1.drew.setCell (ae fb 0) (.int .u32 1)).setCell (ae fb 1) (.int .i32 0)):=((i.drew).set (a:=(ae fb 0)) _ (.inl rfl)).set (a:=(ae fb 1)) _ (.inl rfl);have E:((w1.drew.setCell (ae fb 0) (.int .u32 1)).setCell (ae fb 1) (.int .i32 0)).ownsRow w.heap.size 163 7 c (aW n).length ((aW n).flatMap oK):=aT (S:=fun k=>k=fb) g ((((ax.refl (fun k=>k=fb) w1).drew).set (a:=(ae fb 0)) _ (.inl rfl)).set (a:=(ae fb 1)) _ (.inl rfl)) (fun v e F=>by have G:=(g.lt v e).1;omega);have H:((w1.drew.setCell (ae fb 0) (.int .u32 1)).setCell (ae fb 1) (.int .i32 0)).cell? (ae w.heap.size 0)=some (aj fb):=by
  exact(dz (aC (by show fb≠w.heap.size;omega))).trans ((dz (aC (by show fb≠w.heap.size;omega))).trans z)
 have I:((w1.drew.setCell (ae fb 0) (.int .u32 1)).setCell (ae fb 1) (.int .i32 0)).cell? (ae fb 3)=some c:=aG l;have u:Hid (Um w fb n (.returned c) ((w1.drew.setCell (ae fb 0) (.int .u32 1)).setCell (ae fb 1) (.int .i32 0))):=⟨c,rfl,E,l,C⟩;obtain⟨K,nc,rfl⟩:=fF g;generalize((w1.drew.setCell (ae fb 0) (.int .u32 1)).setCell (ae fb 1) (.int .i32 0))=L at*;simp only[];go_wp2;go_ret;exact u.o
theorem sj (fb n:Nat) (b:Value) (p:∃a c,b=.slice a (aW n).length c) (w:World) (g:w.heap[fb]? =some (lC 1 0 b n)):
  aK 164 #[aj fb] w (fV w b):=by
 have m:fb<w.heap.size:=(aZ.1 g).1;obtain⟨w0,d⟩:∃w0,w0=w.alloc (.cells #[aj fb] 137):=⟨_,rfl⟩;have f:Below w.heap.size w w0:=by rw[d];exact(aJ _ _).alloc (aB _) _
 have r:w0.cell? (ae w.heap.size 0)=some (aj fb):=by rw[d,ek _ _ _ _ rfl];rfl
 have h:w0.heap[fb]? =some (lC 1 0 b n):=(f.block fb m).trans g;have i:=fun l=>Dv (ae fb 0) l w0 (aG h);have k:=ag i;have q:w0.cell? (ae fb 3)=some b:=aG h;have j:=ag f;obtain⟨s,nc,rfl⟩:=p;clear i h f g;go_enter func164,ntmps164
 go_wp2_with fail
 rw[<-d];clear d;refine(k.o _).mono ?_;rintro e w2 ⟨rfl,rfl⟩;go_wp2;go_ret;exact⟨rfl,j.o⟩
theorem qh (fb:Nat) (w:World) (a:w.cell? (ae fb 5)=some (.bool true)):
  aK 163 #[aj fb] w fun e w'=>e=.returned (.bool false)/\w'=w:=by
 go_enter func163,ntmps163;go_wp2;go_ret;exact⟨rfl,rfl⟩
theorem EK (fb n:Nat) (w:World) (b:w.cell? (ae fb 5)=some (.bool true)) (c:w.cell? (ae fb 4)=some (af n)):
  aK 166 #[aj fb] w fun e w'=>e=.returned (af n)/\w'=w:=by
 have a:=qh fb w b;go_enter func166,ntmps166
 go_wp2_with (go_at_call 163;refine a.mono ?_;rintro e w' ⟨rfl,rfl⟩)
 go_ret;exact⟨rfl,rfl⟩
theorem jw (fb n:Nat) (d:0<n) (g:n<=100000) (w:World) (c:w.cell? (ae fb 5)=some (.bool true)) (b:w.cell? (ae fb 4)=some (af n)):
  aK 95 #[aj fb] w fun e w'=>e=.returned (af ((2*n-2:Nat):Int))/\w'=w:=by
 have a:=EK fb n w c b;have d0:((n:Int)==0)=false:=aD;have f:(2:Int)*(n:Int)-2=((2*n-2:Nat):Int):=aa;generalize((2*n-2:Nat):Int)=r at*;go_enter func95,ntmps95
 go_wp2_with (go_at_call 166;refine a.mono ?_;rintro e w' ⟨rfl,rfl⟩)
 go_ret;exact⟨rfl,rfl⟩
theorem gH (fb n:Nat) (F:n<=40000) (w:World) (d:w.heap[fb]? =some (lC 0 0 (aL) n)):
  aK 92 #[aj fb] w fun e w'=>∃j v,e=.returned v/\w'.ownsRow w.heap.size 163 7 j (aW n).length ((aW n).flatMap oK)/\w'.ownsRow w.heap.size 163 7 v (aW n).length ((aW n).flatMap oK)/\w'.heap[fb]? =some (lC 1 0 j n)/\ax (fun k=>k=fb) w w':=by
 have y:w.cell? (ae fb 5)=some (.bool true):=aG d;have q:=qh fb w y;have B:fb<w.heap.size:=(aZ.1 d).1;have z:(w.alloc (.cells #[] 163)).heap[fb]? =some (lC 0 0 (aL) n):=(bY _ _ _ B).trans d;have p:=ag (zD fb n F _ z);have I:=Am (e:=163) (size:=7) w #[] 0 (aB _) (aX _) rfl;have HO:=ag I;go_enter func92,ntmps92
 go_wp2_with (go_at_call 163;refine q.mono ?_;rintro e w' ⟨rfl,rfl⟩)
 go_wp2_with fail
 refine p.o.mono ?_;rintro e w2 ⟨j,rfl,i,A,g⟩;have K:=aT (S:=fun k=>k=fb) HO.o g (fun a e N=>by have O:=NY e;omega);have H:=i.lt;obtain⟨m,nc,rfl,-,-,J⟩:=bQ.aI jq ai i;have P:(aW n).length<=100000:=by rw[df];omega
 generalize c:aW n=D at*;have r:=ag c;have t:=ag i;have s:=ag A;have E:ax (fun k=>k=fb) w' w2:=((ax.refl _ w').alloc _).trans g;have u:=ag E;have L:=g.size;simp at L;have x:Hid (∀b,(Value.slice m D.length nc).ownBlock=some b->(w'.alloc (.cells #[] 163)).heap.size<=b/\b<w2.heap.size):=fun b e=>H b e
 go_wp2_with (at_builtin;refine iO Sq jq Ki w'.heap.size K J rfl _ _ rfl rfl nc rfl dD aa aa ?_;intro M w3 l C)
 go_ret;rw[jL,fO]at l;have f:ax (fun k=>k=w'.heap.size) w2 w3:=(ax.refl _ w2).grown C (fun k e=>.inl (by injection e with e;exact e.symm));have G:∀a,(Value.slice m D.length nc).ownBlock=some a->a≠w'.heap.size:=fun a e=>by have:=(x.o a e).1;simp at this;omega
 have c:=r.o;subst c;refine⟨_,M,rfl,bH (aT (S:=fun k=>k=w'.heap.size) t.o f G) aA,l,(f.block fb aa aa).trans s.o,?_⟩
 .exact(((u.o.mono (fun k h=>.inl h)).trans (f.mono (fun k h=>.inr aa)))).strip
end
section
open Go.RowKit Go.Sort Go.Shelf Go.Lib Go.Maps
theorem F8 {w:World} {g off:Nat} {N:List Nd} {i:Nat} {d:Nd} (h:bQ oK 7 w (some (ae g off)) N) (hi:N[i]? =some d):
  g<w.heap.size/\w.cell? (ae g (off+i*7))=some (.int .u8 d.kind)/\w.cell? (ae g (off+i*7+1))=some (af d.l)/\w.cell? (ae g (off+i*7+2))=some (af d.r)/\w.cell? (ae g (off+i*7+3))=some (af d.fr)/\w.cell? (ae g (off+i*7+4))=some (af d.Kc)/\w.cell? (ae g (off+i*7+6))=some (af d.item):=by
 have⟨a,hd⟩:=fE.1 hi;rcases h with h|⟨b,o,e,f,j⟩
 .subst h;simp at a
 .cases e;have c:=j i a;rw[hd]at c;exact⟨f,c 0 aa,c 1 aa,c 2 aa,c 3 aa,c 4 aa,c 6 aa⟩
structure nH (w:World) (base fb n:Nat) (nv:Value):Prop where
 blk:w.heap[fb]? =some (lC 1 0 nv n)
 row:w.ownsRow base 163 7 nv (aW n).length ((aW n).flatMap oK)
theorem jT (n:Nat) (h:0<n):FT.At (aW n) (dM 0 n) 0:=⟨[],[],by unfold aW;rw[aM aa];simp,rfl⟩
theorem Bj (w:World) (base:Nat) (xs:List Value) (e:TypeId) (a:base<=w.heap.size) (b:xs.length<=maxLen):(w.alloc (.cells xs.toArray e)).ownsRow base e 1 (au w.heap.size xs.length xs.length) xs.length xs:=
 ⟨aA,.inr ⟨w.heap.size,xs.length,xs.toArray,rfl,a,uE w _,aB _,b,aA,aA⟩⟩
def Un (w:World) (n x:Nat) (e:Ending) (w':World):Prop:=
 ∃v,e=.returned (.tuple #[v,af 0])/\w'.ownsRow w.heap.size 3 1 v ((dM 0 n).path 0 x).length (((dM 0 n).path 0 x).map fun i=>af (i:Nat))/\Below w.heap.size w w'
theorem vF (base fb n x:Nat) (a0:Value) (bc:n<=40000) (be:x<n) (w:World) (h:nH w base fb n a0):
  aK 192 #[aj fb,af x] w (Un w n x):=by
 have al:fb<w.heap.size:=(aZ.1 h.blk).1;have d:=h.blk;have ad:w.cell? (ae fb 5)=some (.bool true):=aG d;have L:w.cell? (ae fb 4)=some (af n):=aG d;have av:=qh fb w ad;have Q:=df n;obtain⟨aY,nc,rfl,-,-,T⟩:=bQ.aI jq ai h.row;have aU:∃g off,aY=some (ae g off):=by
  rcases T with aQ|⟨g,off,e,_⟩
  .rw[aQ]at Q;simp at Q;omega
  .exact⟨g,off,e⟩
 obtain⟨g,off,rfl⟩:=aU;have au:=sj fb n _ ⟨_,_,rfl⟩ w d;have aw:=ag (fun W (d:Below w.heap.size w W)=>jw fb n aa aa W ((d.cell (p:=(ae fb 5)) al).trans ad) ((d.cell (p:=(ae fb 4)) al).trans L));have ak:=bJ 0 n aa;have hS:=fe 0 n aa;have ax:=ag (jT n aa);have X:=ag T;have j:Hid ((dM 0 n).wf/\(dM 0 n).lo<=x/\x<(dM 0 n).hi/\(dM 0 n).root 0=2*n-2):=⟨ak.1,aa,aa,by unfold FT.root;omega⟩;have d1:decide ((x:Int)<0)=false:=aA;have d2:decide ((x:Int)>=(n:Int))=false:=aD;have d3:decide ((n:Int)<=(x:Int))=false:=aD;have d4:decide (n<=x)=false:=aD;have aR:(aW n).length<=100000:=aa;generalize ah:aW n=D at*;have a5:=ag ah;clear ah d h T ak hS Q;go_enter func192,ntmps192
 go_wp2_with fail
 with_reducible refine av.mono ?_
 rintro e w' ⟨rfl,ac⟩;subst w'
 go_wp2_with fail
 with_reducible refine au.mono ?_
 rintro e w1 ⟨rfl,E⟩
 go_wp2_with fail
 refine(aw.o w1 E).mono ?_;rintro e w2 ⟨rfl,ac⟩;subst ac
 go_wp2_with fail
 have am:=Bj w2 w.heap.size [.int .i64 ((2*n-2:Nat):Int)] 3 E.size (by unfold maxLen;simp);simp only[dY,eZ,jL]at am
 go_loopg [7,8] ((dM 0 n).ht) (fun aX a2 a3 wr=>∃(t:FT) (s:Nat) (a:List Nat),a2=.int .i64 (t.root s:Nat)/\t.ht<=aX/\Below w.heap.size w wr/\Hid (FT.At D t s)/\Hid ((dM 0 n).path 0 x=a++t.path s x)/\Hid (t.wf/\t.lo<=x/\x<t.hi)/\
  Hid (wr.ownsRow w.heap.size 3 1 a3 (a.length+1) ((a++[t.root s]).map fun i=>af (i:Nat))))
 case atStart=>exact⟨dM 0 n,0,[],by rw[j.o.2.2.2],aB _,(E.trans ((aJ _ w2).alloc E.size _)),ax,rfl,⟨j.o.1,j.o.2.1,j.o.2.2.1⟩,by rw[j.o.2.2.2];exact am⟩
 case round=>
  obtain⟨t,s,a,rfl,ba,b,c,G,aC,HO⟩:=hrel;obtain⟨F,Z,z,A,I,J,K⟩:=F8 (X.o.below b) c.o.get;have bb:=c.o.lt;have bd:a.length+1<=n+1:=by
   have C:=FT.oF (dM 0 n) 0 x;have a6:=vB 0 n n (uY (Eh));have a7:0<(t.path s x).length:=by obtain⟨P,hP⟩:=FT.sQ t s x;rw[hP];simp
   have L:=G.o;rw[L,bS]at C;omega
  have a8:D.length<=100000:=aR;cases t with
  |leaf q=>
   simp only[FT.top]at Z z A I J K;have V:Hid (a.length+1=((dM 0 n).path 0 x).length/\a++[(FT.leaf q).root s]=(dM 0 n).path 0 x):=by
    show _/\_;rw[G.o];simp[FT.path,FT.root,FT.size]
   generalize(FT.leaf q).root s=k at*;go_wp2;go_ret2;have C:=HO.o;rw[V.o.1,V.o.2]at C;exact⟨_,rfl,C,b⟩
  |node l r=>
   simp only[FT.top]at Z z A I J K;have B:((s+l.size:Nat):Int)-1=((l.root s:Nat):Int):=by unfold FT.root;have:=l.size_pos;omega
   have ab:((s+l.size+r.size:Nat):Int)-1=((r.root (s+l.size):Nat):Int):=by unfold FT.root;have:=r.size_pos;omega
   rw[B]at z;rw[ab]at A;clear B ab I J K;obtain⟨-,aE,aF,aH,aL,H,aO⟩:=F8 (X.o.below b) c.o.left.get;rw[FT.vC]at H;clear aE aF aH aL aO;have aT:=c.o.left.lt;have aV:=c.o.right.lt;have a9:(FT.node l r).ht=max l.ht r.ht+1:=rfl;have U:Hid ((dM 0 n).path 0 x=(a++[(FT.node l r).root s])++(if x<l.hi then l.path s x else r.path (s+l.size) x)):=by
    show _=_;rw[G.o,dX];rfl
   have ay:=ag c.o.left;have az:=ag c.o.right;have Y:=ag aC.o;have y:=HO.o;generalize aS:(FT.node l r).root s=k at*;have an:(a++[k]).length=a.length+1:=aA;obtain⟨kl,M⟩:∃kl,kl=l.root s:=⟨_,rfl⟩;obtain⟨kr,N⟩:∃kr,kr=r.root (s+l.size):=⟨_,rfl⟩;rw[<-M]at z H aT;rw[<-N]at A aV;have u:Hid (kl=l.root s/\kr=r.root (s+l.size)):=⟨M,N⟩;obtain⟨m,R⟩:∃m,m=l.hi:=⟨_,rfl⟩;rw[<-R]at H;have v:Hid (m=l.hi):=R;clear M N R aS;by_cases f:x<m
   .have d5:decide ((x:Int)<(m:Int))=true:=aP f;have d6:decide (x<m)=true:=aP f
    go_wp2_with (at_builtin;refine vz nA w.heap.size y [.int .i64 kl] rfl (by simp[Value.oneCell']) rfl _ _ rfl rfl _ rfl dD aa b.size ?_;intro a4 w3 S F)
    go_roundg l.ht
    case measure=>omega
    case rel=>
     have O:=Y.o;refine⟨l,s,a++[k],by rw[<-u.o.1],aB _,dB b y F b.size (aB _),ay,?_,?_,?_⟩
     .show _=_;rw[U.o,<-v.o,aN f]
     .have B:=v.o;obtain⟨⟨ao,ap,a1⟩,aq,ar⟩:=O;exact⟨ao,aq,aa⟩
     .rw[an,bL,<-u.o.1];exact S
   .have d5:decide ((x:Int)<(m:Int))=false:=aP f;have d6:decide (x<m)=false:=aP f
    go_wp2_with (at_builtin;refine vz nA w.heap.size y [.int .i64 kr] rfl (by simp[Value.oneCell']) rfl _ _ rfl rfl _ rfl dD aa b.size ?_;intro a4 w3 S F)
    go_roundg r.ht
    case measure=>omega
    case rel=>
     have O:=Y.o;refine⟨r,s+l.size,a++[k],by rw[<-u.o.2],aB _,dB b y F b.size (aB _),az,?_,?_,?_⟩
     .show _=_;rw[U.o,<-v.o,aM f]
     .have B:=v.o;obtain⟨⟨ao,ap,a1⟩,aq,ar⟩:=O;exact⟨ap,aa,ar⟩
     .rw[an,bL,<-u.o.2];exact S
end
section
open Go.RowKit Go.Sort Go.Shelf Go.Lib Go.Maps
attribute [local irreducible] wpQuiet
attribute [local go_sem] Oper.eF
section
variable {P:Program} {ops:Array Oper} {o:Oper} {a:Act} {K:Act->World->Prop} {Q:Exit->Act->World->Prop} {E0:Prop}
theorem F9 {α:Type} {enc:α->List Value} {sz:Nat} {t e:TypeId} {bytes:Nat} (f:eD P t e sz bytes) {W:World} {ad:Option Addr} {l:List α} {c:Nat} (s:bQ enc sz W ad l) (k:l.length<=c) (lo hi:Nat) (g:lo<=hi) (j:hi<=l.length)
  (m:o.guard=none) (x:Operand) (lw d:Operand) (v:o.op=.slice t x (some lw) (some d) none) (B:a.eval x=.slice ad l.length c)
  (u:a.eval lw=.int .i64 lo) (p:a.eval d=.int .i64 hi)
  (h:∀b,bQ enc sz W b ((l.take hi).drop lo)->K (a.put o.dst (.slice b (hi-lo) (c-lo))) W):
  if Region.wanted o (yielded ops a.tmps)=true then Oper.wp P o a W K Q else E0:=by
 have A:Region.wanted o (yielded ops a.tmps)=true:=by simp[Region.wanted,m]
 rw[aN A];obtain⟨ht,⟨i,z,q,E,y,C,F⟩,D⟩:=f;have r:=h _ (EG s k lo hi j);have hu:∀W',(underlying t).run P W'=.ok (.slice e) W':=fun W'=>pF ht W';have w:∀W',(sizeOf e).run P W'=.ok sz W':=fun W'=>by simp[sizeOf,typeInfo,q,y]
 have n:hi<=c:=aa;unfold Oper.wp execOp;simp[v,B,u,p,Instr.sliceAt,Instr.slice,Instr.sliceBounds,Instr.sliceBound,hu,w,asIntOf,g,n];exact r
end
theorem Rd.Vm {α:Type} {enc:α->Value} {w:World} {a:Option Addr} {l:List α} (h:Rd enc w a l):bQ (fun x=>[enc x]) 1 w a l:=by
 rcases h with h|⟨b,off,e,c,d⟩
 .exact .inl h
 .exact .inr ⟨b,off,e,c,fun i hi j f=>by
   obtain rfl:j=0:=aa;rw[iM,dx];exact d i hi⟩
theorem Qy:gF 105:=di func105 aO rfl
def SG (B ob:Nat) (nm:Nat->Int) (w0:World) (W:World) (acc:List Nat) (D:Nat->Prop):Prop:=
 Below B w0 W/\∃v,W.heap[ob]? =some (.cells #[v] 35 (0,0))/\W.ownsRow B 27 1 v acc.length ((acc.map nm).map (Value.int .u32))/\D=fun k=>k=ob\/v.ownBlock=some k
theorem NZ (N:List Nd) (nm:Nat->Int) (YS:List Nat) (LN LL:Nat->Value) (tb B ob:Nat) (w0:World) (J:List Nat) (a6:J.length<=1000000) (V:B<=ob) (E:B=w0.heap.size) (aw:IQ w0 tb N nm YS LN LL) (a7:YS.length<=1000000):
  Told 105 #[aj ob] N YS LN LL B w0 J (SG B ob nm w0) where
 enters:=Qy
 base:=fun W d D h=>h.1
 lt:=fun W d D h k hk=>by
  obtain⟨n,v,f,g,rfl⟩:=h;rcases hk with rfl|hk
  .exact⟨V,(aZ.1 f).1⟩
  .exact g.lt k hk
 kN:=fun W W' d D h F=>by
  obtain⟨n,v,f,g,rfl⟩:=h;exact⟨n.trans (F.mono (E▸n.size)),v,(F.block ob (aZ.1 f).1).trans f,az g F,rfl⟩
 told:=fun W d D t s a b h aE aI a8 hF=>by
  obtain⟨n,v,f,g,rfl⟩:=h;have T:(d++((nl YS t).take b).drop a).length=d.length+(b-a):=by rw[bS,mK,eQ];omega
  have aO:=hF.length_le;rw[T]at aO;have⟨q,cn,au,a9,a0⟩:=aw.FV t s aE;have a1:=a0.below n (AY E.symm);rw[au];generalize ba:nl YS t=L at*;generalize LL (t.root s)=I at*;obtain⟨i,j,rfl⟩:=fF g;have X:ob<W.heap.size:=(aZ.1 f).1;obtain⟨w1,r⟩:∃w1,w1=W.alloc (.cells #[.slice q L.length cn,I] 150):=⟨_,rfl⟩;have w:Below W.heap.size W w1:=by rw[r];exact(aJ _ _).alloc (aB _) _
  have aY:w1.heap[W.heap.size]? =some (.cells #[.slice q L.length cn,I] 150 (0,0)):=by rw[r];exact cB W _
  have U:=(w.block ob X).trans f;have ao:w1.cell? (ae ob 0)=some (.slice i d.length j):=aG U;have ap:w1.cell? (ae W.heap.size 0)=some (.slice q L.length cn):=aG aY;have a4:=ah ao;have a5:=ah ap;have ad:Hid (w1.drew.ownsRow B 27 1 (.slice i d.length j) d.length ((d.map nm).map (Value.int .u32))):=az g w.drew;have al:Hid (Rd (.int .u32) w1.drew q (L.map nm)):=a1.below w.drew;have ab:=ag U;have Y:=ag w;have M:=ag n;have aa:=ag T;have aW:W.heap.size<w1.heap.size:=by rw[r];simp
  have aU:=g.lt;have an:=ag aU;have aV:∀m,(Value.slice i d.length j).ownBlock=some m->ob≠m:=bn g f ai;have P:=ag aV;have aP:(L.map nm).length=L.length:=aA;show aK 105 #[.agg #[.slice q L.length cn,I],af a,af b,aj ob] W _;go_enter func105,ntmps105
  go_wp2_with fail
  rw[<-r];refine ak (fun W=>∃p:aQ w1,W=p.W) [6,7] [(0,true),(1,false),(2,true),(3,false),(4,false)] ⟨⟨_,(aJ _ _).drew⟩,rfl⟩ 3 ?_;refine aF 5 rfl fun K aC=>?_;refine F9 (c:=cn) uk al.o.Vm aD a b aI aD rfl (.tmp 9) (.tmp 10) (.tmp 11) rfl (by rw[aP];rfl) rfl rfl ?_;intro a2 aS;refine aC _ _ (fun h _=>h) ?_;refine aH [6,7] ?_;have y:(((L.map nm).take b).drop a).length=b-a:=aD;refine nC uk (fun _=>rfl) (fun x u hu=>by simp at hu;subst hu;rfl) B ad.o aS rfl (.tmp 7) (.tmp 12) rfl rfl (cn-a) (by rw[y];rfl) (by rw[y];unfold maxLen;omega) (by rw[y];omega) (by show B<=w1.heap.size;omega) ?_;intro bb w2 H aM aL;rw[y]at H;have R:ax (fun k=>(Value.slice i d.length j).ownBlock=some k) w1.drew w2:=(ax.refl _ _).grown aM (fun k hk=>.inl hk);have aX:ob<w1.heap.size:=uZ X aW;have aN:¬(Value.slice i d.length j).ownBlock=some ob:=fun h=>P.o ob h rfl;have G:w2.heap[ob]? =some (.cells #[.slice i d.length j] 35 (0,0)):=(R.block ob aX aN).trans ab.o;have a3:w2.cell? (ae ob 0)=some (.slice i d.length j):=aG G;have bc:w2.frozen? (ae ob 0)=false:=aG G;have ac:=ag G;have am:=ag H;have Z:Hid (ax (fun k=>k=ob\/(Value.slice i d.length j).ownBlock=some k) W w2):=(((ax.refl _ W).below Y.o).drew).trans (R.mono fun k h=>.inr h);have O:=ag aL;obtain⟨z,A,rfl⟩:=fF H;go_wp2
  first|go_end0|go_ret
  have Q:=(Z.o.set (a:=(ae ob 0)) (.slice z (d.length+(b-a)) A) (.inl (.inl rfl)));have aR:∀m,(Value.slice z (d.length+(b-a)) A).ownBlock=some m->m≠ob:=fun m e=>by
   rcases O.o with h9|h9
   .exact fun C=>P.o m (h9▸e) C.symm
   .rw[h9]at e;injection e with e;intro C;have:w1.drew.heap.size=ob:=by rw[e,C]
    have av:w1.heap.size=ob:=this;omega
  refine⟨rfl,_,⟨M.o.trans (Q.toBelow (bD (AY E) M.o.size) (fun k h=>?_)),.slice z (d.length+(b-a)) A,dC _ ob 0 _ _ _ ac.o,?_,rfl⟩,fun k h=>?_,Q⟩
  .rcases h with rfl|h
   .exact V
   .exact(an.o k h).1
  .have h9:=aT (S:=fun k=>k=ob) am.o ((ax.refl (fun k=>k=ob) w2).set (a:=(ae ob 0)) (.slice z (d.length+(b-a)) A) (.inl rfl)) aR;have aq:(d++(L.take b).drop a).length=d.length+(b-a):=aa.o;rw[aq];have ar:(((d++(L.take b).drop a).map nm).map (Value.int .u32))=((d.map nm).map (Value.int .u32))++(((L.map nm).take b).drop a).flatMap (fun x=>[ay x]):=by
    rw[bL,bL,<-List.map_take,<-xV];congr 1
    induction(((L.take b).drop a).map nm)with
    |nil=>rfl
    |cons x l ih=>rw[jK,lX,ih];rfl
   rw[ar];exact h9
  .rcases h with rfl|h
   .exact .inl (.inl rfl)
   .rcases O.o with h9|h9
    .exact .inl (.inr (h9▸h))
    .rw[h9]at h;injection h with h;right;have av:w1.heap.size=k:=h;omega
end
section
open Go.RowKit
theorem Bl (g:Nat) (cb:Array Value) (n:Nat) (p:Nat->Bool) (w:World) (G:n<4611686018427387904) (C:∀args w,(callFunc g args).run prog w=.ok (.enter g args) w)
  (q:∀(W:World) (i:Nat),Below w.heap.size w W->i<n->aK g (#[af i]++cb) W (fV W (.bool (p i)))):
  aK 252 #[af n,.func (.func g) #[] cb] w (fV w (.tuple #[af (bsrch p n 0 n 0).1,af (bsrch p n 0 n 0).2])):=by
 have l:=ag q;generalize u:bsrch p n 0 n 0=r;have m:=ag u;have⟨x,y⟩:=r;go_enter func252,ntmps252;go_wp2
 go_loopg [6,7,8] n (fun v z A B wr=>∃(lo hi k:Nat),z=.int .i64 lo/\A=.int .i64 hi/\B=.int .i64 k/\lo<=hi/\hi<=n/\k+(hi-lo)<=n/\hi-lo<=v/\Below w.heap.size w wr/\
  Hid (bsrch p n lo hi k=(x,y)))
 case atStart=>exact⟨0,n,0,rfl,rfl,rfl,aX _,aB _,aa,aa,aJ _ _,m⟩
 case round=>
  obtain⟨lo,hi,k,rfl,rfl,rfl,F,s,E,D,b,j⟩:=hrel;by_cases t:lo<hi
  .have c:=l.o wr (lo+(hi-lo)/2) b aa;rw[show((lo+(hi-lo)/2:Nat):Int)=(lo:Int)+((hi:Int)-(lo:Int))/2 by omega]at c;have a:=j.o;have f:bsrch p n lo hi k=bsrch p (n+1) lo hi k:=IL p _ _ _ _ _ aa aa;rw[f,bsrch,aN t]at a;cases hp:p (lo+(hi-lo)/2)<;>rw[hp]at c a
   .have d:=ag a
    go_wp2_with (go_at_fn g;refine c.mono ?_;rintro e w' ⟨rfl,h⟩)
    go_roundg (hi-(lo+(hi-lo)/2+1))
    case measure=>omega
    case rel=>
     exact⟨lo+(hi-lo)/2+1,hi,k+1,by go_num,rfl,by go_num,aa,s,aa,aB _,b.trans (h.mono b.size),d.o⟩
   .have d:=ag a
    go_wp2_with (go_at_fn g;refine c.mono ?_;rintro e w' ⟨rfl,h⟩)
    go_roundg ((lo+(hi-lo)/2)-lo)
    case measure=>omega
    case rel=>
     exact⟨lo,lo+(hi-lo)/2,k+1,rfl,by go_num,by go_num,aa,aa,aa,aB _,b.trans (h.mono b.size),d.o⟩
  .obtain rfl:hi=lo:=aa;have a:=j.o;have f:bsrch p n hi hi k=(hi,k):=by cases n<;>simp[bsrch]
   rw[f]at a;cases a;go_wp2;go_ret2;exact⟨rfl,b⟩
theorem Qz (i:Nat) (d bx:Nat) (a:Option Addr) (l:List Int) (c:Nat) (x:Int) (W:World) (g:W.cell? (ae d 0)=some (.slice a l.length c)) (n:W.cell? (ae bx 0)=some (af x))
  (h:Rd (.int .i64) W a l) (hi:i<l.length):
  aK 253 (#[af i]++#[aj d,aj bx]) W (fV W (.bool (decide (x<=l.getD i 0)))):=by
 obtain⟨b,off,rfl,j,e⟩:=h.get aa;have k:=e i hi;have f:l.getD i 0=l[i]:=by simp[hi]
 rw[f];clear f e;generalize l[i]=y at*;have m:(i:Int)<(l.length:Int):=aa;go_enter func253,ntmps253;go_wp2
 go_quiet (fail)
 go_wp2;go_ret;exact⟨vZ (by first|rfl|simp),⟨rfl,rfl,rfl,aB _,fun _ _=>rfl⟩⟩
theorem Gc:gF 253:=di func253 aO rfl
theorem EL (a:Option Addr) (l:List Int) (c:Nat) (x:Int) (w:World) (h:Rd (.int .i64) w a l) (j:l.length<4611686018427387904):
  aK 170 #[.slice a l.length c,af x] w (fV w (.tuple #[af (aV l x).1,af (aV l x).2])):=by
 have H:=ag h;unfold aV;have f:=Gc;have d:Hid (∀(W:World) (i:Nat),Below ((w.alloc (.cells #[.slice a l.length c] 143)).alloc (.cells #[af x] 2)).heap.size ((w.alloc (.cells #[.slice a l.length c] 143)).alloc (.cells #[af x] 2)) W->i<l.length->
   aK 253 (#[af i]++#[aj w.heap.size,aj (w.heap.size+1)]) W (fV W (.bool ((fun i=>decide (x<=l.getD i 0)) i)))):=by
  intro W i b hi;have g:Below w.heap.size w W:=(((aJ _ _).alloc (aB _) _).alloc aA _).trans (b.mono aD);refine Qz i _ _ a l c x W ?_ ?_ (H.o.below g) hi
  .rw[b.cell aD];simp
  .rw[b.cell aA];simp
 generalize(fun i=>decide (x<=l.getD i 0))=p at*;go_enter func170,ntmps170
 go_wp2_with (go_at_call 252;refine(Bl _ _ _ p _ j f d.o).mono ?_;rintro e w' ⟨rfl,b⟩)
 go_ret2;exact⟨rfl,(((aJ _ _).alloc (aB _) _).alloc aA _).trans (b.mono aD)⟩
theorem QA (i:Nat) (d bx:Nat) (a:Option Addr) (l:List Int) (c:Nat) (x:Int) (W:World) (g:W.cell? (ae d 0)=some (.slice a l.length c)) (n:W.cell? (ae bx 0)=some (af x))
  (h:Rd (.int .i64) W a l) (hi:i<l.length):
  aK 254 (#[af i]++#[aj d,aj bx]) W (fV W (.bool (decide (x<l.getD i 0)))):=by
 obtain⟨b,off,rfl,j,e⟩:=h.get aa;have k:=e i hi;have f:l.getD i 0=l[i]:=by simp[hi]
 rw[f];clear f e;generalize l[i]=y at*;have m:(i:Int)<(l.length:Int):=aa;go_enter func254,ntmps254;go_wp2
 go_quiet (fail)
 go_wp2;go_ret;exact⟨vZ (by first|rfl|simp),⟨rfl,rfl,rfl,aB _,fun _ _=>rfl⟩⟩
theorem Gd:gF 254:=di func254 aO rfl
theorem EM (a:Option Addr) (l:List Int) (c:Nat) (x:Int) (w:World) (h:Rd (.int .i64) w a l) (j:l.length<4611686018427387904):
  aK 171 #[.slice a l.length c,af x] w (fV w (.tuple #[af (aR l x).1,af (aR l x).2])):=by
 have H:=ag h;unfold aR;have f:=Gd;have d:Hid (∀(W:World) (i:Nat),Below ((w.alloc (.cells #[.slice a l.length c] 143)).alloc (.cells #[af x] 2)).heap.size ((w.alloc (.cells #[.slice a l.length c] 143)).alloc (.cells #[af x] 2)) W->i<l.length->
   aK 254 (#[af i]++#[aj w.heap.size,aj (w.heap.size+1)]) W (fV W (.bool ((fun i=>decide (x<l.getD i 0)) i)))):=by
  intro W i b hi;have g:Below w.heap.size w W:=(((aJ _ _).alloc (aB _) _).alloc aA _).trans (b.mono aD);refine QA i _ _ a l c x W ?_ ?_ (H.o.below g) hi
  .rw[b.cell aD];simp
  .rw[b.cell aA];simp
 generalize(fun i=>decide (x<l.getD i 0))=p at*;go_enter func171,ntmps171
 go_wp2_with (go_at_call 252;refine(Bl _ _ _ p _ j f d.o).mono ?_;rintro e w' ⟨rfl,b⟩)
 go_ret2;exact⟨rfl,(((aJ _ _).alloc (aB _) _).alloc aA _).trans (b.mono aD)⟩
end
section
open Go.RowKit Go.Sort Go.Shelf Go.Lib Go.Maps
attribute [local irreducible] wpQuiet
attribute [local go_sem] Oper.eF
structure yt where
 rv:Value
 xv:Value
 gv:Value
 nv:Value
 lv:Value
 yv:Value
 fv:Value
 LN:Nat->Value
 LL:Nat->Value
structure jC (w:World) (lo hi tb fb:Nat) (R:List Pt) (gone:List Bool) (YS:List Nat) (V:yt):Prop where
 blk:w.heap[tb]? =some (.cells #[V.rv,V.xv,V.gv,aj fb,V.nv,V.lv,V.yv,af YS.length] 146 (0,0))
 fo:lo<=tb/\tb<hi/\lo<=fb/\fb<hi/\hi<=w.heap.size
 row:w.ownsRow lo 29 3 V.rv R.length (R.flatMap bX)
 xs:w.ownsRow lo 2 1 V.xv R.length ((bU R).map (Value.int .i64))
 Dw:w.ownsRow lo 4 1 V.gv R.length (gone.map Value.bool)
 iD:nH w lo fb R.length V.fv
 jc:w.ownsRow lo 163 7 V.nv (aW R.length).length ((aW R.length).flatMap oK)
 EF:w.ownsRow lo 150 2 V.lv (aW R.length).length ((List.range (aW R.length).length).flatMap fun k=>[V.LN k,V.LL k])
 ys:w.ownsRow lo 2 1 V.yv YS.length ((jl R YS).map (Value.int .i64))
 FV:∀t s,FT.At (aW R.length) t s->w.ownsRow lo 27 1 (V.LN (t.root s)) (nl YS t).length (((nl YS t).map (jI R)).map (Value.int .u32))
 Bc:∀l r s,FT.At (aW R.length) (.node l r) s->w.ownsRow lo 3 1 (V.LL ((FT.node l r).root s)) (lf l.hi (nl YS (.node l r))).length ((lf l.hi (nl YS (.node l r))).map (Value.int .i64))
 Dr:∀k,k<(aW R.length).length->∃a m c,V.LL k=.slice a m c
 top:∀v,v=V.rv\/v=V.xv\/v=V.gv\/v=V.nv\/v=V.lv\/v=V.yv\/v=V.fv->∀g,v.ownBlock=some g->g<hi
 oO:∀k,k<(aW R.length).length->(∀g,(V.LN k).ownBlock=some g->g<hi)/\∀g,(V.LL k).ownBlock=some g->g<hi
 Nv:∀g,V.xv.ownBlock=some g->V.yv.ownBlock≠some g
 H7:∀i k,i<(aW R.length).length->k<(aW R.length).length->i≠k->∀g,(V.LN i).ownBlock=some g->(V.LN k).ownBlock≠some g
 Gf:∀i k,i<(aW R.length).length->k<(aW R.length).length->i≠k->∀g,(V.LL i).ownBlock=some g->(V.LL k).ownBlock≠some g
theorem jC.kept {S:Nat->Prop} {w w':World} {lo hi tb fb:Nat} {R:List Pt} {gone:List Bool} {YS:List Nat} {V:yt} (h:jC w lo hi tb fb R gone YS V) (K:ax S w w') (hS:∀k,lo<=k->k<hi->¬S k):jC w' lo hi tb fb R gone YS V:=by
 have ht:=h.top;have a:∀{e:TypeId} {sz:Nat} {v:Value} {n:Nat} {xs:List Value},w.ownsRow lo e sz v n xs->(∀g,v.ownBlock=some g->g<hi)->w'.ownsRow lo e sz v n xs:=fun a d=>aT a K fun g e=>hS g (a.lt g e).1 (d g e);have c:∀t s,FT.At (aW R.length) t s->t.root s<(aW R.length).length:=fun t s b=>b.lt;exact⟨bz K h.blk (hS tb h.fo.1 h.fo.2.1),⟨h.fo.1,h.fo.2.1,h.fo.2.2.1,h.fo.2.2.2.1,bD h.fo.2.2.2.2 K.size⟩,
  a h.row (ht _ aA),a h.xs (ht _ aA),a h.Dw (ht _ aA),
  ⟨bz K h.iD.blk (hS fb h.fo.2.2.1 h.fo.2.2.2.1),a h.iD.row (ht _ aA)⟩,a h.jc (ht _ aA),a h.EF (ht _ aA),a h.ys (ht _ aA),
  fun t s b=>a (h.FV t s b) (h.oO _ (c t s b)).1,fun l r s b=>a (h.Bc l r s b) (h.oO _ (c _ s b)).2,h.Dr,h.top,h.oO,h.Nv,h.H7,h.Gf⟩
theorem jC.below {w w':World} {B lo hi tb fb:Nat} {R:List Pt} {gone:List Bool} {YS:List Nat} {V:yt} (h:jC w lo hi tb fb R gone YS V) (a:Below B w w') (e:hi<=B):jC w' lo hi tb fb R gone YS V:=
 h.kept (S:=fun k=>hi<=k) ⟨a.os,a.tape,a.output,a.size,fun k f g=>a.block k aa⟩ fun k b c d=>aa
theorem jC.dn {w:World} {lo hi tb fb:Nat} {R:List Pt} {gone:List Bool} {YS:List Nat} {V:yt} (h:jC w lo hi tb fb R gone YS V) (E:0<R.length):IQ w tb (aW R.length) (jI R) YS V.LN V.LL:=by
 have o:=h.blk;have G:=df R.length;have x:w.cell? (ae tb 4)=some V.nv:=aG o;have y:w.cell? (ae tb 5)=some V.lv:=aG o;refine⟨?_,?_,fun t s n=>?_,fun l r s n=>?_,h.Dr⟩
 .obtain⟨g,c,e,_⟩:=aU h.jc aa;obtain⟨a,v,i,-,-,d⟩:=bQ.aI jq ai h.jc;rw[e]at i;injection i with j z A;rw[<-j]at d;exact⟨g,0,c,by rw[x,e],d⟩
 .obtain⟨g,c,e,_,D,_⟩:=aU h.EF aa;have H:(aW R.length).length=(List.range (aW R.length).length).length:=aA;obtain⟨a,v,i,-,-,d⟩:=bQ.aI (enc:=fun k=>[V.LN k,V.LL k]) (fun _=>rfl) ai h.EF;rw[e]at i;injection i with j z A;rw[<-j]at d;refine⟨g,c,by rw[y,e],D,fun k p=>?_⟩;have⟨b,off,m,F,f⟩:=d.get aD;injection m with m;injection m with C B _;subst C B;have q:=f k (aP p) 0 aa;have u:=f k (aP p) 1 aa;simp only[xK,jL,dx,fw,fD]at q u;exact⟨q,u⟩
 .obtain⟨a,c,e,-,f,d⟩:=Rd.aI (h.FV t s n);rw[bT]at e f;exact⟨a,c,e,f,d⟩
 .obtain⟨a,c,e,-,f,d⟩:=Rd.aI (h.Bc l r s n);exact⟨a,c,e,d⟩
theorem yu (tb fb:Nat) (w:World) (a:w.cell? (ae tb 3)=some (aj fb)):
  aK 169 #[aj tb] w fun e w'=>e=.returned (.bool false)/\w'=w:=by
 go_enter func169,ntmps169;go_wp2;go_ret;exact⟨rfl,rfl⟩
theorem mf (p:Nat->Bool) (n:Nat) (hp:∀i j,i<=j->j<n->p i=true->p j=true):∀(f lo hi k:Nat),hi-lo<=f->lo<=hi->hi<=n->(∀t,t<lo->p t=false)->(∀t,hi<=t->t<n->p t=true)->
  (bsrch p f lo hi k).1<=n/\(∀t,t<(bsrch p f lo hi k).1->p t=false)/\(∀t,(bsrch p f lo hi k).1<=t->t<n->p t=true):=by
 intro f
 induction f with
 |zero=>
  intro lo hi k e g a b c;simp only[bsrch];obtain rfl:hi=lo:=aa;exact⟨a,b,c⟩
 |succ f ih=>
  intro lo hi k e g a b c;simp only[bsrch];by_cases h:lo<hi
  .rw[aN h];by_cases d:p (lo+(hi-lo)/2)=true
   .rw[aN d];exact ih _ _ _ aa aa aa b (fun t ht m=>hp _ t ht m d)
   .rw[aM d];refine ih _ _ _ aa aa a (fun t ht=>?_) c;cases l:p t with
    |false=>rfl
    |true=>exact absurd (hp t _ aa aa l) d
  .rw[aM h];obtain rfl:hi=lo:=aa;exact⟨a,b,c⟩
theorem oP {α:Type} {q:α->Bool}:∀(l:List α) (m:Nat),m<=l.length->(∀t (h:t<l.length),t<m->q l[t]=true)->(∀t (h:t<l.length),m<=t->q l[t]=false)->m=l.countP q
 |[],m,a,_,_=>by simp at a;simp[a]
 |x::l,0,_,_,b=>by
  symm;refine Ed.2 fun y f=>?_;obtain⟨t,ht,rfl⟩:=jb f;rw[b t ht (aX _)];decide
 |x::l,m+1,a,c,b=>by
  have d:q x=true:=c 0 aA aa;rw[Ik d,<-oP l m (aP a) (fun t ht e=>c (t+1) (aP ht) aa) (fun t ht e=>b (t+1) (aP ht) aa)]
theorem CL {l:List Int} (g:l.Pairwise (·<=·)) (x:Int):(aV l x).1=l.countP fun y=>decide (y<x):=by
 have⟨c,d,f⟩:=mf (fun i=>decide (x<=l.getD i 0)) l.length (fun i j h b hi=>by
  by_cases e:i=j
  .exact e▸hi
  .have:=gQ.1 g i j aa b aa;simp[b,show i<l.length by omega]at hi |-;omega) l.length 0 l.length 0 aa aa (aB _) aa aa
 unfold aV;refine oP l _ c (fun t ht a=>?_) (fun t ht a=>?_)
 .have:=d t a;simp[ht]at this;simpa using this
 .have:=f t a ht;simp[ht]at this;simpa using this
theorem CO {l:List Int} (g:l.Pairwise (·<=·)) (x:Int):(aR l x).1=l.countP fun y=>decide (y<=x):=by
 have⟨c,d,f⟩:=mf (fun i=>decide (x<l.getD i 0)) l.length (fun i j h b hi=>by
  by_cases e:i=j
  .exact e▸hi
  .have:=gQ.1 g i j aa b aa;simp[b,show i<l.length by omega]at hi |-;omega) l.length 0 l.length 0 aa aa (aB _) aa aa
 unfold aR;refine oP l _ c (fun t ht a=>?_) (fun t ht a=>?_)
 .have:=d t a;simp[ht]at this;simpa using this
 .have:=f t a ht;simp[ht]at this;simpa using this
theorem cu.VU {R:List Pt} {gone:List Bool} {YS:List Nat} (h:cu R gone YS):(jl R YS).Pairwise (·<=·):=dA.2 h.le
theorem N7 {R:List Pt} {gone:List Bool} {YS:List Nat} (h:cu R gone YS) (y:Int):(aV (jl R YS) y).1=below (lI R) y YS:=by
 rw[CL h.VU];unfold jl below;rw[Et];rfl
theorem QB {R:List Pt} {gone:List Bool} {YS:List Nat} (h:cu R gone YS) (y:Int):(aR (jl R YS) y).1=upto (lI R) y YS:=by
 rw[CO h.VU];unfold jl upto;rw[Et];rfl
theorem gq (p:Nat->Bool) (n:Nat):(bsrch p n 0 n 0).2<=n/\(bsrch p n 0 n 0).1<=n:=by
 have:=ED p n 0 n 0 aa;omega
def EN (S:World->List Nat->(Nat->Prop)->Prop) (W:World) (D:Nat->Prop) (r:List Nat×Nat) (e:Ending) (w':World):Prop:=
 e=.returned (af r.2)/\∃D',S w' r.1 D'/\(∀k,D' k->D k\/W.heap.size<=k)/\ax D W w'
theorem LJ (F:Nat) (cb:Array Value) (R:List Pt) (gone:List Bool) (YS:List Nat) (V:yt) (lo hi tb fb:Nat) (W:World) (S:World->List Nat->(Nat->Prop)->Prop) (D:Nat->Prop) (x1 x2 y1 y2 j:Int)
  (b:jC W lo hi tb fb R gone YS V) (c:R=[]\/x2<x1\/y2<y1) (u:∀W',Below W.heap.size W W'->S W' [] D):
  aK 104 #[aj tb,.agg #[af x1,af x2,af y1,af y2,ay j],.func (.func F) #[] cb] W (EN S W D (lM R YS x1 x2 y1 y2)):=by
 have m:=b.blk;have e:lM R YS x1 x2 y1 y2=([],0):=by unfold lM;rw[aN c]
 rw[e];obtain⟨y,z,s⟩:=fF b.row;have x:tb<W.heap.size:=bR b.fo.2.1 b.fo.2.2.2.2;rw[s]at m;have i:Hid (∀W',Below W.heap.size W W'->EN S W D ([],0) (.returned (af 0)) W'):=fun W' h=>⟨rfl,D,u W' h,fun k h=>.inl h,(ax.refl _ _).below h⟩;obtain⟨w1,a⟩:∃w1,w1=W.alloc (.cells #[af x1,af x2,af y1,af y2,ay j] 38):=⟨_,rfl⟩;have p:Below W.heap.size W w1:=by rw[a];exact(aJ _ _).alloc (aB _) _
 have d:w1.heap[W.heap.size]? =some (.cells #[af x1,af x2,af y1,af y2,ay j] 38 (0,0)):=by rw[a];exact cB W _
 have q:=(p.block tb x).trans m;have v:w1.cell? (ae tb 0)=some (.slice y R.length z):=aG q;have w:w1.cell? (ae tb 3)=some (aj fb):=aG q;have A:w1.cell? (ae W.heap.size 0)=some (af x1):=aG d;have B:w1.cell? (ae W.heap.size 1)=some (af x2):=aG d;have C:w1.cell? (ae W.heap.size 2)=some (af y1):=aG d;have E:w1.cell? (ae W.heap.size 3)=some (af y2):=aG d;have f:=yu tb fb w1 w;have g:=ag p;have r:R.length=0↔R=[]:=List.length_eq_zero_iff;obtain⟨n,t⟩:∃n,n=R.length:=⟨_,rfl⟩;rw[<-t]at v r;rw[<-r]at c;clear b u q d p e s m t r;by_cases l:n=0
 .have d1:((n:Int)==0)=true:=by simp[l]
  have d2:(n==0)=true:=by simp[l]
  have d3:decide (n=0)=true:=by simp[l]
  clear c;go_enter func104,ntmps104
  go_wp2_with fail
  rw[<-a];clear a
  go_wp2_with (go_at_call 169;refine f.mono ?_;rintro e w' ⟨rfl,rfl⟩)
  go_ret;exact i.o _ g.o
 .have d1:((n:Int)==0)=false:=aD;have d2:(n==0)=false:=aD;have d3:decide (n=0)=false:=aD;by_cases I:x2<x1
  .have f1:decide (x1>x2)=true:=aD;have f2:decide (x2<x1)=true:=aD;clear c;go_enter func104,ntmps104
   go_wp2_with fail
   rw[<-a];clear a
   go_wp2_with (go_at_call 169;refine f.mono ?_;rintro e w' ⟨rfl,rfl⟩)
   go_ret;exact i.o _ g.o
  .have f1:decide (x1>x2)=false:=aD;have f2:decide (x2<x1)=false:=aD;have G:decide (y1>y2)=true:=aD;have H:decide (y2<y1)=true:=aD;clear c;go_enter func104,ntmps104
   go_wp2_with fail
   rw[<-a];clear a
   go_wp2_with (go_at_call 169;refine f.mono ?_;rintro e w' ⟨rfl,rfl⟩)
   go_ret;exact i.o _ g.o
theorem LK (F:Nat) (cb:Array Value) (R:List Pt) (gone:List Bool) (YS:List Nat) (V:yt) (lo hi tb fb B:Nat) (w0 W:World) (S:World->List Nat->(Nat->Prop)->Prop) (D:Nat->Prop) (x1 x2 y1 y2 aE:Int)
  (aq:jC w0 lo hi tb fb R gone YS V) (K:cu R gone YS) (z:0<R.length) (b0:x1<=x2) (bL:y1<=y2) (bf:R.length<=40000) (bc:B=w0.heap.size) (aC:List Nat)
  (ar:Told F cb (aW R.length) YS V.LN V.LL B w0 aC S) (hF:(lM R YS x1 x2 y1 y2).1=aC) (hS:S W [] D):
  aK 104 #[aj tb,.agg #[af x1,af x2,af y1,af y2,ay aE],.func (.func F) #[] cb] W (EN S W D (lM R YS x1 x2 y1 y2)):=by
 have bh:=ar.base W [] D hS;have y:=aq.below bh (by rw[bc];exact aq.fo.2.2.2.2);obtain⟨bQ,bS,a9⟩:=fF y.row;have bn:tb<W.heap.size:=bR y.fo.2.1 y.fo.2.2.2.2;have bC:fb<W.heap.size:=bR y.fo.2.2.2.1 y.fo.2.2.2.2;have aH:=y.blk;have bB:=K.len;obtain⟨ac,ad,ba,-,-,aP⟩:=Rd.aI y.xs;obtain⟨ai,ak,bb,-,-,aS⟩:=Rd.aI y.ys;rw[a9,ba,bb]at aH;have b6:(bU R).length<=40000:=by unfold bU;rw[bT];exact bf
 have b7:(jl R YS).length<=40000:=by unfold jl;rw[bT];omega
 have bm:¬(R=[]\/x2<x1\/y2<y1):=by
  rintro(h|h|h)
  .subst h;simp at z
  .omega
  .omega
 have aF:lM R YS x1 x2 y1 y2=((down YS (lI R) y1 y2 (aV (bU R) x1).1 (aR (bU R) x2).1 (dM 0 R.length)).1,
   (aV (bU R) x1).2+(aR (bU R) x2).2+(aV (jl R YS) y1).2+(aR (jl R YS) y2).2+(down YS (lI R) y1 y2 (aV (bU R) x1).1 (aR (bU R) x2).1 (dM 0 R.length)).2):=by unfold lM;rw[aM bm]
 have bM:=gq (fun i=>decide (x1<=(bU R).getD i 0)) (bU R).length;have bN:=gq (fun i=>decide (x2<(bU R).getD i 0)) (bU R).length;have bO:=gq (fun i=>decide (y1<=(jl R YS).getD i 0)) (jl R YS).length;have bP:=gq (fun i=>decide (y2<(jl R YS).getD i 0)) (jl R YS).length;have aU:∀W',Below W.heap.size W W'->aK 172 #[aj tb,af (2*R.length-2:Nat),af (aV (jl R YS) y1).1,af (aR (jl R YS) y2).1,.agg #[af (aV (bU R) x1).1,af (aR (bU R) x2).1,.func (.func F) #[] cb]] W' (Sv S W' D (down YS (lI R) y1 y2 (aV (bU R) x1).1 (aR (bU R) x2).1 (dM 0 R.length)).1 (down YS (lI R) y1 y2 (aV (bU R) x1).1 (aR (bU R) x2).1 (dM 0 R.length)).2):=fun W' m=>by
  obtain⟨w1,w2,w3⟩:=bJ 0 R.length z;have bY:=fe 0 R.length z;have h:=Lt F cb (aW R.length) (jI R) YS V.LN V.LL tb B w0 S (lI R) y1 y2 (aV (bU R) x1).1 (aR (bU R) x2).1 (AY bc.symm) aC ar (aq.dn z) K.le bL (by rw[df];omega) aa (by unfold aV;omega) (by unfold aR;omega) (dM 0 R.length) 0 (jT R.length z) w1 aa W' [] D (ar.kN _ _ _ _ hS m) (by rw[fO,<-hF,aF];exact List.prefix_refl _);rw[K.top z,fO]at h;rw[N7 K,QB K];have e:(dM 0 R.length).root 0=2*R.length-2:=by unfold FT.root;omega
  rw[e]at h;exact h
 have bo:=mr (YS:=YS) (yv:=lI R) (y1:=y1) (y2:=y2) (fr:=(aV (bU R) x1).1) (ub:=(aR (bU R) x2).1) (dM 0 R.length);rw[fe 0 R.length z]at bo;rw[aF];have a7:=ag aU;have aX:∀W',Below W.heap.size W W'->aK 95 #[aj fb] W' fun e w'=>e=.returned (af ((2*R.length-2:Nat):Int))/\w'=W':=fun W' m=>by
  have bi:=(m.block fb bC).trans y.iD.blk;exact jw fb R.length z aa W' (aG bi) (aG bi)
 have a8:=ag aX;have aY:=fun W' (m:Below W.heap.size W W')=>EL ac (bU R) ad x1 W' (aP.below m) aa;have aZ:=fun W' (m:Below W.heap.size W W')=>EM ac (bU R) ad x2 W' (aP.below m) aa;have a0:=fun W' (m:Below W.heap.size W W')=>EL ai (jl R YS) ak y1 W' (aS.below m) aa;have a1:=fun W' (m:Below W.heap.size W W')=>EM ai (jl R YS) ak y2 W' (aS.below m) aa;have b1:(aV (bU R) x1).2<=40000:=by unfold aV;omega
 have b2:(aR (bU R) x2).2<=40000:=by unfold aR;omega
 have b3:(aV (jl R YS) y1).2<=40000:=by unfold aV;omega
 have b4:(aR (jl R YS) y2).2<=40000:=by unfold aR;omega
 have b5:(down YS (lI R) y1 y2 (aV (bU R) x1).1 (aR (bU R) x2).1 (dM 0 R.length)).2<=80000:=aa;clear aU aX aF bm bM bN bO bP bo aP aS ba bb hF ar hS aq;generalize down YS (lI R) y1 y2 (aV (bU R) x1).1 (aR (bU R) x2).1 (dM 0 R.length)=P at*;generalize bE:aV (bU R) x1=L at*;generalize bF:aR (bU R) x2=M at*;generalize bH:aV (jl R YS) y1=N at*;generalize bI:aR (jl R YS) y2=O at*;generalize bj:(bU R).length=aL at*;generalize bk:(jl R YS).length=aN at*;obtain⟨w1,Q⟩:∃w1,w1=W.alloc (.cells #[af x1,af x2,af y1,af y2,ay aE] 38):=⟨_,rfl⟩;have au:Below W.heap.size W w1:=by rw[Q];exact(aJ _ _).alloc (aB _) _
 have ab:w1.heap[W.heap.size]? =some (.cells #[af x1,af x2,af y1,af y2,ay aE] 38 (0,0)):=by rw[Q];exact cB W _
 have T:=(au.block tb bn).trans aH;have bw:w1.cell? (ae tb 0)=some (.slice bQ R.length bS):=aG T;have j:w1.cell? (ae tb 1)=some (.slice ac aL ad):=by simp[World.cell?,T,bj]
 have b:w1.cell? (ae tb 3)=some (aj fb):=aG T;have l:w1.cell? (ae tb 6)=some (.slice ai aN ak):=by simp[World.cell?,T,bk]
 have c:w1.cell? (ae W.heap.size 0)=some (af x1):=aG ab;have d:w1.cell? (ae W.heap.size 1)=some (af x2):=aG ab;have f:w1.cell? (ae W.heap.size 2)=some (af y1):=aG ab;have g:w1.cell? (ae W.heap.size 3)=some (af y2):=aG ab;have bp:=yu tb fb w1 b;have al:=ag au;obtain⟨n,bl⟩:∃n,n=R.length:=⟨_,rfl⟩;rw[<-bl]at bw z bf a8 a7;have d1:((n:Int)==0)=false:=aD;have d2:(n==0)=false:=aD;have d3:decide (n=0)=false:=aD;have f1:decide (x1>x2)=false:=aD;have f2:decide (x2<x1)=false:=aD;have bV:decide (y1>y2)=false:=aD;have bW:decide (y2<y1)=false:=aD;have bs:=ag aY;have bt:=ag aZ;have bu:=ag a0;have bv:=ag a1;have bK:W.heap.size<=w1.heap.size:=au.size;clear T ab au aH bl aY aZ a0 a1 bE bF bH bI bj bk y K bB a9 bh;have av:tb<w1.heap.size:=bR bn bK;have U:W.heap.size<w1.heap.size:=by rw[Q];simp
 go_enter func104,ntmps104
 go_wp2_with fail
 rw[<-Q];clear Q
 go_wp2_with (go_at_call 169;refine bp.mono ?_;rintro e w' ⟨rfl,bz⟩;subst w')
 have a3:Hid (∀p:aQ w1,aK 170 #[.slice ac aL ad,af x1] p.W fun e w'=>e=.returned (.tuple #[af L.1,af L.2])/\Below p.W.heap.size p.W w'):=fun p=>bs.o _ (al.o.trans (p.h.mono al.o.size));have H:=ah j;have J:=ah l;have I:=ah b;have A:=ah c;have C:=ah d;have E:=ah f;have G:=ah g;refine bG aO aO ?_
 repeat(quiet_step ((go_at_call 170;exact dJ (a3.o _))))
 refine jM ?_;intro w2 q;have a:Below w1.heap.size w1 w2:=by obtain⟨p,rfl⟩:=q;exact p.h
 have am:=ag (al.o.trans (a.mono al.o.size));have v:=(a.cell (p:=(ae tb 1)) av).trans j;have x:=(a.cell (p:=(ae tb 6)) av).trans l;have w:=(a.cell (p:=(ae tb 3)) av).trans b;have r:=(a.cell (p:=(ae W.heap.size 0)) U).trans c;have s:=(a.cell (p:=(ae W.heap.size 1)) U).trans d;have t:=(a.cell (p:=(ae W.heap.size 2)) U).trans f;have u:=(a.cell (p:=(ae W.heap.size 3)) U).trans g;have aw:=bR av a.size;have X:=bR U a.size;clear q a a3 H J I A C E G j l b c d f g;have j:=v;clear v;have l:=x;clear x;have b:=w;clear w;have c:=r;clear r;have d:=s;clear s;have f:=t;clear t;have g:=u;clear u
 go_wp2_with fail
 have a4:Hid (∀p:aQ w2,aK 171 #[.slice ac aL ad,af x2] p.W fun e w'=>e=.returned (.tuple #[af M.1,af M.2])/\Below p.W.heap.size p.W w'):=fun p=>bt.o _ (am.o.trans (p.h.mono am.o.size));have H:=ah j;have J:=ah l;have I:=ah b;have A:=ah c;have C:=ah d;have E:=ah f;have G:=ah g;refine bG aO aO ?_
 repeat(quiet_step ((go_at_call 171;exact dJ (a4.o _))))
 refine jM ?_;intro w3 q;have a:Below w2.heap.size w2 w3:=by obtain⟨p,rfl⟩:=q;exact p.h
 have an:=ag (am.o.trans (a.mono am.o.size));have v:=(a.cell (p:=(ae tb 1)) aw).trans j;have x:=(a.cell (p:=(ae tb 6)) aw).trans l;have w:=(a.cell (p:=(ae tb 3)) aw).trans b;have r:=(a.cell (p:=(ae W.heap.size 0)) X).trans c;have s:=(a.cell (p:=(ae W.heap.size 1)) X).trans d;have t:=(a.cell (p:=(ae W.heap.size 2)) X).trans f;have u:=(a.cell (p:=(ae W.heap.size 3)) X).trans g;have az:=bR aw a.size;have Y:=bR X a.size;clear q a a4 H J I A C E G j l b c d f g;have j:=v;clear v;have l:=x;clear x;have b:=w;clear w;have c:=r;clear r;have d:=s;clear s;have f:=t;clear t;have g:=u;clear u
 go_wp2_with fail
 have a5:Hid (∀p:aQ w3,aK 170 #[.slice ai aN ak,af y1] p.W fun e w'=>e=.returned (.tuple #[af N.1,af N.2])/\Below p.W.heap.size p.W w'):=fun p=>bu.o _ (an.o.trans (p.h.mono an.o.size));have H:=ah j;have J:=ah l;have I:=ah b;have A:=ah c;have C:=ah d;have E:=ah f;have G:=ah g;refine bG aO aO ?_
 repeat(quiet_step ((go_at_call 170;exact dJ (a5.o _))))
 refine jM ?_;intro w4 q;have a:Below w3.heap.size w3 w4:=by obtain⟨p,rfl⟩:=q;exact p.h
 have ao:=ag (an.o.trans (a.mono an.o.size));have v:=(a.cell (p:=(ae tb 1)) az).trans j;have x:=(a.cell (p:=(ae tb 6)) az).trans l;have w:=(a.cell (p:=(ae tb 3)) az).trans b;have r:=(a.cell (p:=(ae W.heap.size 0)) Y).trans c;have s:=(a.cell (p:=(ae W.heap.size 1)) Y).trans d;have t:=(a.cell (p:=(ae W.heap.size 2)) Y).trans f;have u:=(a.cell (p:=(ae W.heap.size 3)) Y).trans g;have aA:=bR az a.size;have Z:=bR Y a.size;clear q a a5 H J I A C E G j l b c d f g;have j:=v;clear v;have l:=x;clear x;have b:=w;clear w;have c:=r;clear r;have d:=s;clear s;have f:=t;clear t;have g:=u;clear u
 go_wp2_with fail
 have a6:Hid (∀p:aQ w4,aK 171 #[.slice ai aN ak,af y2] p.W fun e w'=>e=.returned (.tuple #[af O.1,af O.2])/\Below p.W.heap.size p.W w'):=fun p=>bv.o _ (ao.o.trans (p.h.mono ao.o.size));have H:=ah j;have J:=ah l;have I:=ah b;have A:=ah c;have C:=ah d;have E:=ah f;have G:=ah g;refine bG aO aO ?_
 repeat(quiet_step ((go_at_call 171;exact dJ (a6.o _))))
 refine jM ?_;intro aT q;have a:Below w4.heap.size w4 aT:=by obtain⟨p,rfl⟩:=q;exact p.h
 have ap:=ag (ao.o.trans (a.mono ao.o.size));have v:=(a.cell (p:=(ae tb 1)) aA).trans j;have x:=(a.cell (p:=(ae tb 6)) aA).trans l;have w:=(a.cell (p:=(ae tb 3)) aA).trans b;have r:=(a.cell (p:=(ae W.heap.size 0)) Z).trans c;have s:=(a.cell (p:=(ae W.heap.size 1)) Z).trans d;have t:=(a.cell (p:=(ae W.heap.size 2)) Z).trans f;have u:=(a.cell (p:=(ae W.heap.size 3)) Z).trans g;have bZ:=bR aA a.size;have bX:=bR Z a.size;clear q a a6 H J I A C E G j l b c d f g;have j:=v;clear v;have l:=x;clear x;have b:=w;clear w;have c:=r;clear r;have d:=s;clear s;have f:=t;clear t;have g:=u;clear u
 go_wp2_with fail
 refine(a8.o aT ap.o).mono ?_;rintro e w' ⟨rfl,bz⟩;subst w'
 go_wp2_with fail
 refine(a7.o aT ap.o).mono ?_;rintro e w6 ⟨rfl,bq,bg,bd,be⟩;have br:Hid (EN S W D (P.1,L.2+M.2+N.2+O.2+P.2) (.returned (af (L.2+M.2+N.2+O.2+P.2:Nat))) w6):=
  ⟨rfl,bq,bg,fun k h=>(bd k h).imp id fun bA=>bD ap.o.size bA,(((ax.refl (fun k=>D k\/W.heap.size<=k) W).below ap.o).trans (be.mono fun k h=>.inl h)).strip⟩
 clear bg bd be;go_wp2;go_ret;have a2:=br.o;have bx:((L.2+M.2+N.2+O.2+P.2:Nat):Int)=(((L.2:Int)+(M.2:Int))+(N.2:Int)+(O.2:Int))+(P.2:Int):=aa;rw[bx]at a2;exact a2
theorem N8 {R:List Pt} {gone:List Bool} {YS:List Nat} (c:cu R gone YS) (o:R.length<=40000) (x1 x2 y1 y2:Int):(lM R YS x1 x2 y1 y2).1.length<=R.length/\(lM R YS x1 x2 y1 y2).2<=400000:=by
 unfold lM;split
 .exact⟨aX _,aX _⟩
 .rename_i h;have d:0<R.length:=by
   cases R with
   |nil=>simp at h
   |cons a b=>simp
  have e:y1<=y2:=aa;have⟨w1,w2,w3⟩:=bJ 0 R.length d;refine⟨?_,?_⟩
  .refine yh (A7 _ w1 c.nodup c.le e) fun k f=>?_;have:=((wo _ w1 c.le e k).1 f).1;rw[c.top d]at this;exact c.lt this
  .have p:=gq (fun i=>decide (x1<=(bU R).getD i 0)) (bU R).length;have q:=gq (fun i=>decide (x2<(bU R).getD i 0)) (bU R).length;have r:=gq (fun i=>decide (y1<=(jl R YS).getD i 0)) (jl R YS).length;have s:=gq (fun i=>decide (y2<(jl R YS).getD i 0)) (jl R YS).length;have t:(bU R).length=R.length:=by unfold bU;simp
   have u:(jl R YS).length=YS.length:=by unfold jl;simp
   have v:=c.len;have g:=mr (YS:=YS) (yv:=lI R) (y1:=y1) (y2:=y2) (fr:=(aV (bU R) x1).1) (ub:=(aR (bU R) x2).1) (dM 0 R.length);rw[fe 0 R.length d]at g;show(aV (bU R) x1).2+(aR (bU R) x2).2+(aV (jl R YS) y1).2+(aR (jl R YS) y2).2+_<=_;have j:(aV (bU R) x1).2<=40000:=by unfold aV;omega
   have l:(aR (bU R) x2).2<=40000:=by unfold aR;omega
   have m:(aV (jl R YS) y1).2<=40000:=by unfold aV;omega
   have n:(aR (jl R YS) y2).2<=40000:=by unfold aR;omega
   omega
theorem N9 (F:Nat) (cb:Array Value) (R:List Pt) (gone:List Bool) (YS:List Nat) (V:yt) (lo hi tb fb:Nat) (w0 W:World) (S:World->List Nat->(Nat->Prop)->Prop) (D:Nat->Prop) (x1 x2 y1 y2 c:Int)
  (d:jC w0 lo hi tb fb R gone YS V) (i:cu R gone YS) (f:R.length<=40000)
  (j:Below w0.heap.size w0 W) (k:∀W',Below W.heap.size W W'->S W' [] D)
  (g:0<R.length->Told F cb (aW R.length) YS V.LN V.LL w0.heap.size w0 (lM R YS x1 x2 y1 y2).1 S) (hS:S W [] D):
  aK 104 #[aj tb,.agg #[af x1,af x2,af y1,af y2,ay c],.func (.func F) #[] cb] W (EN S W D (lM R YS x1 x2 y1 y2)):=by
 by_cases h:R=[]\/x2<x1\/y2<y1
 .exact LJ F cb R gone YS V lo hi tb fb W S D x1 x2 y1 y2 c (d.below j d.fo.2.2.2.2) h k
 .have e:0<R.length:=by
   cases R with
   |nil=>simp at h
   |cons a b=>simp
  exact LK F cb R gone YS V lo hi tb fb _ w0 W S D x1 x2 y1 y2 c d i e aa aa f rfl _ (g e) rfl hS
def Vn (w:World) (R:List Pt) (r:List Nat×Nat) (e:Ending) (w':World):Prop:=
 ∃v,e=.returned (.tuple #[v,af (r.2+r.1.length:Nat)])/\w'.ownsRow w.heap.size 27 1 v r.1.length ((dE (r.1.map (jI R))).map (Value.int .u32))/\Below w.heap.size w w'
theorem Gg {w:World} {lo hi tb fb:Nat} {R:List Pt} {gone:List Bool} {YS:List Nat} {V:yt} (p:jC w lo hi tb fb R gone YS V) (f:cu R gone YS) (s:R.length<=40000) (x1 x2 y1 y2 a:Int):
  aK 39 #[aj tb,.agg #[af x1,af x2,af y1,af y2,ay a]] w (Vn w R (lM R YS x1 x2 y1 y2)):=by
 obtain⟨w1,b⟩:∃w1,w1=(w.alloc (.cells #[af x1,af x2,af y1,af y2,ay a] 38)).alloc (.cells #[aL] 35):=⟨_,rfl⟩;have i:Below w.heap.size w w1:=by rw[b];exact((aJ _ _).alloc (aB _) _).alloc aA _
 have H:w1.heap[w.heap.size+1]? =some (.cells #[aL] 35 (0,0)):=by rw[b];exact Ex w _ _
 have Y:w1.heap[w.heap.size]? =some (.cells #[af x1,af x2,af y1,af y2,ay a] 38 (0,0)):=by rw[b];exact IG w _ _
 have hS:SG w.heap.size (w.heap.size+1) (jI R) w w1 [] (fun k=>k=w.heap.size+1\/(aL).ownBlock=some k):=
  ⟨i,aL,H,dw _ _ _ _,rfl⟩
 have⟨W,U⟩:=N8 f s x1 x2 y1 y2;have T:=f.len;have t:=N9 105 #[aj (w.heap.size+1)] R gone YS V lo hi tb fb w w1 (SG w.heap.size (w.heap.size+1) (jI R) w) _ x1 x2 y1 y2 a p f s i
  (fun W' g=>by
    have⟨C,v,m,D,E⟩:=hS;exact⟨C.trans (g.mono i.size),v,(g.block _ (aZ.1 m).1).trans m,az D g,E⟩)
  (fun F=>NZ (aW R.length) (jI R) YS V.LN V.LL tb w.heap.size (w.heap.size+1) w _ aa aa rfl (p.dn F) aa) hS
 generalize lM R YS x1 x2 y1 y2=r at*;have x:=ag t;have X:r.1.length<=40000:=aa;go_enter func39,ntmps39
 go_wp2_with fail
 rw[<-b];refine x.o.mono ?_;rintro e w2 ⟨rfl,O,⟨G,v,c,d,rfl⟩,Q,S⟩;have z:=ag d;have j:=ag G;have P:=ag c;have L:w2.cell? (ae (w.heap.size+1) 0)=some v:=aG c;have K:∀n,v.ownBlock=some n->w.heap.size+1≠n:=bn d c ai;have B:=ag K;have I:=(aZ.1 c).1;have u:=ag (zN (l:=r.1.map (jI R)) d aa);obtain⟨M,N,rfl⟩:=fF d
 go_wp2_with fail
 refine u.o.mono ?_;rintro e w3 ⟨rfl,J,q⟩;have A:=ag J;have Z:w3.cell? (ae (w.heap.size+1) 0)=some (.slice M r.1.length N):=((bZ q I (fun h=>B.o _ h rfl)).1 0).trans L;have y:Hid (Below w.heap.size w w3):=j.o.trans (q.toBelow j.o.size (fun k h=>(z.o.lt k h).1))
 go_wp2_with fail
 go_quiet (fail)
 go_wp2;go_ret2;exact⟨_,rfl,A.o,y.o.trans (Below.bq _ _)⟩
end
end Go.Proofs.YtkjdbndekceffaaGreat
