/- Made small by a program. -/
import Derived.Test.YtkjdbndekceffaaGreatV03
set_option linter.unusedSimpArgs false
set_option linter.unusedVariables false
set_option maxRecDepth 100000
set_option maxHeartbeats 16000000
namespace Go.Proofs.YtkjdbndekceffaaGreat
open Tryz
section
open Go.RowKit Go.Shelf
attribute [local go_sem] Oper.semAt_some
abbrev VK (kid:List Bool):={q:Nat // q<kid.length/\kid[q]? =some false}
def Us (w0:World) (nd:Array Value) (kv:Value) (base:Nat) (kid:List Bool) (pre:List (VK kid)) (W:World):Prop:=
 W.heap[w0.heap.size]? =some (.cells nd 163 (0,0))/\W.heap[w0.heap.size+1]? =some (.cells #[kv] 95 (0,0))/\W.heap[w0.heap.size+2]? =some (.cells #[.bool false] 4 (0,0))/\W.heap[w0.heap.size+3]? =some (.cells #[ae pre.length] 3 (0,0))/\W.ownsRow base 4 1 kv kid.length (kid.map Value.bool)/\Below w0.heap.size w0 W
theorem O9 {w0:World} {B base:Nat} {w:Array Value} {v:Value} {u:List Bool} (p:w0.heap.size<=B):OwnFrom B (Us w0 w v base u):=by
 rintro s W W' C ⟨d,f,g,h,i,j⟩ m n;have a:∀(b:Nat) cs t fr,W.heap[b]? =some (.cells cs t fr)->W'.heap[b]? =W.heap[b]? :=fun b cs t fr l=>m.block b (bg.1 l).1 fun e=>by
  obtain⟨-,o,c,q⟩:=n b e.symm;rw[l]at c;injection c with c;subst c;cases q
 refine⟨(a _ _ _ _ d).trans d,(a _ _ _ _ f).trans f,(a _ _ _ _ g).trans g,(a _ _ _ _ h).trans h,bn i fun A e=>?_,j.grown m j.size fun k e=>bA p (n k e).1⟩;rcases i.2 with⟨rfl,_⟩|⟨z,x,y,rfl,_,r,_⟩
 .cases e
 .simp only[Value.ownBlock,jH]at e;subst e;exact a _ _ _ _ r
theorem J4 (F:Fence) (n:Nat) (hF:F.fn 319) (ah:F.fn 343) (N:F.fn 364) (C:F.round=none) (aM:3<=n) (f t d:Int) (i j:Nat) (aF:i≠j) (g m b base:Nat) (a:List Bool) (w:World) (am:a.length=m) (aK:m<=100000) (hi:a[i]? =some false) (O:a[j]? =some false)
  (P:w.ownsRow base 4 1 (aC g m b) m (a.map Value.bool)):
  CallsIn F n prog 319 #[Cn 2 i j f t d,aC g m b] w (gD w (.bool true)):=by
 have ad:1<=n:=aa;subst am;have X:=af P;have aE:g<w.heap.size:=(P.lt g rfl).2;refine Bu func319 rfl hF ?_ C;simp only[ntmps319,ma,eH,fE,Nat.reduceAdd,Nat.reduceSub,rM,rO,mf,rQ,gu,nk]
 gi_wp2_with (gi_at_call 343;refine(A9 F (n-1) ah C _ _ _ _ _ _ _).mono ?_;rintro e w' ⟨rfl,rfl⟩)
 obtain⟨wk,k⟩:∃wk,wk=((((w.alloc (lV 2 i j f t d)).alloc (.cells #[aC g a.length b] 95)).alloc (.cells #[.bool false] 4)).alloc (.cells #[ae 0] 3)).alloc (lV 2 i j f t d):=⟨_,rfl⟩;have M:Below w.heap.size w wk:=by rw[k];exact(((((aJ _ w).alloc (aA _) _).alloc ax _).alloc aH _).alloc aH _).alloc aH _
 have aQ:wk.heap.size=w.heap.size+5:=by rw[k];simp
 have s:wk.heap[w.heap.size]? =some (.cells #[.int .u8 2,ae i,ae j,ae f,ae t,ae 0,ae d] 163 (0,0)):=by
  rw[k];exact(bU _ _ _ (by first|(simp;done)|(simp;omega))).trans ((bU _ _ _ (by first|(simp;done)|(simp;omega))).trans ((bU _ _ _ (by first|(simp;done)|(simp;omega))).trans (FR w _ _)))
 have A:wk.heap[w.heap.size+1]? =some (.cells #[aC g a.length b] 95 (0,0)):=by
  rw[k];exact(bU _ _ _ ax).trans ((bU _ _ _ ax).trans ((bU _ _ _ ax).trans (Ci w _ _)))
 have y:wk.heap[w.heap.size+2]? =some (.cells #[.bool false] 4 (0,0)):=by
  rw[k];have v:=bY ((w.alloc (lV 2 i j f t d)).alloc (.cells #[aC g a.length b] 95)) (.cells #[.bool false] 4);rw[show((w.alloc (lV 2 i j f t d)).alloc (.cells #[aC g a.length b] 95)).heap.size=w.heap.size+2 by simp]at v;exact(bU _ _ _ ax).trans ((bU _ _ _ ax).trans v)
 have u:wk.heap[w.heap.size+3]? =some (.cells #[ae 0] 3 (0,0)):=by
  rw[k];have v:=bY (((w.alloc (lV 2 i j f t d)).alloc (.cells #[aC g a.length b] 95)).alloc (.cells #[.bool false] 4)) (.cells #[ae 0] 3);rw[show(((w.alloc (lV 2 i j f t d)).alloc (.cells #[aC g a.length b] 95)).alloc (.cells #[.bool false] 4)).heap.size=w.heap.size+3 by simp]at v;exact(bU _ _ _ ax).trans v
 have ao:wk.cell? (ag (w.heap.size+1+1+1+1) 1)=some (ae i):=by
  rw[k,eX _ _ _ _ ax];rfl
 have ap:wk.cell? (ag (w.heap.size+1+1+1+1) 2)=some (ae j):=by
  rw[k,eX _ _ _ _ ax];rfl
 rw[<-k];have U:Hid (Us w #[.int .u8 2,ae i,ae j,ae f,ae t,ae 0,ae d] (aC g a.length b) base a [] wk):=⟨s,A,y,u,az X.o M,M⟩;have ak:=(fI.1 hi).1;have al:=(fI.1 O).1;refine Fv C ad (gf:=364) (lb:=#[aj (w.heap.size+1+1+1+1)]) rfl N (bP func364 aL rfl)
  (He (α:=VK a) (fun x=>(x.1:Int)) ⟨i,ak,hi⟩ ⟨j,al,O⟩ F (n-1) N C aa (w.heap.size+1+1+1+1) wk aa ao ap ax ax) O1.trans (fun W l o au an _ _ _=>Ba (B:=wk.heap.size) aa W l o au an) (aJ _ _) (fun _=>rfl)
  (fun E W=>Us w #[.int .u8 2,ae i,ae j,ae f,ae t,ae 0,ae d] (aC g a.length b) base a E W)
  (fun _ _ _=>False)
  (O9 aa)
  (fun _ _ _ _ _ ar _ _=>ar)
  U.o
  (fun x=>{tmps:=#[Cn 2 i j f t d,aC g a.length b,aj w.heap.size,aj (w.heap.size+1),aj (w.heap.size+1+1),aj (w.heap.size+1+1+1),ae x.1,Cn 2 i j f t d,.func (.func 364) #[] #[aj (w.heap.size+1+1+1+1)],ae x.1,undef,undef,undef,undef,undef,undef,undef,undef,undef,undef,undef,undef,undef,undef,undef,undef,undef,undef,undef,undef,undef,undef,undef,undef,undef,undef,undef,undef,undef,undef,undef,undef,undef],defers:=[]}) ?assign ?body ?done ?stop
 case assign=>
  intro l x W K H
  gi_wp2
  exact H
 case body=>
  rintro l E ⟨q,aO,aq⟩ W ⟨s,A,y,u,L,J⟩ aN;have av:W.cell? (ag (w.heap.size+1) 0)=some (aC g a.length b):=aI A;have ab:W.cell? (ag (w.heap.size+1+1+1) 0)=some (ae E.length):=aI u;have f3:W.frozen? (ag (w.heap.size+1+1+1) 0)=false:=aI u;have z:=L.cellAt q aa;rw[ib,aq]at z;simp only[eP]at z;have aP:(q:Int)<(a.length:Int):=aa;have ay:decide ((q:Int)<0)=false:=ax;have aB:decide (a.length<=q)=false:=aH;have Q:=af s;have T:=af A;have R:=af y;have S:=af u;have Y:=af L;have G:=af J
  gi_wp2
  refine⟨yQ _ _ _,fun o=>dJ (aG (by first|(simp;done)|(simp;omega))),(aG (by first|(simp;done)|(simp;omega))).trans Q.o,(aG (by first|(simp;done)|(simp;omega))).trans T.o,(aG (by first|(simp;done)|(simp;omega))).trans R.o,?_,bn Y.o (fun ac e=>aG (by have v:g=ac:=(by injection e);simp;omega)),G.o.setCell (p:=(ag (w.heap.size+1+1+1) 0)) aH _⟩;rw[dC W (w.heap.size+3) 0 _ _ _ S.o];simp
 case done=>
  rintro D aT W aD rfl ⟨s,A,y,u,L,J⟩ H;have n0:W.cell? (ag w.heap.size 0)=some (.int .u8 2):=aI s;have aR:W.cell? (ag w.heap.size 1)=some (ae i):=aI s;have aS:W.cell? (ag w.heap.size 2)=some (ae j):=aI s;have Z:W.cell? (ag (w.heap.size+1+1) 0)=some (.bool false):=aI y;have f2:W.frozen? (ag (w.heap.size+1+1) 0)=false:=aI y;have ab:W.cell? (ag (w.heap.size+1+1+1) 0)=some (ae 2):=aI u;have aw:((i:Int)!=(j:Int))=true:=aH;have V:=af H;have G:=af J
  gi_wp2
  have I:=(yQ W (ag (w.heap.size+1+1) 0) (.bool true)).same D _ V.o rfl;refine⟨ax,.inl ⟨_,_,rfl,BO I,?_⟩⟩;have ai:=cell_kept (World.cell?_setCell_same' W (ag (w.heap.size+1+1) 0) (.bool true) (by rw[Z];rfl)) (BS _ D (.deferred none)) (fun r e=>by cases e;exact⟨_,I,rfl⟩);refine⟨.bool true,?_,rfl,(G.o.setCell (p:=(ag (w.heap.size+1+1) 0)) (by first|(simp;done)|(simp;omega)) _).trans (belowK_b (w:=w) (aA _) _ D _ _ aa I rfl rfl)⟩;simp[results,f319,go_sem,ai]
 case stop=>
  rintro D c E W _ _ h _;exact h.elim
theorem RO (f t c:Int) (i j:Nat) (d:i≠j) (g m b base:Nat) (a:List Bool) (w:World) (h:a.length=m) (k:m<=100000) (hi:a[i]? =some false) (e:a[j]? =some false)
  (l:w.ownsRow base 4 1 (aC g m b) m (a.map Value.bool)):
  aK 319 #[Cn 2 i j f t c,aC g m b] w (gD w (.bool true)):=by
 refine(zf (n:=3)).1 ?_;exact J4 _ 3 trivial trivial trivial rfl ai f t c i j d g m b base a w h k hi e l
def Ut (w0:World) (nd:Array Value) (pre:List (Fin 0)) (W:World):Prop:=
 W.heap[w0.heap.size]? =some (.cells nd 163 (0,0))/\W.heap[w0.heap.size+2]? =some (.cells #[.bool false] 4 (0,0))/\W.heap[w0.heap.size+3]? =some (.cells #[ae 0] 3 (0,0))/\Below w0.heap.size w0 W
theorem Pd {w0:World} {B:Nat} {p:Array Value} (m:w0.heap.size<=B):OwnFrom B (Ut w0 p):=by
 rintro s W W' q ⟨d,f,g,h⟩ j l;have c:∀(b:Nat) cs t fr,W.heap[b]? =some (.cells cs t fr)->W'.heap[b]? =W.heap[b]? :=fun b cs t fr i=>j.block b (bg.1 i).1 fun e=>by
  obtain⟨-,o,a,n⟩:=l b e.symm;rw[i]at a;injection a with a;subst a;cases n
 exact⟨(c _ _ _ _ d).trans d,(c _ _ _ _ f).trans f,(c _ _ _ _ g).trans g,h.grown j h.size fun k e=>bA m (l k e).1⟩
theorem M4 (F:Fence) (n:Nat) (hF:F.fn 319) (H:F.fn 343) (v:F.fn 364) (j:F.round=none) (T:3<=n) (f t a:Int) (d:Value) (S:d.oneCell'=true) (w:World):
  CallsIn F n prog 319 #[Cn 1 (-1) (-1) f t a,d] w (gD w (.bool true)):=by
 have E:1<=n:=aa;refine Bu func319 rfl hF ?_ j;simp only[ntmps319,ma,eH,fE,Nat.reduceAdd,Nat.reduceSub,rM,rO,mf,rQ,gu,nk]
 gi_wp2_with (gi_at_call 343;refine(A9 F (n-1) H j _ _ _ _ _ _ _).mono ?_;rintro e w' ⟨rfl,rfl⟩)
 obtain⟨wk,b⟩:∃wk,wk=((((w.alloc (lV 1 (-1) (-1) f t a)).alloc (.cells #[d] 95)).alloc (.cells #[.bool false] 4)).alloc (.cells #[ae 0] 3)).alloc (lV 1 (-1) (-1) f t a):=⟨_,rfl⟩;have G:Below w.heap.size w wk:=by rw[b];exact(((((aJ _ w).alloc (aA _) _).alloc ax _).alloc aH _).alloc aH _).alloc aH _
 have U:wk.heap.size=w.heap.size+5:=by rw[b];simp
 have q:wk.heap[w.heap.size]? =some (.cells #[.int .u8 1,ae (-1),ae (-1),ae f,ae t,ae 0,ae a] 163 (0,0)):=by
  rw[b];exact(bU _ _ _ (by first|(simp;done)|(simp;omega))).trans ((bU _ _ _ (by first|(simp;done)|(simp;omega))).trans ((bU _ _ _ (by first|(simp;done)|(simp;omega))).trans ((bU _ _ _ (by first|(simp;done)|(simp;omega))).trans (bY w _))))
 have i:wk.heap[w.heap.size+2]? =some (.cells #[.bool false] 4 (0,0)):=by
  rw[b];have g:=bY ((w.alloc (lV 1 (-1) (-1) f t a)).alloc (.cells #[d] 95)) (.cells #[.bool false] 4);rw[show((w.alloc (lV 1 (-1) (-1) f t a)).alloc (.cells #[d] 95)).heap.size=w.heap.size+2 by simp]at g;exact(bU _ _ _ ax).trans ((bU _ _ _ ax).trans g)
 have s:wk.heap[w.heap.size+3]? =some (.cells #[ae 0] 3 (0,0)):=by
  rw[b];have g:=bY (((w.alloc (lV 1 (-1) (-1) f t a)).alloc (.cells #[d] 95)).alloc (.cells #[.bool false] 4)) (.cells #[ae 0] 3);rw[show(((w.alloc (lV 1 (-1) (-1) f t a)).alloc (.cells #[d] 95)).alloc (.cells #[.bool false] 4)).heap.size=w.heap.size+3 by simp]at g;exact(bU _ _ _ ax).trans g
 have M:wk.cell? (ag (w.heap.size+1+1+1+1) 1)=some (ae (-1)):=by
  rw[b,eX _ _ _ _ ax];rfl
 have N:wk.cell? (ag (w.heap.size+1+1+1+1) 2)=some (ae (-1)):=by
  rw[b,eX _ _ _ _ ax];rfl
 rw[<-b];have z:Hid (Ut w #[.int .u8 1,ae (-1),ae (-1),ae f,ae t,ae 0,ae a] [] wk):=⟨q,i,s,G⟩;refine Fv j E (gf:=364) (lb:=#[aj (w.heap.size+1+1+1+1)]) rfl v (bP func364 aL rfl)
  (LA (α:=Fin 0) (fun x=>(x.1:Int)) F (n-1) v j aa (w.heap.size+1+1+1+1) wk aa M N) O1.trans (fun W l o P L _ _ _=>Ba (B:=wk.heap.size) aa W l o P L) (aJ _ _) (fun _=>rfl)
  (fun u W=>Ut w #[.int .u8 1,ae (-1),ae (-1),ae f,ae t,ae 0,ae a] u W)
  (fun _ _ _=>False)
  (Pd aa)
  (fun _ _ _ _ _ O _ _=>O)
  z.o
  (fun x=>{tmps:=#[Cn 1 (-1) (-1) f t a,d,aj w.heap.size,aj (w.heap.size+1),aj (w.heap.size+1+1),aj (w.heap.size+1+1+1),ae x.1,Cn 1 (-1) (-1) f t a,.func (.func 364) #[] #[aj (w.heap.size+1+1+1+1)],ae x.1,undef,undef,undef,undef,undef,undef,undef,undef,undef,undef,undef,undef,undef,undef,undef,undef,undef,undef,undef,undef,undef,undef,undef,undef,undef,undef,undef,undef,undef,undef,undef,undef,undef],defers:=[]}) ?assign ?body ?done ?stop
 case assign=>
  intro l x W K k
  gi_wp2
  exact k
 case body=>
  intro l u x W _ h;exact absurd x.2 (kz _)
 case done=>
  rintro D V W R rfl ⟨q,i,s,I⟩ k;have n0:W.cell? (ag w.heap.size 0)=some (.int .u8 1):=aI q;have C:W.cell? (ag (w.heap.size+1+1) 0)=some (.bool false):=aI i;have f2:W.frozen? (ag (w.heap.size+1+1) 0)=false:=aI i;have Q:W.cell? (ag (w.heap.size+1+1+1) 0)=some (ae 0):=aI s;have A:=af k;have y:=af I
  gi_wp2
  have m:=(yQ W (ag (w.heap.size+1+1) 0) (.bool true)).same D _ A.o rfl;refine⟨ax,.inl ⟨_,_,rfl,BO m,?_⟩⟩;have J:=cell_kept (World.cell?_setCell_same' W (ag (w.heap.size+1+1) 0) (.bool true) (by rw[C];rfl)) (BS _ D (.deferred none)) (fun r e=>by cases e;exact⟨_,m,rfl⟩);refine⟨.bool true,?_,rfl,(y.o.setCell (p:=(ag (w.heap.size+1+1) 0)) (by first|(simp;done)|(simp;omega)) _).trans (belowK_b (w:=w) (aA _) _ D _ _ aa m rfl rfl)⟩;simp[results,f319,go_sem,J]
 case stop=>
  rintro D c u W _ _ h _;exact h.elim
theorem Uu (f t b:Int) (a:Value) (c:a.oneCell'=true) (w:World):
  aK 319 #[Cn 1 (-1) (-1) f t b,a] w (gD w (.bool true)):=by
 refine(zf (n:=3)).1 ?_;exact M4 _ 3 trivial trivial trivial rfl ai f t b a c w
end
section
open Go.RowKit
def jE (x y:Int):Int:=if x<y then -1 else if y<x then 1 else 0
theorem RP (x y:Int) (w:World):aK 229 #[ae x,ae y] w fun e w'=>e=.returned (ae (jE x y))/\w'=w:=by
 unfold jE;rcases Int.lt_trichotomy x y with h|rfl|h
 .rw[aO h];go_enter func229,ntmps229;go_wp2;go_ret;exact⟨rfl,rfl⟩
 .rw[aN (Ce _),aN (Ce _)];go_enter func229,ntmps229;go_wp2;go_ret;exact⟨rfl,rfl⟩
 .rw[aN aa,aO h];go_enter func229,ntmps229;go_wp2;go_ret;exact⟨rfl,rfl⟩
theorem F6 (x y:Int) (w:World):aK 202 #[ak x,ak y] w fun e w'=>e=.returned (ae (jE x y))/\w'=w:=by
 unfold jE;rcases Int.lt_trichotomy x y with h|rfl|h
 .rw[aO h];go_enter func202,ntmps202;go_wp2;go_ret;exact⟨rfl,rfl⟩
 .rw[aN (Ce _),aN (Ce _)];go_enter func202,ntmps202;go_wp2;go_ret;exact⟨rfl,rfl⟩
 .rw[aN aa,aO h];go_enter func202,ntmps202;go_wp2;go_ret;exact⟨rfl,rfl⟩
def bX (p:Pt):List Value:=[.int .i64 p.1,.int .i64 p.2.1,.int .u32 p.2.2]
theorem bq (p:Pt):(bX p).length=3:=rfl
theorem oh (p:Pt):∀u∈bX p,u.oneCell'=true:=by intro u hu;simp[bX]at hu;rcases hu with rfl|rfl|rfl<;>rfl
abbrev jb (x y i:Int):Value:=.agg #[ae x,ae y,ak i]
def yF (w w':World):Prop:=∃q os,w'=Sort.grow (w.drewN q) os
theorem yF.refl (w:World):yF w w:=⟨0,#[],by rw[Sort.grow_empty];rfl⟩
theorem yF.alloc {w w':World} (h:yF w w') (o:Obj):yF w (w'.alloc o):=by
 obtain⟨q,os,rfl⟩:=h;exact⟨q,os.push o,by simp[Sort.grow,World.alloc,World.drewN]⟩
theorem yF.drew {w w':World} (h:yF w w'):yF w w'.drew:=by
 obtain⟨q,os,rfl⟩:=h;exact⟨q+1,os,rfl⟩
theorem yF.below {w w':World} (h:yF w w') {B:Nat} (a:B<=w.heap.size):Below B w w':=by
 obtain⟨q,os,rfl⟩:=h;refine⟨rfl,rfl,rfl,by simp[Sort.grow,World.drewN],fun k b=>?_⟩;show(w.heap++os)[k]? =_;rw[yI aa]
def iW (p q:Pt):Int:=if jE p.1 q.1=0 then jE p.2.2 q.2.2 else jE p.1 q.1
theorem qX (p q:Pt):iW p q<0↔kY p q:=by
 unfold iW kY jE
 repeat' split
 all_goals omega
theorem RQ (p q:Pt):iW p q=0↔p.1=q.1/\p.2.2=q.2.2:=by
 unfold iW jE
 repeat' split
 all_goals omega
theorem Uv (a b:Int) (w:World) (n:Nat) (f:w.cell? (ag n 0)=some (ae a)) (g:w.cell? (ag n 1)=some (ae b)):
  aK 228 #[aC n 2 2] w fun e w'=>e=.returned (ae (if a=0 then b else a))/\w'=w:=by
 by_cases c:a=0
 .subst c;rw[aO rfl];by_cases d:b=0
  .subst d;go_enter func228,ntmps228;go_wp2
   go_loopw [7] (fun i wr=>∃k:Nat,i=.int .i64 k/\k<=2/\wr=w) (fun i _=>2-(intOf i).toNat)
   case atStart=>exact⟨0,rfl,aa,rfl⟩
   case round=>
    obtain⟨k,rfl,j,rfl⟩:=hrel;by_cases h:k<2
    .have l:wr.cell? (ag n k)=some (ae 0):=by
      obtain rfl|rfl:k=0\/k=1:=aa
      .exact f
      .exact g
     go_wp2;go_roundw
     case rel=>exact⟨k+1,by go_num,aa,by first|rfl|trivial⟩
     case measure=>exact bZ
    .go_wp2;go_ret;exact⟨rfl,rfl⟩
  .have hd:(b !=0)=true:=by simp[d]
   go_enter func228,ntmps228;go_wp2
   go_loopw [7] (fun i wr=>∃k:Nat,i=.int .i64 k/\k<=1/\wr=w) (fun i _=>2-(intOf i).toNat)
   case atStart=>exact⟨0,rfl,aa,rfl⟩
   case round=>
    obtain⟨k,rfl,j,rfl⟩:=hrel;by_cases h:k<1
    .obtain rfl:k=0:=aa;go_wp2;go_roundw
     case rel=>exact⟨1,by go_num,aa,by first|rfl|trivial⟩
     case measure=>simp[intOf]
    .obtain rfl:k=1:=aa;go_wp2;go_ret;exact⟨rfl,rfl⟩
 .rw[aN c];have hd:(a !=0)=true:=by simp[c]
  go_enter func228,ntmps228;go_wp2
  go_loopw [7] (fun i wr=>i=.int .i64 0/\wr=w) (fun i _=>2-(intOf i).toNat)
  case atStart=>exact⟨rfl,rfl⟩
  case round=>
   obtain⟨rfl,rfl⟩:=hrel;go_wp2;go_ret;exact⟨rfl,rfl⟩
theorem Xv (a b x y:Int) (w:World):aK 152 #[ae a,ae b,ak x,ak y] w fun e w'=>e=.returned (ae (if jE a b=0 then jE x y else jE a b))/\yF w w':=by
 have c:=af (fun W=>RP a b W);have d:=af (fun W=>F6 x y W);generalize jE a b=p at*;generalize jE x y=q at*;go_enter func152,ntmps152
 go_wp2_with fail
 refine(c.o _).mono ?_;rintro e w1 ⟨rfl,rfl⟩
 go_wp2_with fail
 refine(d.o _).mono ?_;rintro e w1 ⟨rfl,rfl⟩
 go_wp2_with fail
 refine(Uv p q _ _ (by rw[eX _ _ _ _ rfl];rfl) (by rw[eX _ _ _ _ rfl];rfl)).mono ?_;rintro e w1 ⟨rfl,rfl⟩;go_wp2
 all_goals
  go_ret;exact⟨rfl,(yF.refl _).alloc _⟩
theorem yF.trans {w w1 w2:World} (h:yF w w1) (c:yF w1 w2):yF w w2:=by
 obtain⟨q,os,rfl⟩:=h;obtain⟨b,a,rfl⟩:=c;refine⟨q+b,os++a,?_⟩;rw[<-Sort.grow_grow];show Sort.grow (Sort.grow ((w.drewN q).drewN b) os) a=_;rw[gI]
theorem Uw (p q:Pt) (w:World):aK 94 #[jb p.1 p.2.1 p.2.2,jb q.1 q.2.1 q.2.2] w fun e w'=>e=.returned (ae (iW p q))/\yF w w':=by
 have a:=af (fun W=>Xv p.1 q.1 p.2.2 q.2.2 W);unfold iW;generalize(if jE p.1 q.1=0 then jE p.2.2 q.2.2 else jE p.1 q.1)=r at*;go_enter func94,ntmps94
 go_wp2_with fail
 refine(a.o _).mono ?_;rintro e w1 ⟨rfl,h⟩;go_wp2;go_ret;exact⟨rfl,(((yF.refl _).alloc _).alloc _).trans h⟩
theorem J5:eU 94:=bP func94 aL rfl
end
section
open Go.RowKit Go.Sort Go.Shelf Go.Lib
section
variable {α:Type} [Inhabited α] {enc:α->List Value} {k:Nat}
theorem xE (a:∀x,(enc x).length=k) (h:0<k) (l:List α):(flatK enc k l.toArray).toList=l.flatMap enc:=by
 apply yU;intro t;by_cases ht:t<l.length*k
 .have b:t/k<l.length:=Nat.div_lt_of_lt_mul (by rw[ze];exact ht);have c:t%k<k:=qL _ h;have d:=flat_get a l (t/k) b (t%k) c;rw[Nat.div_add_mod' t k]at d;rw[d];have e:=get_flatK enc k l.toArray t (aQ ht);have f:t<(flatK enc k l.toArray).size:=aQ ht;rw[JJ,Array.getElem?_eq_getElem f];rw[sZ _ t f]at e;rw[e];have g:t%k<(enc l[t/k]).length:=by rw[a];exact c
  rw[cK g];simp[b,g]
 .rw[o9 aH,o9 (by rw[gK a];omega)]
theorem rU (i:∀x,(enc x).length=k) (m:0<k) {w:World} {base g c n:Nat} {e:TypeId} {l:List α} (o:l.length=n) (h:w.ownsRow base e k (aC g n c) n (l.flatMap enc)):HoldsK enc k w g 0 l.toArray:=by
 intro j a;have f:j<n*k:=by rw[<-o];simpa using a
 have b:=h.cellAt j f;have d:=h.frozenAt j;rw[kD];refine⟨?_,d⟩;rw[b,<-xE i m,JJ,Array.getElem?_eq_getElem a];rw[sZ (flatK enc k l.toArray) j a];rfl
theorem vw (p:∀x,(enc x).length=k) (z:0<k) {w:World} {base g c n:Nat} {e:TypeId} {l l':List α} (r:l'.length=n) (h:w.ownsRow base e k (aC g n c) n (l.flatMap enc)) (q:Nat) (os:Array Obj):
  (Sort.grow (putRowK enc k (Sort.ahead w q) g 0 l'.toArray) os).ownsRow base e k (aC g n c) n (l'.flatMap enc)/\w.grownBy (Sort.grow (putRowK enc k (Sort.ahead w q) g 0 l'.toArray) os) (some g):=by
 rcases h.2 with⟨f,_⟩|⟨J,H,d,f,v,o,m,B,D,ht⟩
 .cases f
 .injection f with a I s;injection a with a;injection a with a _ _;subst a s;have A:g<w.heap.size:=(bg.1 o).1;have key:(Sort.grow (putRowK enc k (Sort.ahead w q) g 0 l'.toArray) os).heap[g]? =some (.cells (Sort.putCells id 0 (flatK enc k l'.toArray) d) e (0,0)):=by
   show((w.heap.modify g (Sort.onCells (Sort.putCells id 0 (flatK enc k l'.toArray))))++os)[g]? =_;rw[yI (aQ A),yN,aO rfl,o];rfl
  have E:(Sort.putCells id 0 (flatK enc k l'.toArray) d).size=c*k:=by simp[Sort.putCells,D]
  have K:n*k<=c*k:=oz _ m;have G:(Sort.putCells id 0 (flatK enc k l'.toArray) d).toList.take (n*k)=l'.flatMap enc:=by
   rw[<-xE p z];have u:(flatK enc k l'.toArray).size=n*k:=by simp[r]
   generalize flatK enc k l'.toArray=F at*;apply yU;intro j;rw[vN];by_cases i:j<n*k
   .rw[aO i];have y:j<d.size:=aa;simp[Sort.putCells,y,u,i]
   .rw[aN i];exact(o9 aH).symm
  refine⟨⟨by rw[gK p,r],.inr ⟨g,c,_,rfl,v,key,m,B,E,G⟩⟩,?_⟩;refine⟨rfl,rfl,rfl,?_,fun b t C=>?_⟩
  .show w.heap.size<=((w.heap.modify g _)++os).size;simp
  .show((w.heap.modify g _)++os)[b]? =_;rw[yI (aQ t),yN,aN (fun e=>C (by rw[e]))]
theorem tQ {d d':Array α} (h:PermIn 0 d.size d d'):d'.toList.Perm d.toList:=by
 have⟨b,_,a⟩:=h;rw[show d.extract 0 d.size=d by simp,show d'.extract 0 d.size=d' by rw[<-b];simp]at a;exact a
theorem nL {P:Program} {p:Ren} (L:SlLaysF0.n6 P p) (s:∀x,(enc x).length=k) (B:0<k) (F:∀w,(isAgg (p.t 24)).run P w=.ok true w) (T:∀w,(Go.sizeOf (p.t 24)).run P w=.ok k w) (b:∀x,∀v∈enc x,v.oneCell'=true)
  (o:α->α->Int) (H:SWO (ltOf o)) (f:Nat) (cb:Array Value) (G:∀args w,(callFunc f args).run P w=.ok (.enter f args) w)
  (I:∀x y W,Calls P f (#[.agg (enc x).toArray,.agg (enc y).toArray]++cb) W fun e w'=>e=.returned (ae (o x y))/\∃q S,w'=Sort.grow (W.drewN q) S)
  {w:World} {base g c n:Nat} {e:TypeId} {l:List α} (d:l.length=n) (O:n<4611686018427387904) (h:w.ownsRow base e k (aC g n c) n (l.flatMap enc)):
  Calls P (p.f 6) #[aC g n c,.func (.func f) #[] cb] w fun u w'=>
   u=.returned (.tuple #[])/\∃l':List α,l'.Perm l/\l'.Pairwise (fun x y=>¬o y x<0)/\w'.ownsRow base e k (aC g n c) n (l'.flatMap enc)/\w.grownBy w' (some g):=by
 have N:g<w.heap.size:=by
  rcases h.2 with⟨b,_⟩|⟨Z,U,V,b,ab,K,_⟩
  .cases b
  .injection b with a X Y;injection a with a;injection a with a _ _;subst a;exact(bg.1 K).1
 have z:=AnyQ.slices_SortFunc L k F T enc s b o H f cb g 0 c l.toArray w G (fun m os dk _ x y=>I x y _) (rU s B d h) N (by simpa[d]using O);rw[show l.toArray.size=n by simpa using d]at z;refine z.mono ?_;rintro u w' ⟨J,d',m,os,hp,E,rfl⟩;rw[show n=l.toArray.size by simpa using d.symm]at hp E;have D:=tQ hp;have C:d'.toList.length=n:=by rw[D.length_eq];simpa using d
 have⟨Q,R⟩:=vw s B C h m os;refine⟨J,d'.toList,D,?_,Q,R⟩;rw[gH];intro i j hi A M;have ac:d'.size=n:=aQ C;have r:=E i j (aT _) M (by simp at A |-;omega);simp at hi A;rw[sZ d' j aa,sZ d' i aa]at r;unfold ltOf at r;simpa using r
end
instance:Inhabited Pt:=⟨(0,0,0)⟩
theorem zx {α:Type} {a:α->α->Int} {R:α->α->Prop} (h:∀x y,a x y<0↔R x y) (hi:∀x,¬R x x) (ht:∀x y z,R x y->R y z->R x z) (b:∀x y z,¬R x y->¬R y z->¬R x z):SWO (ltOf a) where
 irrefl x:=by unfold ltOf;rw[gY,h];exact hi x
 trans x y z h1 h2:=by unfold ltOf at*;rw[decide_eq_true_iff,h]at*;exact ht x y z h1 h2
 ntrans x y z h1 h2:=by unfold ltOf at*;rw[gY,h]at*;exact b x y z h1 h2
theorem WS:SWO (ltOf iW):=zx qX uF (fun _ _ _=>pK) (fun x y z=>by unfold kY;omega)
theorem Cu {B g:Nat} {w w':World} (h:w.grownBy w' (some g)) (a:B<=w.heap.size) (b:B<=g):Below B w w':=GX h a b
theorem pV (a:Option Addr) (l:List Pt) (n c:Nat) (w:World) (k:l.length=n) (h:bV bX 3 w a l) (m:n<=1000000):
  aK 91 #[.slice a n c] w fun e w'=>∃v,e=.returned v/\w'.ownsRow w.heap.size 29 3 v n (l.flatMap bX)/\Below w.heap.size w w':=by
 subst k;have o:∀(w:World) (a:Option Addr) (n c n' d:Nat),(binOp .eql 22 (.slice a n c) (.slice none n' d)).run prog w=.ok (.bool a.isNone) w:=fun w a n c n' d=>Fp w _ _ a n c n' d underlying22;cases a with
 |none=>
  have i:l=[]:=by
   rcases h with h|⟨b,off,h,_⟩
   .exact h
   .cases h
  subst i;go_enter func91,ntmps91;go_wp2;go_ret;exact⟨_,rfl,cZ _ _ _ _,aJ _ _⟩
 |some ad=>
  have f:=BF (e:=29) (size:=3) w #[] 0 (aA _) (aT _) rfl;have h':bV bX 3 (w.alloc (.cells #[] 29)) (some ad) l:=h.below ((aJ _ _).alloc (aA _) _);go_enter func91,ntmps91
  go_wp2_with (at_builtin;refine jl uB bq oh w.heap.size f h' rfl _ _ rfl rfl c rfl dE aa ax ?_;intro p w' g j)
  go_ret;rw[kD,gu]at g;exact⟨_,rfl,g,bH ((aJ _ _).alloc (aA _) _) f j ax (aA _)⟩
theorem Hy {l l':List Pt} (hu:(ids l).Nodup) (hp:l'.Perm l) (g:l'.Pairwise fun x y=>¬iW y x<0):l'=fC l:=by
 refine Lx hu ?_ fun p=>hp.mem_iff;have c:(ids l').Nodup:=(hp.map _).nodup_iff.2 hu;have d:l'.Pairwise fun p q=>p.2.2≠q.2.2:=dF.1 c;refine(g.and d).imp fun{a b} f=>?_;have⟨e,h⟩:=f;rw[qX]at e;unfold kY at*;omega
theorem LH {w:World} {base g c n:Nat} {l:List Pt} (i:l.length=n) (k:n<4611686018427387904) (h:w.ownsRow base 29 3 (aC g n c) n (l.flatMap bX)) (hu:(ids l).Nodup):
  aK 93 #[aC g n c,.func (.func 94) #[] #[]] w fun e w'=>
   e=.returned (.tuple #[])/\w'.ownsRow base 29 3 (aC g n c) n ((fC l).flatMap bX)/\w.grownBy w' (some g):=by
 have a:=nL Tryz.JO bq ai isAgg29 sizeOf29 oh iW WS 94 #[] J5 (fun x y W=>Uw x y W) i k h;change aK 93 _ _ _ at a;refine a.mono ?_;rintro e w' ⟨d,l',hp,j,b,f⟩;rw[Hy hu hp j]at b;exact⟨d,b,f⟩
theorem qY (p:Option Addr) (a:Nat) (b:Value) (w:World):
  aK 93 #[.slice p 0 a,b] w fun e w'=>e=.returned (.tuple #[])/\w'=w:=JC Tryz.JO p a b w
theorem Pe {w:World} {base n:Nat} {v:Value} {l:List Pt} (b:l.length=n) (k:n<4611686018427387904) (h:w.ownsRow base 29 3 v n (l.flatMap bX)) (hu:(ids l).Nodup) (d:base<=w.heap.size):
  aK 93 #[v,.func (.func 94) #[] #[]] w fun e w'=>
   e=.returned (.tuple #[])/\w'.ownsRow base 29 3 v n ((fC l).flatMap bX)/\Below base w w':=by
 rcases h.2 with⟨rfl,c⟩|⟨g,m,o,rfl,f,_⟩
 .subst c;obtain rfl:l=[]:=iC b;refine(qY none 0 _ w).mono ?_;rintro e w' ⟨a,rfl⟩;exact⟨a,by simpa[fC]using h,aJ _ _⟩
 .refine(LH b k h hu).mono ?_;rintro e w' ⟨a,j,i⟩;exact⟨a,j,Cu i d f⟩
theorem Ux {w:World} {base n:Nat} {v:Value} {l:List Pt} (b:l.length=n) (o:n<=1000000) (h:w.ownsRow base 29 3 v n (l.flatMap bX)):
  aK 215 #[v] w fun e w'=>e=.returned (.tuple #[])/\w'.ownsRow base 29 3 v n (l.reverse.flatMap bX)/\w.grownBy w' v.ownBlock:=by
 rcases h.2 with⟨rfl,f⟩|⟨g,d,i,rfl,j,_⟩
 .subst f;obtain rfl:l=[]:=iC b;have a:=AnyQ.slices_Reverse_empty Tryz.TH none 0 w;change aK 215 _ _ _ at a;refine a.mono ?_;rintro e w' ⟨c,rfl⟩;exact⟨c,aQ h,World.grownBy.refl _ _⟩
 .have a:=AnyQ.slices_Reverse Tryz.TH 3 isAgg29 sizeOf29 bX bq oh g 0 d l.toArray w (rU bq ai b h) aH;change aK 215 _ _ _ at a;rw[show l.toArray.size=n by simpa using b]at a;refine a.mono ?_;rintro e w' ⟨c,m,rfl⟩;have k:=vw (l':=l.reverse) bq ai (aQ b) h m #[];rw[Sort.grow_empty]at k;rw[show l.toArray.reverse=l.reverse.toArray by simp];exact⟨c,k.1,k.2⟩
end
section
open Go.RowKit Go.Sort Go.Shelf Go.Lib Go.Maps
attribute [local go_sem] Oper.semAt_some
theorem Pf (a:Nat) (c:a<=100000) (w:World):
  aK 231 #[ae a] w fun e w'=>e=.returned (.tuple #[aj w.heap.size,ae 0])/\w'=w.alloc (.cells #[ae a,aM,aM,.bool true] 372):=by
 have b:decide ((a:Int)<0)=false:=ax;refine calls_of_wp func231 rfl ?_;simp only[ntmps231,ma,eH,fE,Nat.reduceAdd,Nat.reduceSub,rM,rO,mf,rQ,gu,nk];go_wp2;go_ret2;exact⟨rfl,rfl⟩
theorem RS (a:Option Addr) (l:List Nd) (n c:Nat) (w:World) (k:l.length=n) (h:bV pR 7 w a l) (m:n<=1000000):
  aK 292 #[.slice a n c] w fun e w'=>∃v,e=.returned v/\w'.ownsRow w.heap.size 163 7 v n (l.flatMap pR)/\Below w.heap.size w w':=by
 subst k;have o:∀(w:World) (a:Option Addr) (n c n' d:Nat),(binOp .eql 141 (.slice a n c) (.slice none n' d)).run prog w=.ok (.bool a.isNone) w:=fun w a n c n' d=>Fp w _ _ a n c n' d underlying141;cases a with
 |none=>
  have i:l=[]:=by
   rcases h with h|⟨b,off,h,_⟩
   .exact h
   .cases h
  subst i;go_enter func292,ntmps292;go_wp2;go_ret;exact⟨_,rfl,cZ _ _ _ _,aJ _ _⟩
 |some ad=>
  have f:=BF (e:=163) (size:=7) w #[] 0 (aA _) (aT _) rfl;have h':bV pR 7 (w.alloc (.cells #[] 163)) (some ad) l:=h.below ((aJ _ _).alloc (aA _) _);go_enter func292,ntmps292
  go_wp2_with (at_builtin;refine jl Ul jO LB w.heap.size f h' rfl _ _ rfl rfl c rfl dE aa ax ?_;intro p w' g j)
  go_ret;rw[kD,gu]at g;exact⟨_,rfl,g,bH ((aJ _ _).alloc (aA _) _) f j ax (aA _)⟩
theorem J6 (k:Nat) (b:Nat) (a:Option Addr) (nc:Nat) (j:Value) (l:List Nd) (w:World) (d:w.heap[b]? =some (.cells #[ae k,.slice a l.length nc,j,.bool true] 372 (0,0))) (h:bV pR 7 w a l) (g:l.length<=1000000):
  aK 233 #[aj b] w fun e w'=>∃v,e=.returned v/\w'.ownsRow w.heap.size 163 7 v l.length (l.flatMap pR)/\Below w.heap.size w w':=by
 have m:w.cell? (ag b 1)=some (.slice a l.length nc):=aI d;have c:=RS a l l.length nc w rfl h g;go_enter func233,ntmps233
 go_wp2_with (go_at_call 292;refine c.mono ?_;rintro e w' ⟨v,rfl,i,f⟩)
 go_ret;exact⟨_,rfl,i,f⟩
end
section
open Go.RowKit Go.Sort Go.Shelf Go.Lib Go.Maps
attribute [local irreducible] wpQuiet
attribute [local go_sem] Oper.dZ
structure iy (w:World) (b base most:Nat) (nv kv:Value) (l:List Nd) (kid:List Bool):Prop where
 blk:w.heap[b]? =some (.cells #[ae most,nv,kv,.bool true] 372 (0,0))
 jD:w.ownsRow base 163 7 nv l.length (l.flatMap pR)
 row:w.ownsRow base 4 1 kv l.length (kid.map Value.bool)
 len:kid.length=l.length
def kZ (b:Nat) (nv kv:Value) (k:Nat):Prop:=k=b\/nv.ownBlock=some k\/kv.ownBlock=some k
def rV (w:World) (b base most:Nat) (nv kv:Value) (l:List Nd) (kid:List Bool) (w':World):Prop:=
 ∃Xw Xx,iy w' b base most Xw Xx l kid/\(∀k,kZ b Xw Xx k->kZ b nv kv k\/w.heap.size<=k)/\aB (kZ b nv kv) w w'
theorem iy.lt {w:World} {b base f:Nat} {c a:Value} {l:List Nd} {d:List Bool} (h:iy w b base f c a l d):∀k,kZ b c a k->k<w.heap.size:=by
 rintro k (rfl|e|e)
 .exact(bg.1 h.blk).1
 .exact(h.jD.lt k e).2
 .exact(h.row.lt k e).2
theorem iy.kept {w w':World} {b base g:Nat} {d c:Value} {l:List Nd} {f:List Bool} (h:iy w b base g d c l f) {S:Nat->Prop} (K:aB S w w') (hS:∀k,kZ b d c k->¬S k):iy w' b base g d c l f:=
 ⟨bu K h.blk (hS b (.inl rfl)),aU h.jD K (fun a e=>hS a (.inr (.inl e))),aU h.row K (fun a e=>hS a (.inr (.inr e))),h.len⟩
theorem rV.trans {w w1 w2:World} {b base i:Nat} {c a j f:Value} {g:List Nd} {e:List Bool} (d:∀k,kZ b j f k->kZ b c a k\/w.heap.size<=k) (K:aB (kZ b c a) w w1) (h:rV w1 b base i j f g e w2):rV w b base i c a g e w2:=by
 have⟨p,o,A,n,l⟩:=h;refine⟨p,o,A,fun k m=>?_,?_⟩
 .rcases n k m with h9|h9
  .exact d k h9
  .have:=K.size;exact .inr aa
 .exact((K.mono (fun k h=>.inl h)).trans (l.mono (fun k h9=>d k h9))).strip
theorem fK {w:World} {base:Nat} {e:TypeId} {sz:Nat} {v:Value} {n:Nat} {xs:List Value} (h:w.ownsRow base e sz v n xs):∃a c,v=.slice a n c:=by
 rcases h.2 with⟨rfl,rfl⟩|⟨g,b,d,rfl,_⟩<;>exact⟨_,_,rfl⟩
def Cv (b x:Nat) (nv kv:Value) (k L R f t it:Int) (W:World):Prop:=
 W.cell? (ag b 1)=some (nv)/\W.cell? (ag b 2)=some (kv)/\W.cell? (ag x 0)=some (.int .u8 k)/\W.cell? (ag x 1)=some (ae L)/\W.cell? (ag x 2)=some (ae R)/\W.cell? (ag x 3)=some (ae f)/\W.cell? (ag x 4)=some (ae t)/\W.cell? (ag x 5)=some (ae 0)/\W.cell? (ag x 6)=some (ae it)
theorem xG (k L R f t i:Int) (r b base m:Nat) (a4 c:Value) (X ap:List Bool) (l:List Nd) (w:World) (an:l.length=m) (cm:m<r) (cn:r<=100000) (bT:ap.length=m)
  (h:iy w b base r a4 c l X) (ck:base<=w.heap.size)
  (bj:∀W,W.ownsRow base 4 1 c m (X.map Value.bool)->aK 319 #[Cn k L R f t i,c] W (gD W (.bool true)))
  (bn:∀W,W.ownsRow base 4 1 c m (X.map Value.bool)->base<=W.heap.size->aK 320 #[Cn k L R f t i,c] W (O4 W base m c ap)):
  aK 291 #[aj b,Cn k L R f t i] w fun e w'=>e=.returned (.tuple #[ae m,ae 0])/\rV w b base r a4 c (l++[⟨k,L,R,f,t,i⟩]) (ap++[false]) w':=by
 have⟨C,ao,a3,cl⟩:=h;rw[an]at ao a3;have U:b<w.heap.size:=(bg.1 C).1;obtain⟨g,nc,a2,-,-,-⟩:=bV.aD jO ai ao;rw[an]at a2;subst a2;have bx:w.cell? (ag b 0)=some (ae r):=aI C;have bA:w.cell? (ag b 1)=some (.slice g m nc):=aI C;have bC:w.cell? (ag b 2)=some c:=aI C;have b8:w.cell? (ag b 3)=some (.bool true):=aI C;have bc:=af C;have aQ:=af a3;have aO:=af ao;have bk:=af bj;have bo:=af bn;have ac:=af an;have bi:=af bT;have d3:decide (r<=m)=false:=aH;go_enter func291,ntmps291;go_wp2;obtain⟨wk,V⟩:∃wk,wk=w.alloc (.cells #[.int .u8 k,ae L,ae R,ae f,ae t,ae 0,ae i] 163):=⟨_,rfl⟩;have y:Hid (Below w.heap.size w wk):=by rw[V];exact(aJ _ w).alloc (aA _) _
 have bq:Hid (wk.heap[w.heap.size]? =some (.cells #[.int .u8 k,ae L,ae R,ae f,ae t,ae 0,ae i] 163 (0,0))):=by rw[V];exact bY w _
 rw[<-V];have x:w.heap.size<wk.heap.size:=by rw[V];simp
 have bl:=af (az aO.o y.o);have aS:=af (az aQ.o y.o);have bd:Hid (wk.heap[b]? =some (.cells #[ae r,.slice g m nc,c,.bool true] 372 (0,0))):=(y.o.block b U).trans bc.o;have bD:=(y.o.cell (p:=(ag b 0)) U).trans bx;have bE:=(y.o.cell (p:=(ag b 1)) U).trans bA;have u:=(y.o.cell (p:=(ag b 2)) U).trans bC;have A:=bq.o;have a6:wk.cell? (ag w.heap.size 0)=some (.int .u8 k):=aI A;have x1:wk.cell? (ag w.heap.size 1)=some (ae L):=aI A;have x2:wk.cell? (ag w.heap.size 2)=some (ae R):=aI A;have a7:wk.cell? (ag w.heap.size 3)=some (ae f):=aI A;have a8:wk.cell? (ag w.heap.size 4)=some (ae t):=aI A;have a9:wk.cell? (ag w.heap.size 5)=some (ae 0):=aI A;have ba:wk.cell? (ag w.heap.size 6)=some (ae i):=aI A;have cw:=ah u;have cp:=ah a6;have cq:=ah x1;have cr:=ah x2;have cs:=ah a7;have ct:=ah a8;have cu:=ah a9;have cv:=ah ba;have bf:Hid (∀p:aR wk,aK 319 #[Cn k L R f t i,c] p.W fun e w'=>e=.returned (.bool true)/\Below p.W.heap.size p.W w'):=fun p=>bk.o _ (az aS.o p.h);refine bG aL aL ?_
 repeat(quiet_step ((go_at_call 319;exact dH (bf.o _))))
 refine jS ?_;intro j bX;have n:Below wk.heap.size wk j:=by obtain⟨p,rfl⟩:=bX;exact p.h
 have bm:=af (az bl.o n);have bp:=af (az aS.o n);have T:b<wk.heap.size:=aa;have be:Hid (j.heap[b]? =some (.cells #[ae r,.slice g m nc,c,.bool true] 372 (0,0))):=(n.block b T).trans bd.o;have cA:=(n.cell (p:=(ag b 0)) T).trans bD;have b6:=(n.cell (p:=(ag b 1)) T).trans bE;have b7:=(n.cell (p:=(ag b 2)) T).trans u;have b1:=(n.cell (p:=(ag w.heap.size 0)) x).trans a6;have y1:=(n.cell (p:=(ag w.heap.size 1)) x).trans x1;have y2:=(n.cell (p:=(ag w.heap.size 2)) x).trans x2;have b2:=(n.cell (p:=(ag w.heap.size 3)) x).trans a7;have b3:=(n.cell (p:=(ag w.heap.size 4)) x).trans a8;have b4:=(n.cell (p:=(ag w.heap.size 5)) x).trans a9;have b5:=(n.cell (p:=(ag w.heap.size 6)) x).trans ba;go_wp2
 go_quiet (fail)
 go_wp2;have J:Hid ((j.drewN nq).ownsRow base 163 7 (.slice g m nc) m (l.flatMap pR)):=bm.o;have N:Hid ((j.drewN nq).ownsRow base 4 1 c m (X.map Value.bool)):=bp.o;have H:Hid ((j.drewN nq).heap[b]? =some (.cells #[ae r,.slice g m nc,c,.bool true] 372 (0,0))):=be.o;have bM:Hid (Below w.heap.size w (j.drewN nq)):=(y.o.trans (n.mono aa)).trans (Below.aX _ _);have aZ:w.heap.size<(j.drewN nq).heap.size:=cO x n.size;have Z:(j.drewN nq).cell? (ag b 1)=some (.slice g m nc):=b6;have ab:(j.drewN nq).cell? (ag b 2)=some c:=b7;have av:(j.drewN nq).cell? (ag w.heap.size 0)=some (.int .u8 k):=b1;have aw:(j.drewN nq).cell? (ag w.heap.size 1)=some (ae L):=y1;have ax:(j.drewN nq).cell? (ag w.heap.size 2)=some (ae R):=y2;have aE:(j.drewN nq).cell? (ag w.heap.size 3)=some (ae f):=b2;have aG:(j.drewN nq).cell? (ag w.heap.size 4)=some (ae t):=b3;have aM:(j.drewN nq).cell? (ag w.heap.size 5)=some (ae 0):=b4;have aN:(j.drewN nq).cell? (ag w.heap.size 6)=some (ae i):=b5;generalize j.drewN nq=w6 at*;have bU:∀d,(Value.slice g m nc).ownBlock=some d->d<w6.heap.size/\d≠b/\d≠w.heap.size:=fun d e=>⟨(J.o.lt d e).2,fun G=>bz J.o H.o ai d e G.symm,fun G=>by have:=(aO.o.lt d e).2;omega⟩;have bS:∀d,c.ownBlock=some d->d<w6.heap.size/\d≠b/\d≠w.heap.size:=fun d e=>⟨(N.o.lt d e).2,fun G=>bz N.o H.o ai d e G.symm,fun G=>by have:=(aQ.o.lt d e).2;omega⟩;have bW:∀d,(Value.slice g m nc).ownBlock=some d->c.ownBlock≠some d:=bB J.o N.o ai;have M:=af bU;have I:=af bS;have aP:=af bW;have am:b<w6.heap.size:=aa;have cj:base<=w6.heap.size:=aa;have bH:∀o,w6.frozen? (ag b o)=false:=fun o=>by have h9:=H.o;simp[World.frozen?,h9]
 have bh:Hid (Cv b w.heap.size (.slice g m nc) c k L R f t i w6.drew):=⟨Z,ab,av,aw,ax,aE,aG,aM,aN⟩;have b9:∀p:kG (Cv b w.heap.size (.slice g m nc) c k L R f t i),p.W.cell? (ag b 1)=some (.slice g m nc):=fun p=>p.h.1;have ca:∀p:kG (Cv b w.heap.size (.slice g m nc) c k L R f t i),p.W.cell? (ag b 2)=some (c):=fun p=>p.h.2.1;have cb:∀p:kG (Cv b w.heap.size (.slice g m nc) c k L R f t i),p.W.cell? (ag w.heap.size 0)=some (.int .u8 k):=fun p=>p.h.2.2.1;have cc:∀p:kG (Cv b w.heap.size (.slice g m nc) c k L R f t i),p.W.cell? (ag w.heap.size 1)=some (ae L):=fun p=>p.h.2.2.2.1;have cd:∀p:kG (Cv b w.heap.size (.slice g m nc) c k L R f t i),p.W.cell? (ag w.heap.size 2)=some (ae R):=fun p=>p.h.2.2.2.2.1;have ce:∀p:kG (Cv b w.heap.size (.slice g m nc) c k L R f t i),p.W.cell? (ag w.heap.size 3)=some (ae f):=fun p=>p.h.2.2.2.2.2.1;have cf:∀p:kG (Cv b w.heap.size (.slice g m nc) c k L R f t i),p.W.cell? (ag w.heap.size 4)=some (ae t):=fun p=>p.h.2.2.2.2.2.2.1;have cg:∀p:kG (Cv b w.heap.size (.slice g m nc) c k L R f t i),p.W.cell? (ag w.heap.size 5)=some (ae 0):=fun p=>p.h.2.2.2.2.2.2.2.1;have ch:∀p:kG (Cv b w.heap.size (.slice g m nc) c k L R f t i),p.W.cell? (ag w.heap.size 6)=some (ae i):=fun p=>p.h.2.2.2.2.2.2.2.2;refine au (fun W=>∃p:kG (Cv b w.heap.size (.slice g m nc) c k L R f t i),W=p.W) [14,15,16,17,18,19,20] [(0,false),(1,false),(2,false),(3,false),(4,false),(5,true),(6,true),(9,true),(10,false),(11,false),(12,false),(13,true)] ⟨⟨_,bh.o⟩,rfl⟩ 9 ?_;refine ay 7 rfl fun K al=>?_;go_simp;have O:aB (fun _=>False) w6 (w6.alloc (.cells #[.int .u8 k,ae L,ae R,ae f,ae t,ae 0,ae i] 163)).drew:=((aB.refl _ _).alloc _).drew;obtain⟨a5,-⟩:=di O am (fun h=>h);obtain⟨B,-⟩:=di O aZ (fun h=>h);refine al _ _ (fun _ _=>⟨⟨_,(a5 1).trans Z,(a5 2).trans ab,(B 0).trans av,(B 1).trans aw,(B 2).trans ax,(B 3).trans aE,(B 4).trans aG,(B 5).trans aM,(B 6).trans aN⟩,rfl⟩) ?_;refine ay 8 rfl fun K al=>?_;refine bF Ul base (aU (S:=fun _=>False) J.o O (fun _ _ h=>h)) [.int .u8 k,.int .i64 L,.int .i64 R,.int .i64 f,.int .i64 t,.int .i64 0,.int .i64 i] rfl (by simp[Value.oneCell']) rfl (.tmp 40) (.tmp 42) rfl rfl w6.heap.size rfl (lU _ _) dE aa aH ?_;intro v F Y bL bK aV ci;have s:aB (fun k=>(Value.slice g m nc).ownBlock=some k) w6 Y:=(O.mono (fun _ h=>h.elim)).grown bK (fun k bR=>.inl bR);have⟨P,bw⟩:=di s am (fun e=>(M.o _ e).2.1 rfl);obtain⟨z,-⟩:=di s aZ (fun e=>(M.o _ e).2.2 rfl);refine al _ _ (fun _ _=>⟨⟨_,(P 1).trans Z,(P 2).trans ab,(z 0).trans av,(z 1).trans aw,(z 2).trans ax,(z 3).trans aE,(z 4).trans aG,(z 5).trans aM,(z 6).trans aN⟩,rfl⟩) ?_;have bb:=aU (S:=fun k=>(Value.slice g m nc).ownBlock=some k) N.o s (fun d e u=>aP.o d u e);have bN:base<=Y.heap.size:=by have:=s.size;omega
 have a0:b<Y.heap.size:=by have:=s.size;omega
 have aT:∀o,Y.frozen? (ag b o)=false:=fun o=>(bw o).trans (bH o);refine aF [14,15,16,17,18,19,20] ?_;have bt:=bo.o _ bb bN;have bu:=(P 1).trans Z;have bv:=(P 2).trans ab
 go_wp2_with (go_at_call 320;refine bt.mono ?_;rintro e wp ⟨cz,rfl,aY,aW,Q⟩;obtain⟨D,E,rfl⟩:=fK aY;obtain⟨aq,ar⟩:=di Q a0 (fun e=>(I.o _ e).2.1 rfl);have cx:=(aq 1).trans bu;have cy:=(aq 2).trans bv;have f1:=(ar 1).trans (aT 1);have f2:=(ar 2).trans (aT 2);clear aq ar)
 have br:aB (kZ b (.slice g m nc) c) w6 wp:=(s.mono (fun k h=>.inr (.inl h))).trans (Q.mono (fun k h=>.inr (.inr h)));have bs:aB (kZ b (.slice g m nc) c) w ((wp.setCell (ag b 1) (aC v (m+1) F)).setCell (ag b 2) (.slice D (m+1) E)):=
  ((((aB.refl (kZ b (.slice g m nc) c) w).below bM.o).trans br).set (a:=(ag b 1)) _ (.inl (.inl rfl))).set (a:=(ag b 2)) _ (.inl (.inl rfl))
 have a1:v≠b/\c.ownBlock≠some v:=by
  rcases aV with h9|h9
  .exact⟨(M.o _ h9).2.1,fun e=>aP.o _ h9 e⟩
  .simp at h9;exact⟨aa,fun e=>by have:=(I.o _ e).1;omega⟩
 have bP:∀d,(Value.slice D (m+1) E).ownBlock=some d->d≠b:=fun d e=>by
  rcases aW with h9|⟨ad,h9,bJ⟩
  .exact(I.o _ (h9.symm.trans e)).2.1
  .have:ad=d:=by rw[h9]at e;injection e
   omega
 have co:=s.size;go_ret2;refine⟨rfl,aC v (m+1) F,.slice D (m+1) E,⟨?_,?_,?_,?_⟩,?_,bs⟩
 .have bO:wp.heap[b]? =some (.cells #[ae r,.slice g m nc,c,.bool true] 372 (0,0)):=(Q.block b a0 (fun e=>(I.o _ e).2.1 rfl)).trans ((s.block b am (fun e=>(M.o _ e).2.1 rfl)).trans H.o);have bZ:=dC wp b 1 _ _ (aC v (m+1) F) bO;have b0:=dC _ b 2 _ _ (.slice D (m+1) E) bZ;exact b0
 .have bI:=aU (S:=fun k=>c.ownBlock=some k) bL Q (fun d e u=>by injection e with e;subst e;exact a1.2 u);have ak:=aU (S:=fun k=>k=b) bI (((aB.refl (fun k=>k=b) wp).set (a:=(ag b 1)) (aC v (m+1) F) (.inl rfl)).set (a:=(ag b 2)) (.slice D (m+1) E) (.inl rfl)) (fun d e u=>by injection e with e;subst e;exact a1.1 u);rw[bQ,gZ,ac.o];exact ak
 .have ak:=aU (S:=fun k=>k=b) aY (((aB.refl (fun k=>k=b) wp).set (a:=(ag b 1)) (aC v (m+1) F) (.inl rfl)).set (a:=(ag b 2)) (.slice D (m+1) E) (.inl rfl)) bP;rw[bQ,ac.o];exact ak
 .simp[ac.o,bi.o]
 .rintro q (rfl|e|e)
  .exact .inl (.inl rfl)
  .have e:v=q:=by injection e
   subst e;rcases aV with h9|h9
   .exact .inl (.inr (.inl h9))
   .simp at h9;exact .inr aa
  .rcases aW with h9|⟨ad,h9,bJ⟩
   .exact .inl (.inr (.inr (h9.symm.trans e)))
   .have:ad=q:=by rw[h9]at e;injection e
    exact .inr aa
end
section
open Go.RowKit Go.Sort Go.Shelf Go.Lib Go.Maps
theorem DW (f t a:Int) (d b base:Nat) (g i:Value) (c:List Bool) (l:List Nd) (w:World) (m:l.length<d) (n:d<=100000) (h:iy w b base d g i l c) (k:base<=w.heap.size):
  aK 291 #[aj b,Cn 1 (-1) (-1) f t a] w fun e w'=>e=.returned (.tuple #[ae l.length,ae 0])/\rV w b base d g i (l++[⟨1,-1,-1,f,t,a⟩]) (c++[false]) w':=by
 obtain⟨p,q,rfl⟩:=fK h.row;exact xG 1 (-1) (-1) f t a d b base l.length g _ c c l w rfl m n h.len h k (fun W _=>Uu f t a _ rfl W) (fun W o j=>Un 1 f t a p l.length q base c W h.len aa o j)
theorem DX (f t d:Int) (i j:Nat) (u:i≠j) (k b base:Nat) (o q:Value) (a:List Bool) (l:List Nd) (w:World) (v:l.length<k) (x:k<=100000) (hi:a[i]? =some false) (p:a[j]? =some false) (h:iy w b base k o q l a) (s:base<=w.heap.size):
  aK 291 #[aj b,Cn 2 i j f t d] w fun e w'=>e=.returned (.tuple #[ae l.length,ae 0])/\rV w b base k o q (l++[⟨2,i,j,f,t,d⟩]) ((a.set i true).set j true++[false]) w':=by
 have y:=(fI.1 hi).1;have z:=(fI.1 p).1;have m:=h.len;obtain⟨g,c,rfl,_,_,_,_⟩:=aS h.row aa;exact xG 2 i j f t d k b base l.length o _ a ((a.set i true).set j true) l w rfl v x (by simp[m]) h s (fun W n=>RO f t d i j u g l.length c base a W m aa hi p n) (fun W n r=>RJ 2 f t d i j g l.length c base a W m aa aa aa n r)
def F7 (n:Nat):List Bool:=List.replicate (2*n-2) true++[false]
theorem Pg (b:List Bool) (a c:Nat) (f:0<a) (g:0<c):
  (((b++F7 a)++F7 c).set (b.length+(2*a-2)) true).set (b.length+(2*a-1)+(2*c-2)) true++[false]=b++F7 (a+c):=by
 unfold F7;have d:∀(A:List Bool) (k:Nat),(A++(List.replicate k true++[false])).set (A.length+k) true=A++List.replicate (k+1) true:=fun A k=>by
  rw[<-dW,su _ _ ax,bQ,iM,jh,dW,sJ];rfl
 have e:=d (b++List.replicate (2*a-2+1) true) (2*c-2);rw[show(b++List.replicate (2*a-2+1) true).length+(2*c-2)=b.length+(2*a-1)+(2*c-2) by simp;omega]at e;rw[List.set_append_left _ _ ax,d b (2*a-2),e,dW,dW];congr 1;rw[<-dW,List.replicate_append_replicate];congr 2;omega
theorem Ph (b:List Bool) (a c:Nat) (d:0<a):((b++F7 a)++F7 c)[b.length+(2*a-2)]? =some false:=by
 unfold F7;rw[mr ax,nV ax,nV ax];simp
theorem M5 (c:List Bool) (a b:Nat) (d:0<a) (e:0<b):((c++F7 a)++F7 b)[c.length+(2*a-1)+(2*b-2)]? =some false:=by
 unfold F7;rw[nV aH,nV aH];rw[show c.length+(2*a-1)+(2*b-2)-(c++(List.replicate (2*a-2) true++[false])).length-(List.replicate (2*b-2) true).length=0 by simp;omega];rfl
theorem M6 (n:Nat):∀(a c j b base:Nat) (i g:Value) (l:List Nd) (p:List Bool) (w:World),c=a+n->0<n->l.length+(2*n-1)<=j->j<=100000->c<=50000->iy w b base j i g l p->base<=w.heap.size->
  aK 232 #[aj b,ae a,ae c] w fun e w'=>e=.returned (ae ((l.length+(2*n-2):Nat):Int))/\rV w b base j i g (l++(dU a n).nodes l.length) (p++F7 n) w':=by
 induction n using Nat.strongRecOn with
 |ind n ih=>
 intro a c j b base i g l p w aq aT ar K aR hP a3;have a2:=hP.lt b (.inl rfl);by_cases am:n=1
 .subst am;subst aq;have x:=af (fun W (h:iy W b base j i g l p) (D:base<=W.heap.size)=>DW (a:Int) ((a+1:Nat):Int) (a:Int) j b base i g p l W aa K h D);have A:=af hP;have d1:decide (((a+1:Nat):Int)-(a:Int)>1)=false:=aH;have d2:decide ((1:Int)<((a+1:Nat):Int)-(a:Int))=false:=aH;have B:(dU a 1).nodes l.length=[⟨1,-1,-1,a,((a+1:Nat):Int),a⟩]:=by rw[A8 a 1 aa];simp[FT.nodes]
  rw[B];clear B hP ih ar;generalize aS:a+1=c at*;have a4:c<=50000/\a<c:=aa;clear aS;go_enter func232,ntmps232
  go_wp2_with fail
  refine(x.o _ (A.o.kept ((aB.refl (fun _=>False) w).alloc _) (fun _ _ h=>h)) aH).mono ?_;rintro e w1 ⟨rfl,C⟩;have E:=af C;clear C;go_wp2;go_ret;refine⟨rfl,?_⟩;exact rV.trans (fun k h=>.inl h) ((aB.refl _ w).alloc _) E.o
 .obtain⟨d,au⟩:∃d,d=n-n/2:=⟨_,rfl⟩;obtain⟨f,av⟩:∃f,f=n/2:=⟨_,rfl⟩;obtain⟨m,X⟩:∃m,m=a+d:=⟨_,rfl⟩;have B:(dU a n).nodes l.length=(dU a d).nodes l.length++(dU m f).nodes (l.length+(2*d-1))++[⟨2,((l.length+(2*d-2):Nat):Int),((l.length+(2*d-1)+(2*f-2):Nat):Int),a,c,0⟩]:=by
   rw[FU a n aa,FT.nodes,<-au,<-av,<-X,fJ a d aa,fJ m f aa,(bR a d aa).2.1,(bR m f aa).2.2];congr 3
   .omega
   .omega
   .omega
  rw[B,show n=d+f by omega];clear B;obtain⟨r,H⟩:∃r,r=l.length+(2*d-2):=⟨_,rfl⟩;obtain⟨q,I⟩:∃q,q=l.length+(2*d-1)+(2*f-2):=⟨_,rfl⟩;have aI:Hid (∀W,iy W b base j i g l p->base<=W.heap.size->aK 232 #[aj b,ae a,ae m] W fun e w'=>e=.returned (ae r)/\rV W b base j i g (l++(dU a d).nodes l.length) (p++F7 d) w'):=
   fun W h D=>(ih d aa a m j b base i g l p W X aa aa K aa h D).mono fun e w' ⟨T,Y⟩=>⟨by rw[T,H],Y⟩
  have aL:Hid (∀W i g u L,u.length=l.length+(2*d-1)->iy W b base j i g u L->base<=W.heap.size->aK 232 #[aj b,ae m,ae c] W fun e w'=>e=.returned (ae q)/\rV W b base j i g (u++(dU m f).nodes u.length) (L++F7 f) w'):=
   fun W i g u L aN h D=>(ih f aa m c j b base i g u L W aa aa aa K aR h D).mono fun e w' ⟨T,Y⟩=>⟨by rw[T,I,aN],Y⟩
  have z:Hid (r=l.length+(2*d-2)/\q=l.length+(2*d-1)+(2*f-2)):=⟨H,I⟩;rw[<-H,<-I];clear H I;have A:=af hP;have a5:(c:Int)-((c:Int)-(a:Int))/2=(m:Int):=aa;have a1:(a:Int)<c/\(c:Int)<=50000:=aa;have s:0<d/\0<f:=aa;have d1:decide ((c:Int)-(a:Int)>1)=true:=aH;have d2:decide ((1:Int)<(c:Int)-(a:Int))=true:=aH;have aA:Hid (l.length+(2*(d+f)-1)<=j):=(show l.length+(2*(d+f)-1)<=j by omega);clear ih hP aq aT ar am au av X;go_enter func232,ntmps232
  go_wp2_with fail
  obtain⟨v,t⟩:∃v,v=w.alloc (.cells #[.int .u8 2,ae (-1),ae (-1),ae a,ae c,ae 0,ae 0] 163):=⟨_,rfl⟩;rw[<-t];have aJ:Hid (iy v b base j i g l p):=by rw[t];exact A.o.kept ((aB.refl (fun _=>False) w).alloc _) (fun _ _ h=>h)
  have ap:v.heap[w.heap.size]? =some (.cells #[.int .u8 2,ae (-1),ae (-1),ae a,ae c,ae 0,ae 0] 163 (0,0)):=by rw[t];exact bY w _
  have aG:Hid (aB (kZ b i g) w v):=by rw[t];exact(aB.refl _ w).alloc _
  have aP:w.heap.size<v.heap.size:=by rw[t];simp
  have an:∀k,kZ b i g k->k<w.heap.size:=A.o.lt;have ah:=af an;clear t an;refine(aI.o _ aJ.o aa).mono ?_;rintro e w1 ⟨rfl,az,ay,ac,aw,F⟩;have R:Hid (w1.heap[w.heap.size]? =some (.cells #[.int .u8 2,ae (-1),ae (-1),ae a,ae c,ae 0,ae 0] 163 (0,0))):=(F.block _ aP (fun h=>by have:=ah.o _ h;omega)).trans ap;have a7:=F.size;have aC:=af ac;have P:=af aw;have aE:=af F;have u1:w1.cell? (ag w.heap.size 1)=some (ae (-1)):=by have h9:=R.o;simp[World.cell?,h9]
  have v1:w1.frozen? (ag w.heap.size 1)=false:=by have h9:=R.o;simp[World.frozen?,h9]
  clear ac aw F ap
  go_wp2_with fail
  have ak:=af (dC w1 w.heap.size 1 _ _ (.int .i64 (r:Int)) R.o);have N:Hid (aB (fun k=>k=w.heap.size) w1 (w1.setCell (ag w.heap.size 1) (.int .i64 (r:Int)))):=(aB.refl _ w1).set (a:=(ag w.heap.size 1)) _ (.inl rfl);simp only[sG,oD,pz]at ak;generalize w1.setCell (ag w.heap.size 1) (.int .i64 (r:Int))=w2 at*;have ao:∀k,kZ b az ay k->k≠w.heap.size:=fun k h e=>by
   rcases P.o k h with h9|h9
   .have:=ah.o _ h9;omega
   .omega
  have Q:=af ao;have a8:=N.o.size;clear ao u1 v1;refine(aL.o w2 az ay _ _ (by rw[bQ,FT.iR,fJ a d s.1]) (aC.o.kept N.o (fun k h e=>Q.o k h e)) aa).mono ?_;rintro e w3 ⟨rfl,ab,Z,ad,ax,G⟩;have aQ:w.heap.size<w2.heap.size:=aa;have S:Hid (w3.heap[w.heap.size]? =some (.cells #[.int .u8 2,ae r,ae (-1),ae a,ae c,ae 0,ae 0] 163 (0,0))):=(G.block _ aQ (fun h=>Q.o _ h rfl)).trans ak.o;have a9:=G.size;have aD:=af ad;have ai:=af ax;have aF:=af G;have u3:w3.cell? (ag w.heap.size 2)=some (ae (-1)):=by have h9:=S.o;simp[World.cell?,h9]
  have bb:w3.frozen? (ag w.heap.size 2)=false:=by have h9:=S.o;simp[World.frozen?,h9]
  clear ad ax G;have a0:Hid (w3.setCell (ag w.heap.size 2) (.int .i64 q)=w3.setCell (ag w.heap.size 2) (.int .i64 q)):=rfl;have al:=af (dC w3 w.heap.size 2 _ _ (.int .i64 (q:Int)) S.o);have O:Hid (aB (fun k=>k=w.heap.size) w3 (w3.setCell (ag w.heap.size 2) (.int .i64 (q:Int)))):=(aB.refl _ w3).set (a:=(ag w.heap.size 2)) _ (.inl rfl);simp only[sG,oD,pz]at al;have y:(∀o,o<7->(w3.setCell (ag w.heap.size 2) (.int .i64 (q:Int))).cell? (ag w.heap.size o)=[Value.int .u8 2,.int .i64 r,.int .i64 q,.int .i64 a,.int .i64 c,.int .i64 0,.int .i64 0][o]?):=fun o a6=>by have h9:=al.o;simp[World.cell?,h9]
  have aV:=y 0 aa;have y1:=y 1 aa;have y2:=y 2 aa;have aW:=y 3 aa;have aX:=y 4 aa;have aY:=y 5 aa;have aZ:=y 6 aa;simp only[eG,eQ]at aV y1 y2 aW aX aY aZ;clear y
  go_wp2_with fail
  generalize w3.setCell (ag w.heap.size 2) (.int .i64 (q:Int))=w4 at*;have aO:∀k,kZ b ab Z k->k≠w.heap.size:=fun k h e=>by
   rcases ai.o k h with h9|h9
   .exact Q.o k h9 e
   .omega
  have ba:=O.o.size;have M:=aD.o.kept O.o (fun k h e=>aO k h e);have U:(l++(dU a d).nodes l.length).length=l.length+(2*d-1):=by rw[bQ,FT.iR,fJ a d s.1]
  have V:((l++(dU a d).nodes l.length)++(dU m f).nodes (l.length+(2*d-1))).length=l.length+(2*(d+f)-2):=by rw[bQ,U,FT.iR,fJ m f s.2];omega
  rw[U]at M;have J:=A.o.len;have x:=DX (a:Int) c 0 r q (by have:=z.o;omega) j b base ab Z _ _ w4 (by rw[V];have:=aA.o;omega) K (by rw[z.o.1,<-J];exact Ph p d f s.1) (by rw[z.o.2,<-J];exact M5 p d f s.1 s.2) M aa;rw[V,show((p++F7 d++F7 f).set r true).set q true++[false]=p++F7 (d+f) by rw[z.o.1,z.o.2,<-J];exact Pg p d f s.1 s.2]at x;refine x.mono ?_;rintro e bc ⟨rfl,C⟩;have E:=af C;clear C x M V U J;go_wp2;go_ret;refine⟨by rw[ze];rfl,?_⟩;rw[dW,dW]at E;rw[dW];have aU:∀k,kZ b ab Z k->kZ b i g k\/w.heap.size<=k:=fun k h=>by
   rcases ai.o k h with h9|h9
   .rcases P.o k h9 with h8|h8
    .exact .inl h8
    .exact .inr aa
   .exact .inr aa
  refine rV.trans aU ?_ E.o;have aM:aB (fun k=>kZ b i g k\/w.heap.size<=k) w w4:=
   (((aG.o.mono (fun k h=>.inl h)).trans (aE.o.mono (fun k h=>.inl h))).trans (N.o.mono (fun k h=>.inr aa))).trans ((aF.o.mono (fun k h=>by
    rcases P.o k h with h8|h8
    .exact .inl h8
    .exact .inr aa)).trans (O.o.mono (fun k h=>.inr aa)))
  exact aM.strip
end
section
open Go.RowKit
theorem xH (w:World):(callFunc 335 #[]).run prog w=.ok (.value (.tuple #[])) w:=run_call_mark0 func335 aL aL aL .disable aL w
theorem Aj (w:World):(callFunc 337 #[]).run prog w=.ok (.value (.tuple #[])) w:=run_call_mark0 func337 aL aL aL .enable aL w
theorem F8 (a:Addr) (w:World):(callFunc 338 #[.pointer (some a)]).run prog w=.ok (.value (.tuple #[])) w:=run_call_marked func338 aL aL aL .acquire aL a w
theorem J7 (a:Addr) (w:World):(callFunc 340 #[.pointer (some a)]).run prog w=.ok (.value (.tuple #[])) w:=run_call_marked func340 aL aL aL .releaseMerge aL a w
theorem J8 (a:Addr) (x:Value) (u:FrameMode) (w:World) (f:w.cell? a=some x) (h:w.frozen? a=false):
  CallsD prog 284 #[.pointer (some a),.bool true] u w fun e d w'=>d=u/\(e=.returned (.tuple #[])/\w'=w.drew.setCell a (.int .u32 1)):=by
 have b:w.drew.cell? a=some x:=by go_simp
 have c:w.drew.frozen? a=false:=by go_simp
 have g:=run_call_store (P:=prog) func316 aL aL aL aL (k:=.u32) (y:=1) b c
 go_enter_d func284,ntmps284
 go_wp2
 go_region_calls
 all_goals(go_end0;exact⟨rfl,rfl⟩)
theorem Hz (a:Addr) (u:FrameMode) (w:World) (b:w.cell? a=some (.int .i32 1)) (c:w.frozen? a=false):
  CallsD prog 283 #[.pointer (some a)] u w fun e d w'=>d=u/\(e=.returned (.tuple #[])/\w'=w.setCell a (.int .i32 0)):=by
 have f:=run_call_add (P:=prog) func341 aL aL aL .i32 aL (y:=-1) (s:=0) b c (by simp[go_sem];rfl);have hd:=xH;have h:=Aj;have i:=J7;have g:=run_convert_to_unsafe (P:=prog) (src:=405) (dst:=409) underlying405 underlying409 aL b
 go_enter_d func283,ntmps283
 go_wp2
 go_end0
 go_wp2
 go_end0
 exact⟨rfl,rfl⟩
theorem M7 (a:Addr) (w:World) (b:w.cell? a=some (.int .i32 0)) (d:w.frozen? a=false):
  aK 282 #[.pointer (some a)] w fun e w'=>e=.returned (.tuple #[])/\w'=w.setCell a (.int .i32 1):=by
 have g:=run_call_cas_hit (P:=prog) func336 aL aL aL .i32 aL (y:=1) b d;have c:(w.setCell a (.int .i32 1)).cell? a=some (.int .i32 1):=Bo w a _ b;have hd:=xH;have i:=Aj;have f:=F8;have h:=run_convert_to_unsafe (P:=prog) (src:=405) (dst:=409) underlying405 underlying409 aL c;go_enter func282,ntmps282;go_wp2
 first|go_end0|(simp only[Exit.inBlock,Exit.then];refine kC (ll rfl _ _ _) rfl ?_)|refine kC (ll rfl _ _ _) rfl ?_
 go_wp2
 go_end0
 exact⟨rfl,rfl⟩
def TM (R:World->Prop) (b off:Nat) (e:Ending) (w':World):Prop:=
 e=.returned (.tuple #[])/\R w'/\w'.cell? (ag b off)=some (ak 0)/\w'.cell? (ag b (off+1))=some (.int .i32 1)/\w'.frozen? (ag b off)=false/\w'.frozen? (ag b (off+1))=false
def Pj (R:World->Prop) (b off:Nat) (e:Ending) (w':World):Prop:=
 e=.returned (.tuple #[])/\∃w1,R w1/\w'=(w1.drew.setCell (ag b off) (.int .u32 1)).setCell (ag b (off+1)) (.int .i32 0)
theorem J9 {R:World->Prop} {fn:Nat} (r:∀args w,(callFunc fn args).run prog w=.ok (.enter fn args) w) (b off:Nat) (cv:Value) (w:World) (h:w.cell? (ag b off)=some (ak 0)) (i:w.cell? (ag b (off+1))=some (.int .i32 0)) (f0:w.frozen? (ag b off)=false) (f1:w.frozen? (ag b (off+1))=false)
  (C:aK fn #[cv] (w.setCell (ag b (off+1)) (.int .i32 1)) (TM R b off)):
  aK 217 #[.pointer (some (ag b off)),.func (.func fn) #[] #[cv]] w (Pj R b off):=by
 have s:=run_call_load (P:=prog) func281 aL aL aL .u32 aL (w:=w.setCell (ag b (off+1)) (.int .i32 1)) (a:=(ag b off)) (x:=0) ((yJ _ (ag b (off+1)) (ag b off) _ ax).trans h);have c:=af C;have g:=af (M7 (ag b (off+1)) w i f1)
 go_enter_defers func217,ntmps217
 go_wp2_with (first|(go_at_call 282;refine g.o.mono ?_;rintro e w' ⟨rfl,rfl⟩)|(refine c.o.mono ?_;rintro e w1 ⟨rfl,j,k,l,p,q⟩)|(go_at_call 216;go_in))
 refine leaves_cons (f:=284) (args:=#[.pointer (some (ag b off)),.bool true]) ax (by simp[go_sem]) ?_;refine(J8 (ag b off) (.int .u32 0) .returning w1 k p).mono ?_;rintro e m n ⟨rfl,rfl,rfl⟩;refine leaves_cons (f:=283) (args:=#[.pointer (some (ag b (off+1)))]) (by simp[settle]) (by simp[go_sem]) ?_;refine(Hz (ag b (off+1)) _ _ ?_ (by simp[q])).mono ?_
 .refine(yJ _ (ag b off) (ag b (off+1)) _ ax).trans ?_;rw[World.cell?_drew];exact l
 rintro e m n ⟨rfl,rfl,rfl⟩;have d:Pj R b off (.returned (.tuple #[])) ((w1.drew.setCell (ag b off) (.int .u32 1)).setCell (ag b (off+1)) (.int .i32 0)):=⟨rfl,w1,j,rfl⟩;simp[Leaves,settle,results,Tryz.results217];exact d
theorem Ak {R:World->Prop} {fn:Nat} (f:∀args w,(callFunc fn args).run prog w=.ok (.enter fn args) w) (b off:Nat) (cv:Value) (w:World) (a:w.cell? (ag b off)=some (ak 0)) (g:w.cell? (ag b (off+1))=some (.int .i32 0)) (f0:w.frozen? (ag b off)=false) (f1:w.frozen? (ag b (off+1))=false)
  (C:aK fn #[cv] (w.setCell (ag b (off+1)) (.int .i32 1)) (TM R b off)):
  aK 146 #[.pointer (some (ag b off)),.func (.func fn) #[] #[cv]] w (Pj R b off):=by
 have h:=run_call_load (P:=prog) func281 aL aL aL .u32 aL a;have d:=af (J9 f b off cv w a g f0 f1 C);go_enter func146,ntmps146
 go_wp2_with (first|(go_at_call 217;refine d.o.mono ?_;rintro e w' ⟨rfl,HO⟩;have c:=af HO;clear HO)|(go_at_call 216;go_in))
 go_end0
 exact⟨rfl,c.o⟩
theorem EC (a:Addr) (b:Value) (w:World) (c:w.cell? a=some (ak 1)):
  aK 146 #[.pointer (some a),b] w fun e w'=>e=.returned (.tuple #[])/\w'=w:=by
 have d:=run_call_load (P:=prog) func281 aL aL aL .u32 aL c;go_enter func146,ntmps146;go_wp2
 go_end0
 exact⟨rfl,rfl⟩
end
section
open Go.RowKit Go.Sort Go.Shelf Go.Lib Go.Maps
attribute [local irreducible] wpQuiet
attribute [local go_sem] Oper.dZ
theorem Pk {g n c a:Nat} (e:(aC g n c).ownBlock=some a):g=a:=by injection e
def bf (n:Nat):List Nd:=if n=0 then[]else(dU 0 n).nodes 0
theorem dB (n:Nat):(bf n).length=2*n-1:=by
 unfold bf;split
 .subst n;rfl
 .rw[FT.iR,fJ 0 n aa]
abbrev lX (d m:Int) (nv:Value) (n:Nat):Obj:=.cells #[ak d,.int .i32 m,ak 0,nv,ae n,.bool true] 236 (0,0)
theorem zy (n:Nat) (a:n<=100000) (w:World):
  aK 90 #[ae n] w fun e w'=>e=.returned (.tuple #[aj w.heap.size,ae 0])/\w'=w.alloc (lX 0 0 (aM) n):=by
 refine calls_of_wp func90 rfl ?_;simp only[ntmps90,ma,eH,fE,Nat.reduceAdd,Nat.reduceSub,rM,rO,mf,rQ,gu,nk];go_wp2;go_ret2;exact⟨rfl,rfl⟩
theorem vz:eU 233:=bP func233 aL rfl
def VL (w:World) (fb n:Nat) (e:Ending) (w':World):Prop:=
 e=.returned (.tuple #[])/\∃nv,w'.ownsRow w.heap.size 163 7 nv (bf n).length ((bf n).flatMap pR)/\w'.heap[fb]? =some (lX 0 1 nv n)/\aB (fun k=>k=fb) w w'
theorem Ka (fb cb n:Nat) (aE:n<=40000) (w:World) (E:w.cell? (ag cb 0)=some (aj fb)) (A:w.heap[fb]? =some (lX 0 1 (aM) n)) (aG:cb≠fb):
  aK 230 #[aj cb] w (VL w fb n):=by
 have z:cb<w.heap.size:=iF w _ E;have F:fb<w.heap.size:=(bg.1 A).1;have f4:w.cell? (ag fb 4)=some (ae n):=aI A;obtain⟨M,ad⟩:∃M,M=2*n:=⟨_,rfl⟩;have aC:(2:Int)*(n:Int)=(M:Int):=aa;have C:=Pf M aa w;have V:=af A;have q:Hid (iy (w.alloc (.cells #[ae M,aM,aM,.bool true] 372)) w.heap.size w.heap.size M (aM) (aM) [] []):=
  ⟨bY _ _,cZ _ _ _ _,cZ _ _ _ _,rfl⟩
 have g:Below w.heap.size w (w.alloc (.cells #[ae M,aM,aM,.bool true] 372)):=(aJ _ _).alloc (aA _) _;have s:∀(w1:World) f t ak,iy w1 w.heap.size w.heap.size M f t (bf n) ak->Below w.heap.size w w1->aK 233 #[aj w.heap.size] w1 fun e w'=>∃v,e=.returned v/\w'.ownsRow w1.heap.size 163 7 v (bf n).length ((bf n).flatMap pR)/\Below w1.heap.size w1 w':=fun w1 f t ak h ah=>by
  obtain⟨T,nc,rfl,-,-,ar⟩:=bV.aD jO ai h.jD;exact J6 M w.heap.size T nc t (bf n) w1 h.blk ar (by rw[dB];omega)
 by_cases D:n=0
 .have an:Hid (bf n=[]):=by show bf n=[];rw[D];rfl
  have s:=af s;have y:=(g.cell (p:=(ag cb 0)) z).trans E;have Z:=(g.cell (p:=(ag fb 4)) F).trans f4;have H:=af g;have d1:decide ((n:Int)>0)=false:=aH;have d2:decide ((0:Int)<(n:Int))=false:=aH;have d3:decide (0<n)=false:=aH;clear A ad g D;go_enter func230,ntmps230
  go_wp2_with fail
  with_reducible refine C.mono ?_
  rintro e w1 ⟨rfl,rfl⟩;clear C
  go_wp2_with fail
  have L:Hid (iy (w.alloc (.cells #[ae M,aM,aM,.bool true] 372)).drew w.heap.size w.heap.size M (aM) (aM) (bf n) []):=by rw[an.o];exact⟨q.o.blk,q.o.jD,q.o.row,rfl⟩
  have c:Hid (Below w.heap.size w (w.alloc (.cells #[ae M,aM,aM,.bool true] 372))):=H;have G:Hid (∀w1,iy w1 w.heap.size w.heap.size M (aM) (aM) (bf n) []->Below w.heap.size w w1->aK 233 #[aj w.heap.size] w1 fun e w'=>∃v,e=.returned v/\w'.ownsRow w1.heap.size 163 7 v (bf n).length ((bf n).flatMap pR)/\Below w1.heap.size w1 w'):=fun w1 O P=>s.o w1 _ _ _ O P;clear q s;generalize(w.alloc (.cells #[ae M,aM,aM,.bool true] 372))=b at*;have u:Hid ((fun W:World=>W.cell? (ag cb 0)=some (aj fb)) b.drew):=y;have am:∀p:kG (fun W:World=>W.cell? (ag cb 0)=some (aj fb)),p.W.cell? (ag cb 0)=some (aj fb):=fun p=>p.h;refine au (fun W=>∃p:kG (fun W:World=>W.cell? (ag cb 0)=some (aj fb)),W=p.W) [3,4,5,6] [(0,true),(1,false)] ⟨⟨_,u.o⟩,rfl⟩ 5 ?_;refine ay 2 rfl fun K i=>?_;refine aY vz rfl _ _ rfl (vals:=#[aj w.heap.size]) rfl (G.o b.drew L.o (c.o.trans (Below.aX _ 1))) ?_;rintro e w2 ⟨f,rfl,m,l⟩;refine⟨f,rfl,?_⟩;obtain⟨T,nc,rfl⟩:=fK m;have R:w2.cell? (ag cb 0)=some (aj fb):=(l.cell (p:=(ag cb 0)) (by have:=c.o.size;exact cO z this)).trans u.o;refine i _ _ (fun _ _=>⟨⟨_,R⟩,rfl⟩) ?_;clear i K;refine aF [3,4,5,6] ?_;have j:Below w.heap.size w w2:=(c.o.trans (Below.aX _ 1)).trans (l.mono c.o.size);have d:w2.heap[fb]? =some (lX 0 1 (aM) n):=(j.block fb F).trans V.o;have aw:w2.cell? (ag fb 3)=some (aM):=aI d;have az:w2.frozen? (ag fb 3)=false:=aI d;have J:=af d;have x:=af m;have B:w.heap.size<=b.heap.size:=c.o.size;have I:=af j;clear d m l j;go_wp2
  first|go_end0|go_ret
  refine⟨rfl,_,aU (S:=fun k=>k=fb) (bM x.o B) ((aB.refl _ w2).set (a:=(ag fb 3)) _ (.inl rfl)) (fun N e al=>by have Q:=(x.o.lt N e).1;have ao:w.heap.size<=b.drew.heap.size:=B;omega),?_,?_⟩
  .exact dC w2 fb 3 _ _ _ J.o
  .exact((aB.refl (fun k=>k=fb) w).below I.o).set (a:=(ag fb 3)) _ (.inl rfl)
 .have U:=af s;have y:=(g.cell (p:=(ag cb 0)) z).trans E;have Z:=(g.cell (p:=(ag fb 4)) F).trans f4;have H:=af g;have d1:decide ((n:Int)>0)=true:=aH;have d2:decide ((0:Int)<(n:Int))=true:=aH;have d3:decide (0<n)=true:=aH;have Y:bf n=[]++(dU 0 n).nodes ([]:List Nd).length:=by unfold bf;rw[aN D];rfl
  have X:Hid (∀W,iy W w.heap.size w.heap.size M (aM) (aM) [] []->w.heap.size<=W.heap.size->aK 232 #[aj w.heap.size,ae 0,ae n] W fun e w'=>(∃r,e=.returned (ae r))/\rV W w.heap.size w.heap.size M (aM) (aM) (bf n) ([]++F7 n) w'):=
   fun W h ah=>(M6 n 0 n M w.heap.size w.heap.size _ _ [] [] W aa aa aH aa aa h ah).mono fun e w' ⟨ap,aq⟩=>⟨⟨_,ap⟩,by rw[Y];exact aq⟩
  clear s A ad g D Y;go_enter func230,ntmps230
  go_wp2_with fail
  with_reducible refine C.mono ?_
  rintro e w1 ⟨rfl,rfl⟩;clear C
  go_wp2_with fail
  with_reducible refine(X.o _ q.o ax).mono ?_
  rintro e b ⟨⟨r,rfl⟩,f,t,ab,av,i⟩;have ac:aB (fun _=>False) w b:=by
   have Q:aB (fun k=>False\/w.heap.size<=k) w b:=((aB.refl (fun k=>False\/w.heap.size<=k) w).alloc _).trans (i.mono (fun k h=>by
    rcases h with h|h|h
    .exact .inr aa
    .cases h
    .cases h))
   exact Q.strip
  have c:Hid (Below w.heap.size w b):=ac.toBelow (aA _) (fun _ h=>h.elim);have G:Hid (∀w1,iy w1 w.heap.size w.heap.size M f t (bf n) ([]++F7 n)->Below w.heap.size w w1->aK 233 #[aj w.heap.size] w1 fun e w'=>∃v,e=.returned v/\w'.ownsRow w1.heap.size 163 7 v (bf n).length ((bf n).flatMap pR)/\Below w1.heap.size w1 w'):=fun w1 O P=>U.o w1 _ _ _ O P;have L:Hid (iy b.drew w.heap.size w.heap.size M f t (bf n) ([]++F7 n)):=ab.kept (aB.refl (fun _=>False) b).drew (fun _ _ h=>h);clear y Z q U X H ab av i ac;have y:=(c.o.cell (p:=(ag cb 0)) z).trans E
  go_wp2_with fail
  have u:Hid ((fun W:World=>W.cell? (ag cb 0)=some (aj fb)) b.drew):=y;have am:∀p:kG (fun W:World=>W.cell? (ag cb 0)=some (aj fb)),p.W.cell? (ag cb 0)=some (aj fb):=fun p=>p.h;refine au (fun W=>∃p:kG (fun W:World=>W.cell? (ag cb 0)=some (aj fb)),W=p.W) [3,4,5,6] [(0,true),(1,false)] ⟨⟨_,u.o⟩,rfl⟩ 5 ?_;refine ay 2 rfl fun K i=>?_;refine aY vz rfl _ _ rfl (vals:=#[aj w.heap.size]) rfl (G.o b.drew L.o (c.o.trans (Below.aX _ 1))) ?_;rintro e w2 ⟨f,rfl,m,l⟩;refine⟨f,rfl,?_⟩;obtain⟨T,nc,rfl⟩:=fK m;have R:w2.cell? (ag cb 0)=some (aj fb):=(l.cell (p:=(ag cb 0)) (by have:=c.o.size;exact cO z this)).trans u.o;refine i _ _ (fun _ _=>⟨⟨_,R⟩,rfl⟩) ?_;clear i K;refine aF [3,4,5,6] ?_;have j:Below w.heap.size w w2:=(c.o.trans (Below.aX _ 1)).trans (l.mono c.o.size);have d:w2.heap[fb]? =some (lX 0 1 (aM) n):=(j.block fb F).trans V.o;have aw:w2.cell? (ag fb 3)=some (aM):=aI d;have az:w2.frozen? (ag fb 3)=false:=aI d;have J:=af d;have x:=af m;have B:w.heap.size<=b.heap.size:=c.o.size;have I:=af j;clear d m l j;go_wp2
  first|go_end0|go_ret
  refine⟨rfl,_,aU (S:=fun k=>k=fb) (bM x.o B) ((aB.refl _ w2).set (a:=(ag fb 3)) _ (.inl rfl)) (fun N e al=>by have Q:=(x.o.lt N e).1;have ao:w.heap.size<=b.drew.heap.size:=B;omega),?_,?_⟩
  .exact dC w2 fb 3 _ _ _ J.o
  .exact((aB.refl (fun k=>k=fb) w).below I.o).set (a:=(ag fb 3)) _ (.inl rfl)
def VM (w:World) (fb n:Nat) (e:Ending) (w':World):Prop:=
 ∃nv,e=.returned nv/\w'.ownsRow w.heap.size 163 7 nv (bf n).length ((bf n).flatMap pR)/\w'.heap[fb]? =some (lX 1 0 nv n)/\aB (fun k=>k=fb) w w'
theorem AO (fb n:Nat) (D:n<=40000) (w:World) (q:w.heap[fb]? =some (lX 0 0 (aM) n)):
  aK 164 #[aj fb] w (VM w fb n):=by
 have B:fb<w.heap.size:=(bg.1 q).1;obtain⟨w0,h⟩:∃w0,w0=w.alloc (.cells #[aj fb] 137):=⟨_,rfl⟩;have m:Below w.heap.size w w0:=by rw[h];exact(aJ _ _).alloc (aA _) _
 have y:w0.cell? (ag w.heap.size 0)=some (aj fb):=by rw[h,eX _ _ _ _ rfl];rfl
 have J:w0.heap.size=w.heap.size+1:=by rw[h];simp
 have d:w0.heap[fb]? =some (lX 0 0 (aM) n):=(m.block fb B).trans q;have j:(w0.setCell (ag fb 1) (.int .i32 1)).heap[fb]? =some (lX 0 1 (aM) n):=dC w0 fb 1 _ _ _ d;have p:(w0.setCell (ag fb 1) (.int .i32 1)).cell? (ag w.heap.size 0)=some (aj fb):=(dJ (aG (by show fb≠w.heap.size;omega))).trans y;have r:=Ka fb w.heap.size n D _ p j aa;have s:=Ak (fn:=230) (bP func230 aL rfl) (R:=fun w1=>∃c,w1.ownsRow w.heap.size 163 7 c (bf n).length ((bf n).flatMap pR)/\w1.heap[fb]? =some (lX 0 1 c n)/\aB (fun k=>k=fb) w w1/\w1.cell? (ag w.heap.size 0)=some (aj fb)) fb 0 (aj w.heap.size) w0 (aI d) (aI d) (aI d) (aI d)
  (r.mono fun e w1 ⟨A,c,g,f,i⟩=>⟨A,⟨c,bM g aH,f,((aB.refl _ w).below m).trans (((aB.refl (fun k=>k=fb) w0).set (a:=(ag fb 1)) _ (.inl rfl)).trans i),((di i (b:=w.heap.size) aH aa).1 0).trans p⟩,aI f,aI f,aI f,aI f⟩)
 have t:=af s;go_enter func164,ntmps164
 go_wp2_with fail
 rw[<-h];refine t.o.mono ?_;rintro e w2 ⟨rfl,w1,⟨c,g,j,i,z⟩,rfl⟩;have x:=dC w1.drew fb 0 _ _ (.int .u32 1) (show w1.drew.heap[fb]? =_ from j);have l:=dC _ fb 1 _ _ (.int .i32 0) x;have C:aB (fun k=>k=fb) w ((w1.drew.setCell (ag fb 0) (.int .u32 1)).setCell (ag fb 1) (.int .i32 0)):=((i.drew).set (a:=(ag fb 0)) _ (.inl rfl)).set (a:=(ag fb 1)) _ (.inl rfl);have E:((w1.drew.setCell (ag fb 0) (.int .u32 1)).setCell (ag fb 1) (.int .i32 0)).ownsRow w.heap.size 163 7 c (bf n).length ((bf n).flatMap pR):=aU (S:=fun k=>k=fb) g ((((aB.refl (fun k=>k=fb) w1).drew).set (a:=(ag fb 0)) _ (.inl rfl)).set (a:=(ag fb 1)) _ (.inl rfl)) (fun v e F=>by have G:=(g.lt v e).1;omega);have H:((w1.drew.setCell (ag fb 0) (.int .u32 1)).setCell (ag fb 1) (.int .i32 0)).cell? (ag w.heap.size 0)=some (aj fb):=by
  exact(dJ (aG (by show fb≠w.heap.size;omega))).trans ((dJ (aG (by show fb≠w.heap.size;omega))).trans z)
 have I:((w1.drew.setCell (ag fb 0) (.int .u32 1)).setCell (ag fb 1) (.int .i32 0)).cell? (ag fb 3)=some c:=aI l;have u:Hid (VM w fb n (.returned c) ((w1.drew.setCell (ag fb 0) (.int .u32 1)).setCell (ag fb 1) (.int .i32 0))):=⟨c,rfl,E,l,C⟩;obtain⟨K,nc,rfl⟩:=fK g;generalize((w1.drew.setCell (ag fb 0) (.int .u32 1)).setCell (ag fb 1) (.int .i32 0))=L at*;simp only[];go_wp2;go_ret;exact u.o
theorem tT (fb n:Nat) (b:Value) (p:∃a c,b=.slice a (bf n).length c) (w:World) (g:w.heap[fb]? =some (lX 1 0 b n)):
  aK 164 #[aj fb] w (gD w b):=by
 have m:fb<w.heap.size:=(bg.1 g).1;obtain⟨w0,d⟩:∃w0,w0=w.alloc (.cells #[aj fb] 137):=⟨_,rfl⟩;have f:Below w.heap.size w w0:=by rw[d];exact(aJ _ _).alloc (aA _) _
 have r:w0.cell? (ag w.heap.size 0)=some (aj fb):=by rw[d,eX _ _ _ _ rfl];rfl
 have h:w0.heap[fb]? =some (lX 1 0 b n):=(f.block fb m).trans g;have i:=fun l=>EC (ag fb 0) l w0 (aI h);have k:=af i;have q:w0.cell? (ag fb 3)=some b:=aI h;have j:=af f;obtain⟨s,nc,rfl⟩:=p;clear i h f g;go_enter func164,ntmps164
 go_wp2_with fail
 rw[<-d];clear d;refine(k.o _).mono ?_;rintro e w2 ⟨rfl,rfl⟩;go_wp2;go_ret;exact⟨rfl,j.o⟩
theorem qZ (fb:Nat) (w:World) (a:w.cell? (ag fb 5)=some (.bool true)):
  aK 163 #[aj fb] w fun e w'=>e=.returned (.bool false)/\w'=w:=by
 go_enter func163,ntmps163;go_wp2;go_ret;exact⟨rfl,rfl⟩
theorem F9 (fb n:Nat) (w:World) (b:w.cell? (ag fb 5)=some (.bool true)) (c:w.cell? (ag fb 4)=some (ae n)):
  aK 166 #[aj fb] w fun e w'=>e=.returned (ae n)/\w'=w:=by
 have a:=qZ fb w b;go_enter func166,ntmps166
 go_wp2_with (go_at_call 163;refine a.mono ?_;rintro e w' ⟨rfl,rfl⟩)
 go_ret;exact⟨rfl,rfl⟩
theorem jV (fb n:Nat) (d:0<n) (g:n<=100000) (w:World) (c:w.cell? (ag fb 5)=some (.bool true)) (b:w.cell? (ag fb 4)=some (ae n)):
  aK 95 #[aj fb] w fun e w'=>e=.returned (ae ((2*n-2:Nat):Int))/\w'=w:=by
 have a:=F9 fb n w c b;have d0:((n:Int)==0)=false:=aH;have f:(2:Int)*(n:Int)-2=((2*n-2:Nat):Int):=aa;generalize((2*n-2:Nat):Int)=r at*;go_enter func95,ntmps95
 go_wp2_with (go_at_call 166;refine a.mono ?_;rintro e w' ⟨rfl,rfl⟩)
 go_ret;exact⟨rfl,rfl⟩
theorem ig (fb n:Nat) (F:n<=40000) (w:World) (d:w.heap[fb]? =some (lX 0 0 (aM) n)):
  aK 92 #[aj fb] w fun e w'=>∃j v,e=.returned v/\w'.ownsRow w.heap.size 163 7 j (bf n).length ((bf n).flatMap pR)/\w'.ownsRow w.heap.size 163 7 v (bf n).length ((bf n).flatMap pR)/\w'.heap[fb]? =some (lX 1 0 j n)/\aB (fun k=>k=fb) w w':=by
 have y:w.cell? (ag fb 5)=some (.bool true):=aI d;have q:=qZ fb w y;have B:fb<w.heap.size:=(bg.1 d).1;have z:(w.alloc (.cells #[] 163)).heap[fb]? =some (lX 0 0 (aM) n):=(bU _ _ _ B).trans d;have p:=af (AO fb n F _ z);have I:=BF (e:=163) (size:=7) w #[] 0 (aA _) (aT _) rfl;have HO:=af I;go_enter func92,ntmps92
 go_wp2_with (go_at_call 163;refine q.mono ?_;rintro e w' ⟨rfl,rfl⟩)
 go_wp2_with fail
 refine p.o.mono ?_;rintro e w2 ⟨j,rfl,i,A,g⟩;have K:=aU (S:=fun k=>k=fb) HO.o g (fun a e N=>by have O:=Pk e;omega);have H:=i.lt;obtain⟨m,nc,rfl,-,-,J⟩:=bV.aD jO ai i;have P:(bf n).length<=100000:=by rw[dB];omega
 generalize c:bf n=D at*;have r:=af c;have t:=af i;have s:=af A;have E:aB (fun k=>k=fb) w' w2:=((aB.refl _ w').alloc _).trans g;have u:=af E;have L:=g.size;simp at L;have x:Hid (∀b,(Value.slice m D.length nc).ownBlock=some b->(w'.alloc (.cells #[] 163)).heap.size<=b/\b<w2.heap.size):=fun b e=>H b e
 go_wp2_with (at_builtin;refine jl Ul jO LB w'.heap.size K J rfl _ _ rfl rfl nc rfl dE aa aa ?_;intro M w3 l C)
 go_ret;rw[kD,gu]at l;have f:aB (fun k=>k=w'.heap.size) w2 w3:=(aB.refl _ w2).grown C (fun k e=>.inl (by injection e with e;exact e.symm));have G:∀a,(Value.slice m D.length nc).ownBlock=some a->a≠w'.heap.size:=fun a e=>by have:=(x.o a e).1;simp at this;omega
 have c:=r.o;subst c;refine⟨_,M,rfl,bM (aU (S:=fun k=>k=w'.heap.size) t.o f G) ax,l,(f.block fb aa aa).trans s.o,?_⟩
 .exact(((u.o.mono (fun k h=>.inl h)).trans (f.mono (fun k h=>.inr aa)))).strip
end
section
open Go.RowKit Go.Sort Go.Shelf Go.Lib Go.Maps
theorem HV {w:World} {g off:Nat} {N:List Nd} {i:Nat} {d:Nd} (h:bV pR 7 w (some (ag g off)) N) (hi:N[i]? =some d):
  g<w.heap.size/\w.cell? (ag g (off+i*7))=some (.int .u8 d.kind)/\w.cell? (ag g (off+i*7+1))=some (ae d.l)/\w.cell? (ag g (off+i*7+2))=some (ae d.r)/\w.cell? (ag g (off+i*7+3))=some (ae d.fr)/\w.cell? (ag g (off+i*7+4))=some (ae d.Lu)/\w.cell? (ag g (off+i*7+6))=some (ae d.item):=by
 have⟨a,hd⟩:=fI.1 hi;rcases h with h|⟨b,o,e,f,j⟩
 .subst h;simp at a
 .cases e;have c:=j i a;rw[hd]at c;exact⟨f,c 0 aa,c 1 aa,c 2 aa,c 3 aa,c 4 aa,c 6 aa⟩
structure om (w:World) (base fb n:Nat) (nv:Value):Prop where
 blk:w.heap[fb]? =some (lX 1 0 nv n)
 row:w.ownsRow base 163 7 nv (bf n).length ((bf n).flatMap pR)
theorem kH (n:Nat) (h:0<n):FT.At (bf n) (dU 0 n) 0:=⟨[],[],by unfold bf;rw[aN aa];simp,rfl⟩
theorem Cw (w:World) (base:Nat) (xs:List Value) (e:TypeId) (a:base<=w.heap.size) (b:xs.length<=maxLen):(w.alloc (.cells xs.toArray e)).ownsRow base e 1 (aC w.heap.size xs.length xs.length) xs.length xs:=
 ⟨ax,.inr ⟨w.heap.size,xs.length,xs.toArray,rfl,a,vK w _,aA _,b,ax,ax⟩⟩
def VN (w:World) (n x:Nat) (e:Ending) (w':World):Prop:=
 ∃v,e=.returned (.tuple #[v,ae 0])/\w'.ownsRow w.heap.size 3 1 v ((dU 0 n).path 0 x).length (((dU 0 n).path 0 x).map fun i=>ae (i:Nat))/\Below w.heap.size w w'
theorem wI (base fb n x:Nat) (aY:Value) (ba:n<=40000) (bc:x<n) (w:World) (h:om w base fb n aY):
  aK 192 #[aj fb,ae x] w (VN w n x):=by
 have al:fb<w.heap.size:=(bg.1 h.blk).1;have d:=h.blk;have ad:w.cell? (ag fb 5)=some (.bool true):=aI d;have L:w.cell? (ag fb 4)=some (ae n):=aI d;have av:=qZ fb w ad;have Q:=dB n;obtain⟨aX,nc,rfl,-,-,T⟩:=bV.aD jO ai h.row;have aU:∃g off,aX=some (ag g off):=by
  rcases T with aP|⟨g,off,e,_⟩
  .rw[aP]at Q;simp at Q;omega
  .exact⟨g,off,e⟩
 obtain⟨g,off,rfl⟩:=aU;have au:=tT fb n _ ⟨_,_,rfl⟩ w d;have aw:=af (fun W (d:Below w.heap.size w W)=>jV fb n aa aa W ((d.cell (p:=(ag fb 5)) al).trans ad) ((d.cell (p:=(ag fb 4)) al).trans L));have ak:=bR 0 n aa;have hS:=fJ 0 n aa;have ay:=af (kH n aa);have X:=af T;have j:Hid ((dU 0 n).wf/\(dU 0 n).lo<=x/\x<(dU 0 n).hi/\(dU 0 n).root 0=2*n-2):=⟨ak.1,aa,aa,by unfold FT.root;omega⟩;have d1:decide ((x:Int)<0)=false:=ax;have d2:decide ((x:Int)>=(n:Int))=false:=aH;have d3:decide ((n:Int)<=(x:Int))=false:=aH;have d4:decide (n<=x)=false:=aH;have aR:(bf n).length<=100000:=aa;generalize ah:bf n=D at*;have a3:=af ah;clear ah d h T ak hS Q;go_enter func192,ntmps192
 go_wp2_with fail
 with_reducible refine av.mono ?_
 rintro e w' ⟨rfl,ac⟩;subst w'
 go_wp2_with fail
 with_reducible refine au.mono ?_
 rintro e w1 ⟨rfl,E⟩
 go_wp2_with fail
 refine(aw.o w1 E).mono ?_;rintro e w2 ⟨rfl,ac⟩;subst ac
 go_wp2_with fail
 have am:=Cw w2 w.heap.size [.int .i64 ((2*n-2:Nat):Int)] 3 E.size (by unfold maxLen;simp);simp only[eH,fE,kD]at am
 go_loopg [7,8] ((dU 0 n).ht) (fun aW a0 a1 wr=>∃(t:FT) (s:Nat) (a:List Nat),a0=.int .i64 (t.root s:Nat)/\t.ht<=aW/\Below w.heap.size w wr/\Hid (FT.At D t s)/\Hid ((dU 0 n).path 0 x=a++t.path s x)/\Hid (t.wf/\t.lo<=x/\x<t.hi)/\
  Hid (wr.ownsRow w.heap.size 3 1 a1 (a.length+1) ((a++[t.root s]).map fun i=>ae (i:Nat))))
 case atStart=>exact⟨dU 0 n,0,[],by rw[j.o.2.2.2],aA _,(E.trans ((aJ _ w2).alloc E.size _)),ay,rfl,⟨j.o.1,j.o.2.1,j.o.2.2.1⟩,by rw[j.o.2.2.2];exact am⟩
 case round=>
  obtain⟨t,s,a,rfl,a8,b,c,G,aC,HO⟩:=hrel;obtain⟨F,Z,z,A,I,J,K⟩:=HV (X.o.below b) c.o.get;have a9:=c.o.lt;have bb:a.length+1<=n+1:=by
   have C:=FT.pG (dU 0 n) 0 x;have a4:=wE 0 n n (wm (Fy));have a5:0<(t.path s x).length:=by obtain⟨P,hP⟩:=FT.uC t s x;rw[hP];simp
   have L:=G.o;rw[L,bQ]at C;omega
  have a6:D.length<=100000:=aR;cases t with
  |leaf q=>
   simp only[FT.top]at Z z A I J K;have V:Hid (a.length+1=((dU 0 n).path 0 x).length/\a++[(FT.leaf q).root s]=(dU 0 n).path 0 x):=by
    show _/\_;rw[G.o];simp[FT.path,FT.root,FT.size]
   generalize(FT.leaf q).root s=k at*;go_wp2;go_ret2;have C:=HO.o;rw[V.o.1,V.o.2]at C;exact⟨_,rfl,C,b⟩
  |node l r=>
   simp only[FT.top]at Z z A I J K;have B:((s+l.size:Nat):Int)-1=((l.root s:Nat):Int):=by unfold FT.root;have:=l.size_pos;omega
   have ab:((s+l.size+r.size:Nat):Int)-1=((r.root (s+l.size):Nat):Int):=by unfold FT.root;have:=r.size_pos;omega
   rw[B]at z;rw[ab]at A;clear B ab I J K;obtain⟨-,aE,aF,aG,aL,H,aM⟩:=HV (X.o.below b) c.o.left.get;rw[FT.wF]at H;clear aE aF aG aL aM;have aT:=c.o.left.lt;have aV:=c.o.right.lt;have a7:(FT.node l r).ht=max l.ht r.ht+1:=rfl;have U:Hid ((dU 0 n).path 0 x=(a++[(FT.node l r).root s])++(if x<l.hi then l.path s x else r.path (s+l.size) x)):=by
    show _=_;rw[G.o,dW];rfl
   have az:=af c.o.left;have aB:=af c.o.right;have Y:=af aC.o;have y:=HO.o;generalize aS:(FT.node l r).root s=k at*;have an:(a++[k]).length=a.length+1:=ax;obtain⟨kl,M⟩:∃kl,kl=l.root s:=⟨_,rfl⟩;obtain⟨kr,N⟩:∃kr,kr=r.root (s+l.size):=⟨_,rfl⟩;rw[<-M]at z H aT;rw[<-N]at A aV;have u:Hid (kl=l.root s/\kr=r.root (s+l.size)):=⟨M,N⟩;obtain⟨m,R⟩:∃m,m=l.hi:=⟨_,rfl⟩;rw[<-R]at H;have v:Hid (m=l.hi):=R;clear M N R aS;by_cases f:x<m
   .have d5:decide ((x:Int)<(m:Int))=true:=aQ f;have d6:decide (x<m)=true:=aQ f
    go_wp2_with (at_builtin;refine iw nX w.heap.size y [.int .i64 kl] rfl (by simp[Value.oneCell']) rfl _ _ rfl rfl _ rfl dE aa b.size ?_;intro a2 w3 S F)
    go_roundg l.ht
    case measure=>omega
    case rel=>
     have O:=Y.o;refine⟨l,s,a++[k],by rw[<-u.o.1],aA _,bH b y F b.size (aA _),az,?_,?_,?_⟩
     .show _=_;rw[U.o,<-v.o,aO f]
     .have B:=v.o;obtain⟨⟨ao,ap,aZ⟩,aq,ar⟩:=O;exact⟨ao,aq,aa⟩
     .rw[an,bJ,<-u.o.1];exact S
   .have d5:decide ((x:Int)<(m:Int))=false:=aQ f;have d6:decide (x<m)=false:=aQ f
    go_wp2_with (at_builtin;refine iw nX w.heap.size y [.int .i64 kr] rfl (by simp[Value.oneCell']) rfl _ _ rfl rfl _ rfl dE aa b.size ?_;intro a2 w3 S F)
    go_roundg r.ht
    case measure=>omega
    case rel=>
     have O:=Y.o;refine⟨r,s+l.size,a++[k],by rw[<-u.o.2],aA _,bH b y F b.size (aA _),aB,?_,?_,?_⟩
     .show _=_;rw[U.o,<-v.o,aN f]
     .have B:=v.o;obtain⟨⟨ao,ap,aZ⟩,aq,ar⟩:=O;exact⟨ap,aa,ar⟩
     .rw[an,bJ,<-u.o.2];exact S
end
section
open Go.RowKit Go.Sort Go.Shelf Go.Lib Go.Maps
attribute [local irreducible] wpQuiet
attribute [local go_sem] Oper.dZ
section
variable {P:Program} {ops:Array Oper} {o:Oper} {a:Act} {K:Act->World->Prop} {Q:Exit->Act->World->Prop} {E0:Prop}
theorem HY {α:Type} {enc:α->List Value} {sz:Nat} {t e:TypeId} {bytes:Nat} (f:eY P t e sz bytes) {W:World} {ad:Option Addr} {l:List α} {c:Nat} (s:bV enc sz W ad l) (k:l.length<=c) (lo hi:Nat) (g:lo<=hi) (j:hi<=l.length)
  (m:o.guard=none) (x:Operand) (lw d:Operand) (v:o.op=.slice t x (some lw) (some d) none) (B:a.eval x=.slice ad l.length c)
  (u:a.eval lw=.int .i64 lo) (p:a.eval d=.int .i64 hi)
  (h:∀b,bV enc sz W b ((l.take hi).drop lo)->K (a.put o.dst (.slice b (hi-lo) (c-lo))) W):
  if Region.wanted o (yielded ops a.tmps)=true then Oper.wp P o a W K Q else E0:=by
 have A:Region.wanted o (yielded ops a.tmps)=true:=by simp[Region.wanted,m]
 rw[aO A];obtain⟨ht,⟨i,z,q,E,y,C,F⟩,D⟩:=f;have r:=h _ (F5 s k lo hi j);have hu:∀W',(underlying t).run P W'=.ok (.slice e) W':=fun W'=>qC ht W';have w:∀W',(sizeOf e).run P W'=.ok sz W':=fun W'=>by simp[sizeOf,typeInfo,q,y]
 have n:hi<=c:=aa;unfold Oper.wp execOp;simp[v,B,u,p,Instr.sliceAt,Instr.slice,Instr.sliceBounds,Instr.sliceBound,hu,w,asIntOf,g,n];exact r
end
theorem Rd.WT {α:Type} {enc:α->Value} {w:World} {a:Option Addr} {l:List α} (h:Rd enc w a l):bV (fun x=>[enc x]) 1 w a l:=by
 rcases h with h|⟨b,off,e,c,d⟩
 .exact .inl h
 .exact .inr ⟨b,off,e,c,fun i hi j f=>by
   obtain rfl:j=0:=aa;rw[ji,df];exact d i hi⟩
def Uy (B nb:Nat) (w0:World) (W:World) (acc:List Nat) (D:Nat->Prop):Prop:=
 Below B w0 W/\W.heap[nb]? =some (.cells #[ae acc.length] 3 (0,0))/\D=fun k=>k=nb
theorem RU:eU 158:=bP func158 aL rfl
theorem RV:eU 105:=bP func105 aL rfl
theorem Pm (N:List Nd) (nm:Nat->Int) (YS:List Nat) (LN LL:Nat->Value) (tb B c:Nat) (w0:World) (j:List Nat) (I:j.length<=1000000) (E:B<=c) (q:B=w0.heap.size):
  Told 158 #[aj c] N YS LN LL B w0 j (Uy B c w0) where
 enters:=RU
 base:=fun W d D h=>h.1
 lt:=fun W d D h k A=>by
  obtain⟨f,e,rfl⟩:=h;have:=(bg.1 e).1;subst A;exact⟨E,this⟩
 jU:=fun W W' d D h r=>by
  obtain⟨f,e,rfl⟩:=h;exact⟨f.trans (r.mono (q▸f.size)),(r.block c (bg.1 e).1).trans e,rfl⟩
 told:=fun W d D t s a b h J K M hF=>by
  obtain⟨f,e,rfl⟩:=h;have u:(d++((nl YS t).take b).drop a).length=d.length+(b-a):=by rw[bQ,mg,dO];omega
  have C:=hF.length_le;rw[u]at C;have x:=af e;have l:=af f;have y:=af u;have F:W.cell? (ag c 0)=some (ae d.length):=aI e;have O:W.frozen? (ag c 0)=false:=aI e;have w:c<W.heap.size:=(bg.1 e).1;have H:(d.length:Int)+((b:Int)-(a:Int))=((d.length+(b-a):Nat):Int):=aa;generalize LN (t.root s)=i at*;generalize LL (t.root s)=g at*;show aK 158 #[.agg #[i,g],ae a,ae b,aj c] W _;generalize L:d.length=n at*;have G:=((aJ W.heap.size W).alloc (aA _) (.cells #[i,g] 150)).cell (p:=(ag c 0)) w;have m:Hid (∀v,aB (fun k=>k=c) W ((W.setCell (ag c 0) v).alloc (.cells #[i,g] 150))):=fun v=>((aB.refl (fun k=>k=c) W).set (a:=(ag c 0)) _ (.inl rfl)).alloc _;have z:Hid (∀v,((W.setCell (ag c 0) v).alloc (.cells #[i,g] 150)).heap[c]? =some (.cells #[v] 3 (0,0))):=fun v=>(bU _ _ _ (aQ w)).trans (dC _ c 0 _ _ v x.o);go_enter func158,ntmps158;go_wp2
  first|go_end0|go_ret
  refine⟨rfl,_,⟨?_,?_,rfl⟩,fun k h=>.inl h,m.o _⟩
  .exact l.o.trans ((m.o _).toBelow (bA (zg q) l.o.size) (fun k h=>aa))
  .rw[z.o,y.o];rfl
def Uz (B ob:Nat) (nm:Nat->Int) (w0:World) (W:World) (acc:List Nat) (D:Nat->Prop):Prop:=
 Below B w0 W/\∃v,W.heap[ob]? =some (.cells #[v] 35 (0,0))/\W.ownsRow B 27 1 v acc.length ((acc.map nm).map (Value.int .u32))/\D=fun k=>k=ob\/v.ownBlock=some k
theorem Pn (N:List Nd) (nm:Nat->Int) (YS:List Nat) (LN LL:Nat->Value) (tb B ob:Nat) (w0:World) (J:List Nat) (a5:J.length<=1000000) (V:B<=ob) (E:B=w0.heap.size) (aC:J3 w0 tb N nm YS LN LL) (a6:YS.length<=1000000):
  Told 105 #[aj ob] N YS LN LL B w0 J (Uz B ob nm w0) where
 enters:=RV
 base:=fun W d D h=>h.1
 lt:=fun W d D h k hk=>by
  obtain⟨n,v,f,g,rfl⟩:=h;rcases hk with rfl|hk
  .exact⟨V,(bg.1 f).1⟩
  .exact g.lt k hk
 jU:=fun W W' d D h F=>by
  obtain⟨n,v,f,g,rfl⟩:=h;exact⟨n.trans (F.mono (E▸n.size)),v,(F.block ob (bg.1 f).1).trans f,az g F,rfl⟩
 told:=fun W d D t s a b h aE aG a7 hF=>by
  obtain⟨n,v,f,g,rfl⟩:=h;have T:(d++((nl YS t).take b).drop a).length=d.length+(b-a):=by rw[bQ,mg,dO];omega
  have aO:=hF.length_le;rw[T]at aO;have⟨q,cn,av,a8,aZ⟩:=aC.Hl t s aE;have a0:=aZ.below n (zg E.symm);rw[av];generalize a9:nl YS t=L at*;generalize LL (t.root s)=I at*;obtain⟨i,j,rfl⟩:=fK g;have X:ob<W.heap.size:=(bg.1 f).1;obtain⟨w1,r⟩:∃w1,w1=W.alloc (.cells #[.slice q L.length cn,I] 150):=⟨_,rfl⟩;have w:Below W.heap.size W w1:=by rw[r];exact(aJ _ _).alloc (aA _) _
  have aY:w1.heap[W.heap.size]? =some (.cells #[.slice q L.length cn,I] 150 (0,0)):=by rw[r];exact bY W _
  have U:=(w.block ob X).trans f;have ao:w1.cell? (ag ob 0)=some (.slice i d.length j):=aI U;have ap:w1.cell? (ag W.heap.size 0)=some (.slice q L.length cn):=aI aY;have a3:=ah ao;have a4:=ah ap;have ad:Hid (w1.drew.ownsRow B 27 1 (.slice i d.length j) d.length ((d.map nm).map (Value.int .u32))):=az g w.drew;have al:Hid (Rd (.int .u32) w1.drew q (L.map nm)):=a0.below w.drew;have ab:=af U;have Y:=af w;have M:=af n;have aa:=af T;have aW:W.heap.size<w1.heap.size:=by rw[r];simp
  have aT:=g.lt;have an:=af aT;have aV:∀m,(Value.slice i d.length j).ownBlock=some m->ob≠m:=bz g f ai;have P:=af aV;have aP:(L.map nm).length=L.length:=ax;show aK 105 #[.agg #[.slice q L.length cn,I],ae a,ae b,aj ob] W _;go_enter func105,ntmps105
  go_wp2_with fail
  rw[<-r];refine au (fun W=>∃p:aR w1,W=p.W) [6,7] [(0,true),(1,false),(2,true),(3,false),(4,false)] ⟨⟨_,(aJ _ _).drew⟩,rfl⟩ 3 ?_;refine ay 5 rfl fun K aD=>?_;refine HY (c:=cn) vg al.o.WT aH a b aG aH rfl (.tmp 9) (.tmp 10) (.tmp 11) rfl (by rw[aP];rfl) rfl rfl ?_;intro a1 aS;refine aD _ _ (fun h _=>h) ?_;refine aF [6,7] ?_;have y:(((L.map nm).take b).drop a).length=b-a:=aH;refine nY vg (fun _=>rfl) (fun x u hu=>by simp at hu;subst hu;rfl) B ad.o aS rfl (.tmp 7) (.tmp 12) rfl rfl (cn-a) (by rw[y];rfl) (by rw[y];unfold maxLen;omega) (by rw[y];omega) (by show B<=w1.heap.size;omega) ?_;intro ba w2 H aM aL;rw[y]at H;have R:aB (fun k=>(Value.slice i d.length j).ownBlock=some k) w1.drew w2:=(aB.refl _ _).grown aM (fun k hk=>.inl hk);have aX:ob<w1.heap.size:=wo X aW;have aN:¬(Value.slice i d.length j).ownBlock=some ob:=fun h=>P.o ob h rfl;have G:w2.heap[ob]? =some (.cells #[.slice i d.length j] 35 (0,0)):=(R.block ob aX aN).trans ab.o;have a2:w2.cell? (ag ob 0)=some (.slice i d.length j):=aI G;have bb:w2.frozen? (ag ob 0)=false:=aI G;have ac:=af G;have am:=af H;have Z:Hid (aB (fun k=>k=ob\/(Value.slice i d.length j).ownBlock=some k) W w2):=(((aB.refl _ W).below Y.o).drew).trans (R.mono fun k h=>.inr h);have O:=af aL;obtain⟨z,A,rfl⟩:=fK H;go_wp2
  first|go_end0|go_ret
  have Q:=(Z.o.set (a:=(ag ob 0)) (.slice z (d.length+(b-a)) A) (.inl (.inl rfl)));have aQ:∀m,(Value.slice z (d.length+(b-a)) A).ownBlock=some m->m≠ob:=fun m e=>by
   rcases O.o with h9|h9
   .exact fun C=>P.o m (h9▸e) C.symm
   .rw[h9]at e;injection e with e;intro C;have:w1.drew.heap.size=ob:=by rw[e,C]
    have aw:w1.heap.size=ob:=this;omega
  refine⟨rfl,_,⟨M.o.trans (Q.toBelow (bA (zg E) M.o.size) (fun k h=>?_)),.slice z (d.length+(b-a)) A,dC _ ob 0 _ _ _ ac.o,?_,rfl⟩,fun k h=>?_,Q⟩
  .rcases h with rfl|h
   .exact V
   .exact(an.o k h).1
  .have h9:=aU (S:=fun k=>k=ob) am.o ((aB.refl (fun k=>k=ob) w2).set (a:=(ag ob 0)) (.slice z (d.length+(b-a)) A) (.inl rfl)) aQ;have aq:(d++(L.take b).drop a).length=d.length+(b-a):=aa.o;rw[aq];have ar:(((d++(L.take b).drop a).map nm).map (Value.int .u32))=((d.map nm).map (Value.int .u32))++(((L.map nm).take b).drop a).flatMap (fun x=>[ak x]):=by
    rw[bJ,bJ,<-List.map_take,<-y7];congr 1
    induction(((L.take b).drop a).map nm)with
    |nil=>rfl
    |cons x l ih=>rw[mG,mE,ih];rfl
   rw[ar];exact h9
  .rcases h with rfl|h
   .exact .inl (.inl rfl)
   .rcases O.o with h9|h9
    .exact .inl (.inr (h9▸h))
    .rw[h9]at h;injection h with h;right;have aw:w1.heap.size=k:=h;omega
end
section
open Go.RowKit
theorem Cx (g:Nat) (cb:Array Value) (n:Nat) (p:Nat->Bool) (w:World) (G:n<4611686018427387904) (C:∀args w,(callFunc g args).run prog w=.ok (.enter g args) w)
  (q:∀(W:World) (i:Nat),Below w.heap.size w W->i<n->aK g (#[ae i]++cb) W (gD W (.bool (p i)))):
  aK 252 #[ae n,.func (.func g) #[] cb] w (gD w (.tuple #[ae (bsrch p n 0 n 0).1,ae (bsrch p n 0 n 0).2])):=by
 have l:=af q;generalize u:bsrch p n 0 n 0=r;have m:=af u;have⟨x,y⟩:=r;go_enter func252,ntmps252;go_wp2
 go_loopg [6,7,8] n (fun v z A B wr=>∃(lo hi k:Nat),z=.int .i64 lo/\A=.int .i64 hi/\B=.int .i64 k/\lo<=hi/\hi<=n/\k+(hi-lo)<=n/\hi-lo<=v/\Below w.heap.size w wr/\
  Hid (bsrch p n lo hi k=(x,y)))
 case atStart=>exact⟨0,n,0,rfl,rfl,rfl,aT _,aA _,aa,aa,aJ _ _,m⟩
 case round=>
  obtain⟨lo,hi,k,rfl,rfl,rfl,F,s,E,D,b,j⟩:=hrel;by_cases t:lo<hi
  .have c:=l.o wr (lo+(hi-lo)/2) b aa;rw[show((lo+(hi-lo)/2:Nat):Int)=(lo:Int)+((hi:Int)-(lo:Int))/2 by omega]at c;have a:=j.o;have f:bsrch p n lo hi k=bsrch p (n+1) lo hi k:=JY p _ _ _ _ _ aa aa;rw[f,bsrch,aO t]at a;cases hp:p (lo+(hi-lo)/2)<;>rw[hp]at c a
   .have d:=af a
    go_wp2_with (go_at_fn g;refine c.mono ?_;rintro e w' ⟨rfl,h⟩)
    go_roundg (hi-(lo+(hi-lo)/2+1))
    case measure=>omega
    case rel=>
     exact⟨lo+(hi-lo)/2+1,hi,k+1,by go_num,rfl,by go_num,aa,s,aa,aA _,b.trans (h.mono b.size),d.o⟩
   .have d:=af a
    go_wp2_with (go_at_fn g;refine c.mono ?_;rintro e w' ⟨rfl,h⟩)
    go_roundg ((lo+(hi-lo)/2)-lo)
    case measure=>omega
    case rel=>
     exact⟨lo,lo+(hi-lo)/2,k+1,rfl,by go_num,by go_num,aa,aa,aa,aA _,b.trans (h.mono b.size),d.o⟩
  .obtain rfl:hi=lo:=aa;have a:=j.o;have f:bsrch p n hi hi k=(hi,k):=by cases n<;>simp[bsrch]
   rw[f]at a;cases a;go_wp2;go_ret2;exact⟨rfl,b⟩
theorem RX (i:Nat) (d bx:Nat) (a:Option Addr) (l:List Int) (c:Nat) (x:Int) (W:World) (g:W.cell? (ag d 0)=some (.slice a l.length c)) (n:W.cell? (ag bx 0)=some (ae x))
  (h:Rd (.int .i64) W a l) (hi:i<l.length):
  aK 253 (#[ae i]++#[aj d,aj bx]) W (gD W (.bool (decide (x<=l.getD i 0)))):=by
 obtain⟨b,off,rfl,j,e⟩:=h.get aa;have k:=e i hi;have f:l.getD i 0=l[i]:=by simp[hi]
 rw[f];clear f e;generalize l[i]=y at*;have m:(i:Int)<(l.length:Int):=aa;go_enter func253,ntmps253;go_wp2
 go_quiet (fail)
 go_wp2;go_ret;exact⟨xk (by first|rfl|simp),⟨rfl,rfl,rfl,aA _,fun _ _=>rfl⟩⟩
theorem HZ:eU 253:=bP func253 aL rfl
theorem Ga (a:Option Addr) (l:List Int) (c:Nat) (x:Int) (w:World) (h:Rd (.int .i64) w a l) (j:l.length<4611686018427387904):
  aK 170 #[.slice a l.length c,ae x] w (gD w (.tuple #[ae (aZ l x).1,ae (aZ l x).2])):=by
 have H:=af h;unfold aZ;have f:=HZ;have d:Hid (∀(W:World) (i:Nat),Below ((w.alloc (.cells #[.slice a l.length c] 143)).alloc (.cells #[ae x] 2)).heap.size ((w.alloc (.cells #[.slice a l.length c] 143)).alloc (.cells #[ae x] 2)) W->i<l.length->
   aK 253 (#[ae i]++#[aj w.heap.size,aj (w.heap.size+1)]) W (gD W (.bool ((fun i=>decide (x<=l.getD i 0)) i)))):=by
  intro W i b hi;have g:Below w.heap.size w W:=(((aJ _ _).alloc (aA _) _).alloc ax _).trans (b.mono aH);refine RX i _ _ a l c x W ?_ ?_ (H.o.below g) hi
  .rw[b.cell aH];simp
  .rw[b.cell ax];simp
 generalize(fun i=>decide (x<=l.getD i 0))=p at*;go_enter func170,ntmps170
 go_wp2_with (go_at_call 252;refine(Cx _ _ _ p _ j f d.o).mono ?_;rintro e w' ⟨rfl,b⟩)
 go_ret2;exact⟨rfl,(((aJ _ _).alloc (aA _) _).alloc ax _).trans (b.mono aH)⟩
theorem RY (i:Nat) (d bx:Nat) (a:Option Addr) (l:List Int) (c:Nat) (x:Int) (W:World) (g:W.cell? (ag d 0)=some (.slice a l.length c)) (n:W.cell? (ag bx 0)=some (ae x))
  (h:Rd (.int .i64) W a l) (hi:i<l.length):
  aK 254 (#[ae i]++#[aj d,aj bx]) W (gD W (.bool (decide (x<l.getD i 0)))):=by
 obtain⟨b,off,rfl,j,e⟩:=h.get aa;have k:=e i hi;have f:l.getD i 0=l[i]:=by simp[hi]
 rw[f];clear f e;generalize l[i]=y at*;have m:(i:Int)<(l.length:Int):=aa;go_enter func254,ntmps254;go_wp2
 go_quiet (fail)
 go_wp2;go_ret;exact⟨xk (by first|rfl|simp),⟨rfl,rfl,rfl,aA _,fun _ _=>rfl⟩⟩
theorem H5:eU 254:=bP func254 aL rfl
theorem Gb (a:Option Addr) (l:List Int) (c:Nat) (x:Int) (w:World) (h:Rd (.int .i64) w a l) (j:l.length<4611686018427387904):
  aK 171 #[.slice a l.length c,ae x] w (gD w (.tuple #[ae (aV l x).1,ae (aV l x).2])):=by
 have H:=af h;unfold aV;have f:=H5;have d:Hid (∀(W:World) (i:Nat),Below ((w.alloc (.cells #[.slice a l.length c] 143)).alloc (.cells #[ae x] 2)).heap.size ((w.alloc (.cells #[.slice a l.length c] 143)).alloc (.cells #[ae x] 2)) W->i<l.length->
   aK 254 (#[ae i]++#[aj w.heap.size,aj (w.heap.size+1)]) W (gD W (.bool ((fun i=>decide (x<l.getD i 0)) i)))):=by
  intro W i b hi;have g:Below w.heap.size w W:=(((aJ _ _).alloc (aA _) _).alloc ax _).trans (b.mono aH);refine RY i _ _ a l c x W ?_ ?_ (H.o.below g) hi
  .rw[b.cell aH];simp
  .rw[b.cell ax];simp
 generalize(fun i=>decide (x<l.getD i 0))=p at*;go_enter func171,ntmps171
 go_wp2_with (go_at_call 252;refine(Cx _ _ _ p _ j f d.o).mono ?_;rintro e w' ⟨rfl,b⟩)
 go_ret2;exact⟨rfl,(((aJ _ _).alloc (aA _) _).alloc ax _).trans (b.mono aH)⟩
end
section
open Go.RowKit Go.Sort Go.Shelf Go.Lib Go.Maps
attribute [local irreducible] wpQuiet
attribute [local go_sem] Oper.dZ
structure xI where
 rv:Value
 xv:Value
 gv:Value
 nv:Value
 lv:Value
 yv:Value
 fv:Value
 LN:Nat->Value
 LL:Nat->Value
structure jK (w:World) (lo hi tb fb:Nat) (R:List Pt) (gone:List Bool) (YS:List Nat) (V:xI):Prop where
 blk:w.heap[tb]? =some (.cells #[V.rv,V.xv,V.gv,aj fb,V.nv,V.lv,V.yv,ae YS.length] 146 (0,0))
 fM:lo<=tb/\tb<hi/\lo<=fb/\fb<hi/\hi<=w.heap.size
 row:w.ownsRow lo 29 3 V.rv R.length (R.flatMap bX)
 xs:w.ownsRow lo 2 1 V.xv R.length ((cz R).map (Value.int .i64))
 ED:w.ownsRow lo 4 1 V.gv R.length (gone.map Value.bool)
 iU:om w lo fb R.length V.fv
 jD:w.ownsRow lo 163 7 V.nv (bf R.length).length ((bf R.length).flatMap pR)
 F4:w.ownsRow lo 150 2 V.lv (bf R.length).length ((List.range (bf R.length).length).flatMap fun k=>[V.LN k,V.LL k])
 ys:w.ownsRow lo 2 1 V.yv YS.length ((jI R YS).map (Value.int .i64))
 Hl:∀t s,FT.At (bf R.length) t s->w.ownsRow lo 27 1 (V.LN (t.root s)) (nl YS t).length (((nl YS t).map (ku R)).map (Value.int .u32))
 Co:∀l r s,FT.At (bf R.length) (.node l r) s->w.ownsRow lo 3 1 (V.LL ((FT.node l r).root s)) (lf l.hi (nl YS (.node l r))).length ((lf l.hi (nl YS (.node l r))).map (Value.int .i64))
 Ez:∀k,k<(bf R.length).length->∃a m c,V.LL k=.slice a m c
 top:∀v,v=V.rv\/v=V.xv\/v=V.gv\/v=V.nv\/v=V.lv\/v=V.yv\/v=V.fv->∀g,v.ownBlock=some g->g<hi
 pW:∀k,k<(bf R.length).length->(∀g,(V.LN k).ownBlock=some g->g<hi)/\∀g,(V.LL k).ownBlock=some g->g<hi
 OQ:∀g,V.xv.ownBlock=some g->V.yv.ownBlock≠some g
 Jv:∀i k,i<(bf R.length).length->k<(bf R.length).length->i≠k->∀g,(V.LN i).ownBlock=some g->(V.LN k).ownBlock≠some g
 H6:∀i k,i<(bf R.length).length->k<(bf R.length).length->i≠k->∀g,(V.LL i).ownBlock=some g->(V.LL k).ownBlock≠some g
theorem jK.kept {S:Nat->Prop} {w w':World} {lo hi tb fb:Nat} {R:List Pt} {gone:List Bool} {YS:List Nat} {V:xI} (h:jK w lo hi tb fb R gone YS V) (K:aB S w w') (hS:∀k,lo<=k->k<hi->¬S k):jK w' lo hi tb fb R gone YS V:=by
 have ht:=h.top;have a:∀{e:TypeId} {sz:Nat} {v:Value} {n:Nat} {xs:List Value},w.ownsRow lo e sz v n xs->(∀g,v.ownBlock=some g->g<hi)->w'.ownsRow lo e sz v n xs:=fun a d=>aU a K fun g e=>hS g (a.lt g e).1 (d g e);have c:∀t s,FT.At (bf R.length) t s->t.root s<(bf R.length).length:=fun t s b=>b.lt;exact⟨bu K h.blk (hS tb h.fM.1 h.fM.2.1),⟨h.fM.1,h.fM.2.1,h.fM.2.2.1,h.fM.2.2.2.1,bA h.fM.2.2.2.2 K.size⟩,
  a h.row (ht _ ax),a h.xs (ht _ ax),a h.ED (ht _ ax),
  ⟨bu K h.iU.blk (hS fb h.fM.2.2.1 h.fM.2.2.2.1),a h.iU.row (ht _ ax)⟩,a h.jD (ht _ ax),a h.F4 (ht _ ax),a h.ys (ht _ ax),
  fun t s b=>a (h.Hl t s b) (h.pW _ (c t s b)).1,fun l r s b=>a (h.Co l r s b) (h.pW _ (c _ s b)).2,h.Ez,h.top,h.pW,h.OQ,h.Jv,h.H6⟩
theorem jK.below {w w':World} {B lo hi tb fb:Nat} {R:List Pt} {gone:List Bool} {YS:List Nat} {V:xI} (h:jK w lo hi tb fb R gone YS V) (a:Below B w w') (e:hi<=B):jK w' lo hi tb fb R gone YS V:=
 h.kept (S:=fun k=>hi<=k) ⟨a.os,a.tape,a.output,a.size,fun k f g=>a.block k aa⟩ fun k b c d=>aa
theorem jK.dn {w:World} {lo hi tb fb:Nat} {R:List Pt} {gone:List Bool} {YS:List Nat} {V:xI} (h:jK w lo hi tb fb R gone YS V) (E:0<R.length):J3 w tb (bf R.length) (ku R) YS V.LN V.LL:=by
 have o:=h.blk;have G:=dB R.length;have x:w.cell? (ag tb 4)=some V.nv:=aI o;have y:w.cell? (ag tb 5)=some V.lv:=aI o;refine⟨?_,?_,fun t s n=>?_,fun l r s n=>?_,h.Ez⟩
 .obtain⟨g,c,e,_⟩:=aS h.jD aa;obtain⟨a,v,i,-,-,d⟩:=bV.aD jO ai h.jD;rw[e]at i;injection i with j z A;rw[<-j]at d;exact⟨g,0,c,by rw[x,e],d⟩
 .obtain⟨g,c,e,_,D,_⟩:=aS h.F4 aa;have H:(bf R.length).length=(List.range (bf R.length).length).length:=ax;obtain⟨a,v,i,-,-,d⟩:=bV.aD (enc:=fun k=>[V.LN k,V.LL k]) (fun _=>rfl) ai h.F4;rw[e]at i;injection i with j z A;rw[<-j]at d;refine⟨g,c,by rw[y,e],D,fun k p=>?_⟩;have⟨b,off,m,F,f⟩:=d.get aH;injection m with m;injection m with C B _;subst C B;have q:=f k (aQ p) 0 aa;have u:=f k (aQ p) 1 aa;simp only[yS,kD,df,eG,eQ]at q u;exact⟨q,u⟩
 .obtain⟨a,c,e,-,f,d⟩:=Rd.aD (h.Hl t s n);rw[bK]at e f;exact⟨a,c,e,f,d⟩
 .obtain⟨a,c,e,-,f,d⟩:=Rd.aD (h.Co l r s n);exact⟨a,c,e,d⟩
theorem zz (tb fb:Nat) (w:World) (a:w.cell? (ag tb 3)=some (aj fb)):
  aK 169 #[aj tb] w fun e w'=>e=.returned (.bool false)/\w'=w:=by
 go_enter func169,ntmps169;go_wp2;go_ret;exact⟨rfl,rfl⟩
theorem mP (p:Nat->Bool) (n:Nat) (hp:∀i j,i<=j->j<n->p i=true->p j=true):∀(f lo hi k:Nat),hi-lo<=f->lo<=hi->hi<=n->(∀t,t<lo->p t=false)->(∀t,hi<=t->t<n->p t=true)->
  (bsrch p f lo hi k).1<=n/\(∀t,t<(bsrch p f lo hi k).1->p t=false)/\(∀t,(bsrch p f lo hi k).1<=t->t<n->p t=true):=by
 intro f
 induction f with
 |zero=>
  intro lo hi k e g a b c;simp only[bsrch];obtain rfl:hi=lo:=aa;exact⟨a,b,c⟩
 |succ f ih=>
  intro lo hi k e g a b c;simp only[bsrch];by_cases h:lo<hi
  .rw[aO h];by_cases d:p (lo+(hi-lo)/2)=true
   .rw[aO d];exact ih _ _ _ aa aa aa b (fun t ht m=>hp _ t ht m d)
   .rw[aN d];refine ih _ _ _ aa aa a (fun t ht=>?_) c;cases l:p t with
    |false=>rfl
    |true=>exact absurd (hp t _ aa aa l) d
  .rw[aN h];obtain rfl:hi=lo:=aa;exact⟨a,b,c⟩
theorem pX {α:Type} {q:α->Bool}:∀(l:List α) (m:Nat),m<=l.length->(∀t (h:t<l.length),t<m->q l[t]=true)->(∀t (h:t<l.length),m<=t->q l[t]=false)->m=l.countP q
 |[],m,a,_,_=>by simp at a;simp[a]
 |x::l,0,_,_,b=>by
  symm;refine Fs.2 fun y f=>?_;obtain⟨t,ht,rfl⟩:=iN f;rw[b t ht (aT _)];decide
 |x::l,m+1,a,c,b=>by
  have d:q x=true:=c 0 ax aa;rw[JG d,<-pX l m (aQ a) (fun t ht e=>c (t+1) (aQ ht) aa) (fun t ht e=>b (t+1) (aQ ht) aa)]
theorem DY {l:List Int} (g:l.Pairwise (·<=·)) (x:Int):(aZ l x).1=l.countP fun y=>decide (y<x):=by
 have⟨c,d,f⟩:=mP (fun i=>decide (x<=l.getD i 0)) l.length (fun i j h b hi=>by
  by_cases e:i=j
  .exact e▸hi
  .have:=gH.1 g i j aa b aa;simp[b,show i<l.length by omega]at hi |-;omega) l.length 0 l.length 0 aa aa (aA _) aa aa
 unfold aZ;refine pX l _ c (fun t ht a=>?_) (fun t ht a=>?_)
 .have:=d t a;simp[ht]at this;simpa using this
 .have:=f t a ht;simp[ht]at this;simpa using this
theorem DZ {l:List Int} (g:l.Pairwise (·<=·)) (x:Int):(aV l x).1=l.countP fun y=>decide (y<=x):=by
 have⟨c,d,f⟩:=mP (fun i=>decide (x<l.getD i 0)) l.length (fun i j h b hi=>by
  by_cases e:i=j
  .exact e▸hi
  .have:=gH.1 g i j aa b aa;simp[b,show i<l.length by omega]at hi |-;omega) l.length 0 l.length 0 aa aa (aA _) aa aa
 unfold aV;refine pX l _ c (fun t ht a=>?_) (fun t ht a=>?_)
 .have:=d t a;simp[ht]at this;simpa using this
 .have:=f t a ht;simp[ht]at this;simpa using this
theorem dm.Xy {R:List Pt} {gone:List Bool} {YS:List Nat} (h:dm R gone YS):(jI R YS).Pairwise (·<=·):=dF.2 h.le
theorem Po {R:List Pt} {gone:List Bool} {YS:List Nat} (h:dm R gone YS) (y:Int):(aZ (jI R YS) y).1=below (l7 R) y YS:=by
 rw[DY h.Xy];unfold jI below;rw[FN];rfl
theorem RZ {R:List Pt} {gone:List Bool} {YS:List Nat} (h:dm R gone YS) (y:Int):(aV (jI R YS) y).1=upto (l7 R) y YS:=by
 rw[DZ h.Xy];unfold jI upto;rw[FN];rfl
theorem gN (p:Nat->Bool) (n:Nat):(bsrch p n 0 n 0).2<=n/\(bsrch p n 0 n 0).1<=n:=by
 have:=FZ p n 0 n 0 aa;omega
def Gc (S:World->List Nat->(Nat->Prop)->Prop) (W:World) (D:Nat->Prop) (r:List Nat×Nat) (e:Ending) (w':World):Prop:=
 e=.returned (ae r.2)/\∃D',S w' r.1 D'/\(∀k,D' k->D k\/W.heap.size<=k)/\aB D W w'
theorem M8 (F:Nat) (cb:Array Value) (R:List Pt) (gone:List Bool) (YS:List Nat) (V:xI) (lo hi tb fb:Nat) (W:World) (S:World->List Nat->(Nat->Prop)->Prop) (D:Nat->Prop) (x1 x2 y1 y2 j:Int)
  (b:jK W lo hi tb fb R gone YS V) (c:R=[]\/x2<x1\/y2<y1) (u:∀W',Below W.heap.size W W'->S W' [] D):
  aK 104 #[aj tb,.agg #[ae x1,ae x2,ae y1,ae y2,ak j],.func (.func F) #[] cb] W (Gc S W D (kS R YS x1 x2 y1 y2)):=by
 have m:=b.blk;have e:kS R YS x1 x2 y1 y2=([],0):=by unfold kS;rw[aO c]
 rw[e];obtain⟨y,z,s⟩:=fK b.row;have x:tb<W.heap.size:=cO b.fM.2.1 b.fM.2.2.2.2;rw[s]at m;have i:Hid (∀W',Below W.heap.size W W'->Gc S W D ([],0) (.returned (ae 0)) W'):=fun W' h=>⟨rfl,D,u W' h,fun k h=>.inl h,(aB.refl _ _).below h⟩;obtain⟨w1,a⟩:∃w1,w1=W.alloc (.cells #[ae x1,ae x2,ae y1,ae y2,ak j] 38):=⟨_,rfl⟩;have p:Below W.heap.size W w1:=by rw[a];exact(aJ _ _).alloc (aA _) _
 have d:w1.heap[W.heap.size]? =some (.cells #[ae x1,ae x2,ae y1,ae y2,ak j] 38 (0,0)):=by rw[a];exact bY W _
 have q:=(p.block tb x).trans m;have v:w1.cell? (ag tb 0)=some (.slice y R.length z):=aI q;have w:w1.cell? (ag tb 3)=some (aj fb):=aI q;have A:w1.cell? (ag W.heap.size 0)=some (ae x1):=aI d;have B:w1.cell? (ag W.heap.size 1)=some (ae x2):=aI d;have C:w1.cell? (ag W.heap.size 2)=some (ae y1):=aI d;have E:w1.cell? (ag W.heap.size 3)=some (ae y2):=aI d;have f:=zz tb fb w1 w;have g:=af p;have r:R.length=0↔R=[]:=List.length_eq_zero_iff;obtain⟨n,t⟩:∃n,n=R.length:=⟨_,rfl⟩;rw[<-t]at v r;rw[<-r]at c;clear b u q d p e s m t r;by_cases l:n=0
 .have d1:((n:Int)==0)=true:=by simp[l]
  have d2:(n==0)=true:=by simp[l]
  have d3:decide (n=0)=true:=by simp[l]
  clear c;go_enter func104,ntmps104
  go_wp2_with fail
  rw[<-a];clear a
  go_wp2_with (go_at_call 169;refine f.mono ?_;rintro e w' ⟨rfl,rfl⟩)
  go_ret;exact i.o _ g.o
 .have d1:((n:Int)==0)=false:=aH;have d2:(n==0)=false:=aH;have d3:decide (n=0)=false:=aH;by_cases I:x2<x1
  .have f1:decide (x1>x2)=true:=aH;have f2:decide (x2<x1)=true:=aH;clear c;go_enter func104,ntmps104
   go_wp2_with fail
   rw[<-a];clear a
   go_wp2_with (go_at_call 169;refine f.mono ?_;rintro e w' ⟨rfl,rfl⟩)
   go_ret;exact i.o _ g.o
  .have f1:decide (x1>x2)=false:=aH;have f2:decide (x2<x1)=false:=aH;have G:decide (y1>y2)=true:=aH;have H:decide (y2<y1)=true:=aH;clear c;go_enter func104,ntmps104
   go_wp2_with fail
   rw[<-a];clear a
   go_wp2_with (go_at_call 169;refine f.mono ?_;rintro e w' ⟨rfl,rfl⟩)
   go_ret;exact i.o _ g.o
theorem M9 (F:Nat) (cb:Array Value) (R:List Pt) (gone:List Bool) (YS:List Nat) (V:xI) (lo hi tb fb B:Nat) (w0 W:World) (S:World->List Nat->(Nat->Prop)->Prop) (D:Nat->Prop) (x1 x2 y1 y2 aE:Int)
  (ar:jK w0 lo hi tb fb R gone YS V) (K:dm R gone YS) (z:0<R.length) (bZ:x1<=x2) (bL:y1<=y2) (be:R.length<=40000) (bb:B=w0.heap.size) (aC:List Nat)
  (au:Told F cb (bf R.length) YS V.LN V.LL B w0 aC S) (hF:(kS R YS x1 x2 y1 y2).1=aC) (hS:S W [] D):
  aK 104 #[aj tb,.agg #[ae x1,ae x2,ae y1,ae y2,ak aE],.func (.func F) #[] cb] W (Gc S W D (kS R YS x1 x2 y1 y2)):=by
 have bh:=au.base W [] D hS;have y:=ar.below bh (by rw[bb];exact ar.fM.2.2.2.2);obtain⟨bQ,bS,a8⟩:=fK y.row;have bn:tb<W.heap.size:=cO y.fM.2.1 y.fM.2.2.2.2;have bD:fb<W.heap.size:=cO y.fM.2.2.2.1 y.fM.2.2.2.2;have aG:=y.blk;have bC:=K.len;obtain⟨ac,ad,a9,-,-,aP⟩:=Rd.aD y.xs;obtain⟨ai,al,ba,-,-,aQ⟩:=Rd.aD y.ys;rw[a8,a9,ba]at aG;have b5:(cz R).length<=40000:=by unfold cz;rw[bK];exact be
 have b6:(jI R YS).length<=40000:=by unfold jI;rw[bK];omega
 have bm:¬(R=[]\/x2<x1\/y2<y1):=by
  rintro(h|h|h)
  .subst h;simp at z
  .omega
  .omega
 have aF:kS R YS x1 x2 y1 y2=((down YS (l7 R) y1 y2 (aZ (cz R) x1).1 (aV (cz R) x2).1 (dU 0 R.length)).1,
   (aZ (cz R) x1).2+(aV (cz R) x2).2+(aZ (jI R YS) y1).2+(aV (jI R YS) y2).2+(down YS (l7 R) y1 y2 (aZ (cz R) x1).1 (aV (cz R) x2).1 (dU 0 R.length)).2):=by unfold kS;rw[aN bm]
 have bM:=gN (fun i=>decide (x1<=(cz R).getD i 0)) (cz R).length;have bN:=gN (fun i=>decide (x2<(cz R).getD i 0)) (cz R).length;have bO:=gN (fun i=>decide (y1<=(jI R YS).getD i 0)) (jI R YS).length;have bP:=gN (fun i=>decide (y2<(jI R YS).getD i 0)) (jI R YS).length;have aT:∀W',Below W.heap.size W W'->aK 172 #[aj tb,ae (2*R.length-2:Nat),ae (aZ (jI R YS) y1).1,ae (aV (jI R YS) y2).1,.agg #[ae (aZ (cz R) x1).1,ae (aV (cz R) x2).1,.func (.func F) #[] cb]] W' (Uo S W' D (down YS (l7 R) y1 y2 (aZ (cz R) x1).1 (aV (cz R) x2).1 (dU 0 R.length)).1 (down YS (l7 R) y1 y2 (aZ (cz R) x1).1 (aV (cz R) x2).1 (dU 0 R.length)).2):=fun W' m=>by
  obtain⟨w1,w2,w3⟩:=bR 0 R.length z;have bW:=fJ 0 R.length z;have h:=MV F cb (bf R.length) (ku R) YS V.LN V.LL tb B w0 S (l7 R) y1 y2 (aZ (cz R) x1).1 (aV (cz R) x2).1 (zg bb.symm) aC au (ar.dn z) K.le bL (by rw[dB];omega) aa (by unfold aZ;omega) (by unfold aV;omega) (dU 0 R.length) 0 (kH R.length z) w1 aa W' [] D (au.jU _ _ _ _ hS m) (by rw[gu,<-hF,aF];exact List.prefix_refl _);rw[K.top z,gu]at h;rw[Po K,RZ K];have e:(dU 0 R.length).root 0=2*R.length-2:=by unfold FT.root;omega
  rw[e]at h;exact h
 have bo:=mV (YS:=YS) (yv:=l7 R) (y1:=y1) (y2:=y2) (fr:=(aZ (cz R) x1).1) (ub:=(aV (cz R) x2).1) (dU 0 R.length);rw[fJ 0 R.length z]at bo;rw[aF];have a6:=af aT;have aU:∀W',Below W.heap.size W W'->aK 95 #[aj fb] W' fun e w'=>e=.returned (ae ((2*R.length-2:Nat):Int))/\w'=W':=fun W' m=>by
  have bi:=(m.block fb bD).trans y.iU.blk;exact jV fb R.length z aa W' (aI bi) (aI bi)
 have a7:=af aU;have aW:=fun W' (m:Below W.heap.size W W')=>Ga ac (cz R) ad x1 W' (aP.below m) aa;have aX:=fun W' (m:Below W.heap.size W W')=>Gb ac (cz R) ad x2 W' (aP.below m) aa;have aY:=fun W' (m:Below W.heap.size W W')=>Ga ai (jI R YS) al y1 W' (aQ.below m) aa;have a0:=fun W' (m:Below W.heap.size W W')=>Gb ai (jI R YS) al y2 W' (aQ.below m) aa;have b0:(aZ (cz R) x1).2<=40000:=by unfold aZ;omega
 have b1:(aV (cz R) x2).2<=40000:=by unfold aV;omega
 have b2:(aZ (jI R YS) y1).2<=40000:=by unfold aZ;omega
 have b3:(aV (jI R YS) y2).2<=40000:=by unfold aV;omega
 have b4:(down YS (l7 R) y1 y2 (aZ (cz R) x1).1 (aV (cz R) x2).1 (dU 0 R.length)).2<=80000:=aa;clear aT aU aF bm bM bN bO bP bo aP aQ a9 ba hF au hS ar;generalize down YS (l7 R) y1 y2 (aZ (cz R) x1).1 (aV (cz R) x2).1 (dU 0 R.length)=P at*;generalize bE:aZ (cz R) x1=L at*;generalize bF:aV (cz R) x2=M at*;generalize bH:aZ (jI R YS) y1=N at*;generalize bI:aV (jI R YS) y2=O at*;generalize bj:(cz R).length=aM at*;generalize bk:(jI R YS).length=aO at*;obtain⟨w1,Q⟩:∃w1,w1=W.alloc (.cells #[ae x1,ae x2,ae y1,ae y2,ak aE] 38):=⟨_,rfl⟩;have av:Below W.heap.size W w1:=by rw[Q];exact(aJ _ _).alloc (aA _) _
 have ab:w1.heap[W.heap.size]? =some (.cells #[ae x1,ae x2,ae y1,ae y2,ak aE] 38 (0,0)):=by rw[Q];exact bY W _
 have T:=(av.block tb bn).trans aG;have bw:w1.cell? (ag tb 0)=some (.slice bQ R.length bS):=aI T;have j:w1.cell? (ag tb 1)=some (.slice ac aM ad):=by simp[World.cell?,T,bj]
 have b:w1.cell? (ag tb 3)=some (aj fb):=aI T;have l:w1.cell? (ag tb 6)=some (.slice ai aO al):=by simp[World.cell?,T,bk]
 have c:w1.cell? (ag W.heap.size 0)=some (ae x1):=aI ab;have d:w1.cell? (ag W.heap.size 1)=some (ae x2):=aI ab;have f:w1.cell? (ag W.heap.size 2)=some (ae y1):=aI ab;have g:w1.cell? (ag W.heap.size 3)=some (ae y2):=aI ab;have bp:=zz tb fb w1 b;have am:=af av;obtain⟨n,bl⟩:∃n,n=R.length:=⟨_,rfl⟩;rw[<-bl]at bw z be a7 a6;have d1:((n:Int)==0)=false:=aH;have d2:(n==0)=false:=aH;have d3:decide (n=0)=false:=aH;have f1:decide (x1>x2)=false:=aH;have f2:decide (x2<x1)=false:=aH;have bT:decide (y1>y2)=false:=aH;have bU:decide (y2<y1)=false:=aH;have bs:=af aW;have bt:=af aX;have bu:=af aY;have bv:=af a0;have bJ:W.heap.size<=w1.heap.size:=av.size;clear T ab av aG bl aW aX aY a0 bE bF bH bI bj bk y K bC a8 bh;have aw:tb<w1.heap.size:=cO bn bJ;have U:W.heap.size<w1.heap.size:=by rw[Q];simp
 go_enter func104,ntmps104
 go_wp2_with fail
 rw[<-Q];clear Q
 go_wp2_with (go_at_call 169;refine bp.mono ?_;rintro e w' ⟨rfl,bz⟩;subst w')
 have a2:Hid (∀p:aR w1,aK 170 #[.slice ac aM ad,ae x1] p.W fun e w'=>e=.returned (.tuple #[ae L.1,ae L.2])/\Below p.W.heap.size p.W w'):=fun p=>bs.o _ (am.o.trans (p.h.mono am.o.size));have H:=ah j;have J:=ah l;have I:=ah b;have A:=ah c;have C:=ah d;have E:=ah f;have G:=ah g;refine bG aL aL ?_
 repeat(quiet_step ((go_at_call 170;exact dH (a2.o _))))
 refine jS ?_;intro w2 q;have a:Below w1.heap.size w1 w2:=by obtain⟨p,rfl⟩:=q;exact p.h
 have an:=af (am.o.trans (a.mono am.o.size));have v:=(a.cell (p:=(ag tb 1)) aw).trans j;have x:=(a.cell (p:=(ag tb 6)) aw).trans l;have w:=(a.cell (p:=(ag tb 3)) aw).trans b;have r:=(a.cell (p:=(ag W.heap.size 0)) U).trans c;have s:=(a.cell (p:=(ag W.heap.size 1)) U).trans d;have t:=(a.cell (p:=(ag W.heap.size 2)) U).trans f;have u:=(a.cell (p:=(ag W.heap.size 3)) U).trans g;have ax:=cO aw a.size;have X:=cO U a.size;clear q a a2 H J I A C E G j l b c d f g;have j:=v;clear v;have l:=x;clear x;have b:=w;clear w;have c:=r;clear r;have d:=s;clear s;have f:=t;clear t;have g:=u;clear u
 go_wp2_with fail
 have a3:Hid (∀p:aR w2,aK 171 #[.slice ac aM ad,ae x2] p.W fun e w'=>e=.returned (.tuple #[ae M.1,ae M.2])/\Below p.W.heap.size p.W w'):=fun p=>bt.o _ (an.o.trans (p.h.mono an.o.size));have H:=ah j;have J:=ah l;have I:=ah b;have A:=ah c;have C:=ah d;have E:=ah f;have G:=ah g;refine bG aL aL ?_
 repeat(quiet_step ((go_at_call 171;exact dH (a3.o _))))
 refine jS ?_;intro w3 q;have a:Below w2.heap.size w2 w3:=by obtain⟨p,rfl⟩:=q;exact p.h
 have ao:=af (an.o.trans (a.mono an.o.size));have v:=(a.cell (p:=(ag tb 1)) ax).trans j;have x:=(a.cell (p:=(ag tb 6)) ax).trans l;have w:=(a.cell (p:=(ag tb 3)) ax).trans b;have r:=(a.cell (p:=(ag W.heap.size 0)) X).trans c;have s:=(a.cell (p:=(ag W.heap.size 1)) X).trans d;have t:=(a.cell (p:=(ag W.heap.size 2)) X).trans f;have u:=(a.cell (p:=(ag W.heap.size 3)) X).trans g;have ay:=cO ax a.size;have Y:=cO X a.size;clear q a a3 H J I A C E G j l b c d f g;have j:=v;clear v;have l:=x;clear x;have b:=w;clear w;have c:=r;clear r;have d:=s;clear s;have f:=t;clear t;have g:=u;clear u
 go_wp2_with fail
 have a4:Hid (∀p:aR w3,aK 170 #[.slice ai aO al,ae y1] p.W fun e w'=>e=.returned (.tuple #[ae N.1,ae N.2])/\Below p.W.heap.size p.W w'):=fun p=>bu.o _ (ao.o.trans (p.h.mono ao.o.size));have H:=ah j;have J:=ah l;have I:=ah b;have A:=ah c;have C:=ah d;have E:=ah f;have G:=ah g;refine bG aL aL ?_
 repeat(quiet_step ((go_at_call 170;exact dH (a4.o _))))
 refine jS ?_;intro w4 q;have a:Below w3.heap.size w3 w4:=by obtain⟨p,rfl⟩:=q;exact p.h
 have ap:=af (ao.o.trans (a.mono ao.o.size));have v:=(a.cell (p:=(ag tb 1)) ay).trans j;have x:=(a.cell (p:=(ag tb 6)) ay).trans l;have w:=(a.cell (p:=(ag tb 3)) ay).trans b;have r:=(a.cell (p:=(ag W.heap.size 0)) Y).trans c;have s:=(a.cell (p:=(ag W.heap.size 1)) Y).trans d;have t:=(a.cell (p:=(ag W.heap.size 2)) Y).trans f;have u:=(a.cell (p:=(ag W.heap.size 3)) Y).trans g;have az:=cO ay a.size;have Z:=cO Y a.size;clear q a a4 H J I A C E G j l b c d f g;have j:=v;clear v;have l:=x;clear x;have b:=w;clear w;have c:=r;clear r;have d:=s;clear s;have f:=t;clear t;have g:=u;clear u
 go_wp2_with fail
 have a5:Hid (∀p:aR w4,aK 171 #[.slice ai aO al,ae y2] p.W fun e w'=>e=.returned (.tuple #[ae O.1,ae O.2])/\Below p.W.heap.size p.W w'):=fun p=>bv.o _ (ap.o.trans (p.h.mono ap.o.size));have H:=ah j;have J:=ah l;have I:=ah b;have A:=ah c;have C:=ah d;have E:=ah f;have G:=ah g;refine bG aL aL ?_
 repeat(quiet_step ((go_at_call 171;exact dH (a5.o _))))
 refine jS ?_;intro aS q;have a:Below w4.heap.size w4 aS:=by obtain⟨p,rfl⟩:=q;exact p.h
 have aq:=af (ap.o.trans (a.mono ap.o.size));have v:=(a.cell (p:=(ag tb 1)) az).trans j;have x:=(a.cell (p:=(ag tb 6)) az).trans l;have w:=(a.cell (p:=(ag tb 3)) az).trans b;have r:=(a.cell (p:=(ag W.heap.size 0)) Z).trans c;have s:=(a.cell (p:=(ag W.heap.size 1)) Z).trans d;have t:=(a.cell (p:=(ag W.heap.size 2)) Z).trans f;have u:=(a.cell (p:=(ag W.heap.size 3)) Z).trans g;have bX:=cO az a.size;have bV:=cO Z a.size;clear q a a5 H J I A C E G j l b c d f g;have j:=v;clear v;have l:=x;clear x;have b:=w;clear w;have c:=r;clear r;have d:=s;clear s;have f:=t;clear t;have g:=u;clear u
 go_wp2_with fail
 refine(a7.o aS aq.o).mono ?_;rintro e w' ⟨rfl,bz⟩;subst w'
 go_wp2_with fail
 refine(a6.o aS aq.o).mono ?_;rintro e w6 ⟨rfl,bq,bg,bc,bd⟩;have br:Hid (Gc S W D (P.1,L.2+M.2+N.2+O.2+P.2) (.returned (ae (L.2+M.2+N.2+O.2+P.2:Nat))) w6):=
  ⟨rfl,bq,bg,fun k h=>(bc k h).imp id fun bB=>bA aq.o.size bB,(((aB.refl (fun k=>D k\/W.heap.size<=k) W).below aq.o).trans (bd.mono fun k h=>.inl h)).strip⟩
 clear bg bc bd;go_wp2;go_ret;have a1:=br.o;have bx:((L.2+M.2+N.2+O.2+P.2:Nat):Int)=(((L.2:Int)+(M.2:Int))+(N.2:Int)+(O.2:Int))+(P.2:Int):=aa;rw[bx]at a1;exact a1
theorem H7 {R:List Pt} {gone:List Bool} {YS:List Nat} (c:dm R gone YS) (o:R.length<=40000) (x1 x2 y1 y2:Int):(kS R YS x1 x2 y1 y2).1.length<=R.length/\(kS R YS x1 x2 y1 y2).2<=400000:=by
 unfold kS;split
 .exact⟨aT _,aT _⟩
 .rename_i h;have d:0<R.length:=by
   cases R with
   |nil=>simp at h
   |cons a b=>simp
  have e:y1<=y2:=aa;have⟨w1,w2,w3⟩:=bR 0 R.length d;refine⟨?_,?_⟩
  .refine zn (Ck _ w1 c.nodup c.le e) fun k f=>?_;have:=((xx _ w1 c.le e k).1 f).1;rw[c.top d]at this;exact c.lt this
  .have p:=gN (fun i=>decide (x1<=(cz R).getD i 0)) (cz R).length;have q:=gN (fun i=>decide (x2<(cz R).getD i 0)) (cz R).length;have r:=gN (fun i=>decide (y1<=(jI R YS).getD i 0)) (jI R YS).length;have s:=gN (fun i=>decide (y2<(jI R YS).getD i 0)) (jI R YS).length;have t:(cz R).length=R.length:=by unfold cz;simp
   have u:(jI R YS).length=YS.length:=by unfold jI;simp
   have v:=c.len;have g:=mV (YS:=YS) (yv:=l7 R) (y1:=y1) (y2:=y2) (fr:=(aZ (cz R) x1).1) (ub:=(aV (cz R) x2).1) (dU 0 R.length);rw[fJ 0 R.length d]at g;show(aZ (cz R) x1).2+(aV (cz R) x2).2+(aZ (jI R YS) y1).2+(aV (jI R YS) y2).2+_<=_;have j:(aZ (cz R) x1).2<=40000:=by unfold aZ;omega
   have l:(aV (cz R) x2).2<=40000:=by unfold aV;omega
   have m:(aZ (jI R YS) y1).2<=40000:=by unfold aZ;omega
   have n:(aV (jI R YS) y2).2<=40000:=by unfold aV;omega
   omega
theorem H8 (F:Nat) (cb:Array Value) (R:List Pt) (gone:List Bool) (YS:List Nat) (V:xI) (lo hi tb fb:Nat) (w0 W:World) (S:World->List Nat->(Nat->Prop)->Prop) (D:Nat->Prop) (x1 x2 y1 y2 c:Int)
  (d:jK w0 lo hi tb fb R gone YS V) (i:dm R gone YS) (f:R.length<=40000)
  (j:Below w0.heap.size w0 W) (k:∀W',Below W.heap.size W W'->S W' [] D)
  (g:0<R.length->Told F cb (bf R.length) YS V.LN V.LL w0.heap.size w0 (kS R YS x1 x2 y1 y2).1 S) (hS:S W [] D):
  aK 104 #[aj tb,.agg #[ae x1,ae x2,ae y1,ae y2,ak c],.func (.func F) #[] cb] W (Gc S W D (kS R YS x1 x2 y1 y2)):=by
 by_cases h:R=[]\/x2<x1\/y2<y1
 .exact M8 F cb R gone YS V lo hi tb fb W S D x1 x2 y1 y2 c (d.below j d.fM.2.2.2.2) h k
 .have e:0<R.length:=by
   cases R with
   |nil=>simp at h
   |cons a b=>simp
  exact M9 F cb R gone YS V lo hi tb fb _ w0 W S D x1 x2 y1 y2 c d i e aa aa f rfl _ (g e) rfl hS
def WU (w:World) (R:List Pt) (r:List Nat×Nat) (e:Ending) (w':World):Prop:=
 ∃v,e=.returned (.tuple #[v,ae (r.2+r.1.length:Nat)])/\w'.ownsRow w.heap.size 27 1 v r.1.length ((dh (r.1.map (ku R))).map (Value.int .u32))/\Below w.heap.size w w'
theorem H9 {w:World} {lo hi tb fb:Nat} {R:List Pt} {gone:List Bool} {YS:List Nat} {V:xI} (p:jK w lo hi tb fb R gone YS V) (f:dm R gone YS) (s:R.length<=40000) (x1 x2 y1 y2 a:Int):
  aK 39 #[aj tb,.agg #[ae x1,ae x2,ae y1,ae y2,ak a]] w (WU w R (kS R YS x1 x2 y1 y2)):=by
 obtain⟨w1,b⟩:∃w1,w1=(w.alloc (.cells #[ae x1,ae x2,ae y1,ae y2,ak a] 38)).alloc (.cells #[aM] 35):=⟨_,rfl⟩;have i:Below w.heap.size w w1:=by rw[b];exact((aJ _ _).alloc (aA _) _).alloc ax _
 have H:w1.heap[w.heap.size+1]? =some (.cells #[aM] 35 (0,0)):=by rw[b];exact Ci w _ _
 have Y:w1.heap[w.heap.size]? =some (.cells #[ae x1,ae x2,ae y1,ae y2,ak a] 38 (0,0)):=by rw[b];exact FR w _ _
 have hS:Uz w.heap.size (w.heap.size+1) (ku R) w w1 [] (fun k=>k=w.heap.size+1\/(aM).ownBlock=some k):=
  ⟨i,aM,H,cZ _ _ _ _,rfl⟩
 have⟨W,U⟩:=H7 f s x1 x2 y1 y2;have T:=f.len;have t:=H8 105 #[aj (w.heap.size+1)] R gone YS V lo hi tb fb w w1 (Uz w.heap.size (w.heap.size+1) (ku R) w) _ x1 x2 y1 y2 a p f s i
  (fun W' g=>by
    have⟨C,v,m,D,E⟩:=hS;exact⟨C.trans (g.mono i.size),v,(g.block _ (bg.1 m).1).trans m,az D g,E⟩)
  (fun F=>Pn (bf R.length) (ku R) YS V.LN V.LL tb w.heap.size (w.heap.size+1) w _ aa aa rfl (p.dn F) aa) hS
 generalize kS R YS x1 x2 y1 y2=r at*;have x:=af t;have X:r.1.length<=40000:=aa;go_enter func39,ntmps39
 go_wp2_with fail
 rw[<-b];refine x.o.mono ?_;rintro e w2 ⟨rfl,O,⟨G,v,c,d,rfl⟩,Q,S⟩;have z:=af d;have j:=af G;have P:=af c;have L:w2.cell? (ag (w.heap.size+1) 0)=some v:=aI c;have K:∀n,v.ownBlock=some n->w.heap.size+1≠n:=bz d c ai;have B:=af K;have I:=(bg.1 c).1;have u:=af (A7 (l:=r.1.map (ku R)) d aa);obtain⟨M,N,rfl⟩:=fK d
 go_wp2_with fail
 refine u.o.mono ?_;rintro e w3 ⟨rfl,J,q⟩;have A:=af J;have Z:w3.cell? (ag (w.heap.size+1) 0)=some (.slice M r.1.length N):=((di q I (fun h=>B.o _ h rfl)).1 0).trans L;have y:Hid (Below w.heap.size w w3):=j.o.trans (q.toBelow j.o.size (fun k h=>(z.o.lt k h).1))
 go_wp2_with fail
 go_quiet (fail)
 go_wp2;go_ret2;exact⟨_,rfl,A.o,y.o.trans (Below.aX _ _)⟩
theorem Kb {w:World} {lo hi tb fb:Nat} {R:List Pt} {gone:List Bool} {YS:List Nat} {V:xI} (p:jK w lo hi tb fb R gone YS V) (g:dm R gone YS) (f:R.length<=40000) (x1 x2 y1 y2 a:Int):
  aK 82 #[aj tb,.agg #[ae x1,ae x2,ae y1,ae y2,ak a]] w fun e w'=>
   e=.returned (.tuple #[ae (kS R YS x1 x2 y1 y2).1.length,ae (kS R YS x1 x2 y1 y2).2])/\Below w.heap.size w w':=by
 obtain⟨w1,b⟩:∃w1,w1=(w.alloc (.cells #[ae x1,ae x2,ae y1,ae y2,ak a] 38)).alloc (.cells #[ae 0] 3):=⟨_,rfl⟩;have c:Below w.heap.size w w1:=by rw[b];exact((aJ _ _).alloc (aA _) _).alloc ax _
 have s:w1.heap[w.heap.size+1]? =some (.cells #[ae 0] 3 (0,0)):=by rw[b];exact Ci w _ _
 have B:w1.heap[w.heap.size]? =some (.cells #[ae x1,ae x2,ae y1,ae y2,ak a] 38 (0,0)):=by rw[b];exact FR w _ _
 have hS:Uy w.heap.size (w.heap.size+1) w w1 [] (fun k=>k=w.heap.size+1):=⟨c,s,rfl⟩;have⟨A,z⟩:=H7 g f x1 x2 y1 y2;have i:=H8 158 #[aj (w.heap.size+1)] R gone YS V lo hi tb fb w w1 (Uy w.heap.size (w.heap.size+1) w) _ x1 x2 y1 y2 a p g f c
  (fun W' h=>by
    have⟨m,d,n⟩:=hS;exact⟨m.trans (h.mono c.size),(h.block _ (bg.1 d).1).trans d,n⟩)
  (fun v=>Pm (bf R.length) (ku R) YS V.LN V.LL tb w.heap.size (w.heap.size+1) w _ aa aa rfl) hS
 generalize kS R YS x1 x2 y1 y2=r at*;have l:=af i;go_enter func82,ntmps82
 go_wp2_with fail
 rw[<-b];refine l.o.mono ?_;rintro e w2 ⟨rfl,u,⟨q,t,rfl⟩,x,y⟩;have j:=af q;have C:w2.cell? (ag (w.heap.size+1) 0)=some (ae r.1.length):=aI t;go_wp2;go_ret2;exact⟨rfl,j.o⟩
end
end Go.Proofs.YtkjdbndekceffaaGreat
