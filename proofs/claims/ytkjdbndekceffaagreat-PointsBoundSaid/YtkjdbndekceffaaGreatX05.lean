/- Made small by a program. -/
import Derived.Test.YtkjdbndekceffaaGreatX03
set_option linter.unusedSimpArgs false
set_option linter.unusedVariables false
set_option maxRecDepth 100000
set_option maxHeartbeats 16000000
namespace Go.Proofs.YtkjdbndekceffaaGreat
open Tryz
section
open Go.RowKit Go.Shelf
attribute [local go_sem] Oper.semAt_some
abbrev UK (kid:List Bool):={q:Nat // q<kid.length/\kid[q]? =some false}
def Td (w0:World) (nd:Array Value) (kv:Value) (base:Nat) (kid:List Bool) (pre:List (UK kid)) (W:World):Prop:=
 W.heap[w0.heap.size]? =some (.cells nd 163 (0,0))/\W.heap[w0.heap.size+1]? =some (.cells #[kv] 95 (0,0))/\W.heap[w0.heap.size+2]? =some (.cells #[.bool false] 4 (0,0))/\W.heap[w0.heap.size+3]? =some (.cells #[ae pre.length] 3 (0,0))/\W.ownsRow base 4 1 kv kid.length (kid.map Value.bool)/\Below w0.heap.size w0 W
theorem N7 {w0:World} {B base:Nat} {w:Array Value} {v:Value} {u:List Bool} (p:w0.heap.size<=B):OwnFrom B (Td w0 w v base u):=by
 rintro s W W' C ⟨d,f,g,h,i,j⟩ m n;have a:∀(b:Nat) cs t fr,W.heap[b]? =some (.cells cs t fr)->W'.heap[b]? =W.heap[b]? :=fun b cs t fr l=>m.block b (aY.1 l).1 fun e=>by
  obtain⟨-,o,c,q⟩:=n b e.symm;rw[l]at c;injection c with c;subst c;cases q
 refine⟨(a _ _ _ _ d).trans d,(a _ _ _ _ f).trans f,(a _ _ _ _ g).trans g,(a _ _ _ _ h).trans h,aZ i fun A e=>?_,j.grown m j.size fun k e=>bA p (n k e).1⟩;rcases i.2 with⟨rfl,_⟩|⟨z,x,y,rfl,_,r,_⟩
 .cases e
 .simp only[Value.ownBlock,jq]at e;subst e;exact a _ _ _ _ r
theorem Jg (F:Fence) (n:Nat) (hF:F.fn 319) (ah:F.fn 343) (N:F.fn 364) (C:F.round=none) (aL:3<=n) (f t d:Int) (i j:Nat) (aJ:i≠j) (g m b base:Nat) (a:List Bool) (w:World) (am:a.length=m) (aK:m<=100000) (hi:a[i]? =some false) (O:a[j]? =some false)
  (P:w.ownsRow base 4 1 (aA g m b) m (a.map Value.bool)):
  CallsIn F n prog 319 #[Bp 2 i j f t d,aA g m b] w (fw w (.bool true)):=by
 have ad:1<=n:=aa;subst am;have X:=ag P;have aG:g<w.heap.size:=(P.lt g rfl).2;refine Av func319 rfl hF ?_ C;simp only[ntmps319,qR,eu,fF,Nat.reduceAdd,Nat.reduceSub,qK,qL,qU,qN,fQ,mM]
 gi_wp2_with (gi_at_call 343;refine(z8 F (n-1) ah C _ _ _ _ _ _ _).mono ?_;rintro e w' ⟨rfl,rfl⟩)
 obtain⟨wk,k⟩:∃wk,wk=((((w.alloc (lC 2 i j f t d)).alloc (.cells #[aA g a.length b] 95)).alloc (.cells #[.bool false] 4)).alloc (.cells #[ae 0] 3)).alloc (lC 2 i j f t d):=⟨_,rfl⟩;have M:Below w.heap.size w wk:=by rw[k];exact(((((aI _ w).alloc (aB _) _).alloc ay _).alloc aH _).alloc aH _).alloc aH _
 have aQ:wk.heap.size=w.heap.size+5:=by rw[k];simp
 have s:wk.heap[w.heap.size]? =some (.cells #[.int .u8 2,ae i,ae j,ae f,ae t,ae 0,ae d] 163 (0,0)):=by
  rw[k];exact(bL _ _ _ (by first|(simp;done)|(simp;omega))).trans ((bL _ _ _ (by first|(simp;done)|(simp;omega))).trans ((bL _ _ _ (by first|(simp;done)|(simp;omega))).trans (EG w _ _)))
 have A:wk.heap[w.heap.size+1]? =some (.cells #[aA g a.length b] 95 (0,0)):=by
  rw[k];exact(bL _ _ _ ay).trans ((bL _ _ _ ay).trans ((bL _ _ _ ay).trans (Bh w _ _)))
 have y:wk.heap[w.heap.size+2]? =some (.cells #[.bool false] 4 (0,0)):=by
  rw[k];have v:=bW ((w.alloc (lC 2 i j f t d)).alloc (.cells #[aA g a.length b] 95)) (.cells #[.bool false] 4);rw[show((w.alloc (lC 2 i j f t d)).alloc (.cells #[aA g a.length b] 95)).heap.size=w.heap.size+2 by simp]at v;exact(bL _ _ _ ay).trans ((bL _ _ _ ay).trans v)
 have u:wk.heap[w.heap.size+3]? =some (.cells #[ae 0] 3 (0,0)):=by
  rw[k];have v:=bW (((w.alloc (lC 2 i j f t d)).alloc (.cells #[aA g a.length b] 95)).alloc (.cells #[.bool false] 4)) (.cells #[ae 0] 3);rw[show(((w.alloc (lC 2 i j f t d)).alloc (.cells #[aA g a.length b] 95)).alloc (.cells #[.bool false] 4)).heap.size=w.heap.size+3 by simp]at v;exact(bL _ _ _ ay).trans v
 have ao:wk.cell? (af (w.heap.size+1+1+1+1) 1)=some (ae i):=by
  rw[k,eF _ _ _ _ ay];rfl
 have ap:wk.cell? (af (w.heap.size+1+1+1+1) 2)=some (ae j):=by
  rw[k,eF _ _ _ _ ay];rfl
 rw[<-k];have U:Hid (Td w #[.int .u8 2,ae i,ae j,ae f,ae t,ae 0,ae d] (aA g a.length b) base a [] wk):=⟨s,A,y,u,az X.o M,M⟩;have ak:=(fH.1 hi).1;have al:=(fH.1 O).1;refine Ep C ad (gf:=364) (lb:=#[aj (w.heap.size+1+1+1+1)]) rfl N (bO func364 aM rfl)
  (Gc (α:=UK a) (fun x=>(x.1:Int)) ⟨i,ak,hi⟩ ⟨j,al,O⟩ F (n-1) N C aa (w.heap.size+1+1+1+1) wk aa ao ap ay ay) NS.trans (fun W l o au an _ _ _=>Aa (B:=wk.heap.size) aa W l o au an) (aI _ _) (fun _=>rfl)
  (fun E W=>Td w #[.int .u8 2,ae i,ae j,ae f,ae t,ae 0,ae d] (aA g a.length b) base a E W)
  (fun _ _ _=>False)
  (N7 aa)
  (fun _ _ _ _ _ ar _ _=>ar)
  U.o
  (fun x=>{tmps:=#[Bp 2 i j f t d,aA g a.length b,aj w.heap.size,aj (w.heap.size+1),aj (w.heap.size+1+1),aj (w.heap.size+1+1+1),ae x.1,Bp 2 i j f t d,.func (.func 364) #[] #[aj (w.heap.size+1+1+1+1)],ae x.1,undef,undef,undef,undef,undef,undef,undef,undef,undef,undef,undef,undef,undef,undef,undef,undef,undef,undef,undef,undef,undef,undef,undef,undef,undef,undef,undef,undef,undef,undef,undef,undef,undef],defers:=[]}) ?assign ?body ?done ?stop
 case assign=>
  intro l x W K H
  gi_wp2
  exact H
 case body=>
  rintro l E ⟨q,aO,aq⟩ W ⟨s,A,y,u,L,J⟩ aN;have av:W.cell? (af (w.heap.size+1) 0)=some (aA g a.length b):=aD A;have ab:W.cell? (af (w.heap.size+1+1+1) 0)=some (ae E.length):=aD u;have f3:W.frozen? (af (w.heap.size+1+1+1) 0)=false:=aD u;have z:=L.cellAt q aa;rw[iB,aq]at z;simp only[fT]at z;have aP:(q:Int)<(a.length:Int):=aa;have ax:decide ((q:Int)<0)=false:=ay;have aC:decide (a.length<=q)=false:=aH;have Q:=ag s;have T:=ag A;have R:=ag y;have S:=ag u;have Y:=ag L;have G:=ag J
  gi_wp2
  refine⟨xU _ _ _,fun o=>dD (aF (by first|(simp;done)|(simp;omega))),(aF (by first|(simp;done)|(simp;omega))).trans Q.o,(aF (by first|(simp;done)|(simp;omega))).trans T.o,(aF (by first|(simp;done)|(simp;omega))).trans R.o,?_,aZ Y.o (fun ac e=>aF (by have v:g=ac:=(by injection e);simp;omega)),G.o.setCell (p:=(af (w.heap.size+1+1+1) 0)) aH _⟩;rw[di W (w.heap.size+3) 0 _ _ _ S.o];simp
 case done=>
  rintro D aT W aE rfl ⟨s,A,y,u,L,J⟩ H;have n0:W.cell? (af w.heap.size 0)=some (.int .u8 2):=aD s;have aR:W.cell? (af w.heap.size 1)=some (ae i):=aD s;have aS:W.cell? (af w.heap.size 2)=some (ae j):=aD s;have Z:W.cell? (af (w.heap.size+1+1) 0)=some (.bool false):=aD y;have f2:W.frozen? (af (w.heap.size+1+1) 0)=false:=aD y;have ab:W.cell? (af (w.heap.size+1+1+1) 0)=some (ae 2):=aD u;have aw:((i:Int)!=(j:Int))=true:=aH;have V:=ag H;have G:=ag J
  gi_wp2
  have I:=(xU W (af (w.heap.size+1+1) 0) (.bool true)).same D _ V.o rfl;refine⟨ay,.inl ⟨_,_,rfl,AZ I,?_⟩⟩;have ai:=cell_kept (World.cell?_setCell_same' W (af (w.heap.size+1+1) 0) (.bool true) (by rw[Z];rfl)) (Ba _ D (.deferred none)) (fun r e=>by cases e;exact⟨_,I,rfl⟩);refine⟨.bool true,?_,rfl,(G.o.setCell (p:=(af (w.heap.size+1+1) 0)) (by first|(simp;done)|(simp;omega)) _).trans (belowK_b (w:=w) (aB _) _ D _ _ aa I rfl rfl)⟩;simp[results,f319,go_sem,ai]
 case stop=>
  rintro D c E W _ _ h _;exact h.elim
theorem QK (f t c:Int) (i j:Nat) (d:i≠j) (g m b base:Nat) (a:List Bool) (w:World) (h:a.length=m) (k:m<=100000) (hi:a[i]? =some false) (e:a[j]? =some false)
  (l:w.ownsRow base 4 1 (aA g m b) m (a.map Value.bool)):
  aK 319 #[Bp 2 i j f t c,aA g m b] w (fw w (.bool true)):=by
 refine(yn (n:=3)).1 ?_;exact Jg _ 3 trivial trivial trivial rfl ai f t c i j d g m b base a w h k hi e l
def Te (w0:World) (nd:Array Value) (pre:List (Fin 0)) (W:World):Prop:=
 W.heap[w0.heap.size]? =some (.cells nd 163 (0,0))/\W.heap[w0.heap.size+2]? =some (.cells #[.bool false] 4 (0,0))/\W.heap[w0.heap.size+3]? =some (.cells #[ae 0] 3 (0,0))/\Below w0.heap.size w0 W
theorem N8 {w0:World} {B:Nat} {p:Array Value} (m:w0.heap.size<=B):OwnFrom B (Te w0 p):=by
 rintro s W W' q ⟨d,f,g,h⟩ j l;have c:∀(b:Nat) cs t fr,W.heap[b]? =some (.cells cs t fr)->W'.heap[b]? =W.heap[b]? :=fun b cs t fr i=>j.block b (aY.1 i).1 fun e=>by
  obtain⟨-,o,a,n⟩:=l b e.symm;rw[i]at a;injection a with a;subst a;cases n
 exact⟨(c _ _ _ _ d).trans d,(c _ _ _ _ f).trans f,(c _ _ _ _ g).trans g,h.grown j h.size fun k e=>bA m (l k e).1⟩
theorem L8 (F:Fence) (n:Nat) (hF:F.fn 319) (H:F.fn 343) (v:F.fn 364) (j:F.round=none) (T:3<=n) (f t a:Int) (d:Value) (S:d.oneCell'=true) (w:World):
  CallsIn F n prog 319 #[Bp 1 (-1) (-1) f t a,d] w (fw w (.bool true)):=by
 have E:1<=n:=aa;refine Av func319 rfl hF ?_ j;simp only[ntmps319,qR,eu,fF,Nat.reduceAdd,Nat.reduceSub,qK,qL,qU,qN,fQ,mM]
 gi_wp2_with (gi_at_call 343;refine(z8 F (n-1) H j _ _ _ _ _ _ _).mono ?_;rintro e w' ⟨rfl,rfl⟩)
 obtain⟨wk,b⟩:∃wk,wk=((((w.alloc (lC 1 (-1) (-1) f t a)).alloc (.cells #[d] 95)).alloc (.cells #[.bool false] 4)).alloc (.cells #[ae 0] 3)).alloc (lC 1 (-1) (-1) f t a):=⟨_,rfl⟩;have G:Below w.heap.size w wk:=by rw[b];exact(((((aI _ w).alloc (aB _) _).alloc ay _).alloc aH _).alloc aH _).alloc aH _
 have U:wk.heap.size=w.heap.size+5:=by rw[b];simp
 have q:wk.heap[w.heap.size]? =some (.cells #[.int .u8 1,ae (-1),ae (-1),ae f,ae t,ae 0,ae a] 163 (0,0)):=by
  rw[b];exact(bL _ _ _ (by first|(simp;done)|(simp;omega))).trans ((bL _ _ _ (by first|(simp;done)|(simp;omega))).trans ((bL _ _ _ (by first|(simp;done)|(simp;omega))).trans ((bL _ _ _ (by first|(simp;done)|(simp;omega))).trans (bW w _))))
 have i:wk.heap[w.heap.size+2]? =some (.cells #[.bool false] 4 (0,0)):=by
  rw[b];have g:=bW ((w.alloc (lC 1 (-1) (-1) f t a)).alloc (.cells #[d] 95)) (.cells #[.bool false] 4);rw[show((w.alloc (lC 1 (-1) (-1) f t a)).alloc (.cells #[d] 95)).heap.size=w.heap.size+2 by simp]at g;exact(bL _ _ _ ay).trans ((bL _ _ _ ay).trans g)
 have s:wk.heap[w.heap.size+3]? =some (.cells #[ae 0] 3 (0,0)):=by
  rw[b];have g:=bW (((w.alloc (lC 1 (-1) (-1) f t a)).alloc (.cells #[d] 95)).alloc (.cells #[.bool false] 4)) (.cells #[ae 0] 3);rw[show(((w.alloc (lC 1 (-1) (-1) f t a)).alloc (.cells #[d] 95)).alloc (.cells #[.bool false] 4)).heap.size=w.heap.size+3 by simp]at g;exact(bL _ _ _ ay).trans g
 have M:wk.cell? (af (w.heap.size+1+1+1+1) 1)=some (ae (-1)):=by
  rw[b,eF _ _ _ _ ay];rfl
 have N:wk.cell? (af (w.heap.size+1+1+1+1) 2)=some (ae (-1)):=by
  rw[b,eF _ _ _ _ ay];rfl
 rw[<-b];have z:Hid (Te w #[.int .u8 1,ae (-1),ae (-1),ae f,ae t,ae 0,ae a] [] wk):=⟨q,i,s,G⟩;refine Ep j E (gf:=364) (lb:=#[aj (w.heap.size+1+1+1+1)]) rfl v (bO func364 aM rfl)
  (KG (α:=Fin 0) (fun x=>(x.1:Int)) F (n-1) v j aa (w.heap.size+1+1+1+1) wk aa M N) NS.trans (fun W l o P L _ _ _=>Aa (B:=wk.heap.size) aa W l o P L) (aI _ _) (fun _=>rfl)
  (fun u W=>Te w #[.int .u8 1,ae (-1),ae (-1),ae f,ae t,ae 0,ae a] u W)
  (fun _ _ _=>False)
  (N8 aa)
  (fun _ _ _ _ _ O _ _=>O)
  z.o
  (fun x=>{tmps:=#[Bp 1 (-1) (-1) f t a,d,aj w.heap.size,aj (w.heap.size+1),aj (w.heap.size+1+1),aj (w.heap.size+1+1+1),ae x.1,Bp 1 (-1) (-1) f t a,.func (.func 364) #[] #[aj (w.heap.size+1+1+1+1)],ae x.1,undef,undef,undef,undef,undef,undef,undef,undef,undef,undef,undef,undef,undef,undef,undef,undef,undef,undef,undef,undef,undef,undef,undef,undef,undef,undef,undef,undef,undef,undef,undef,undef,undef],defers:=[]}) ?assign ?body ?done ?stop
 case assign=>
  intro l x W K k
  gi_wp2
  exact k
 case body=>
  intro l u x W _ h;exact absurd x.2 (kE _)
 case done=>
  rintro D V W R rfl ⟨q,i,s,I⟩ k;have n0:W.cell? (af w.heap.size 0)=some (.int .u8 1):=aD q;have C:W.cell? (af (w.heap.size+1+1) 0)=some (.bool false):=aD i;have f2:W.frozen? (af (w.heap.size+1+1) 0)=false:=aD i;have Q:W.cell? (af (w.heap.size+1+1+1) 0)=some (ae 0):=aD s;have A:=ag k;have y:=ag I
  gi_wp2
  have m:=(xU W (af (w.heap.size+1+1) 0) (.bool true)).same D _ A.o rfl;refine⟨ay,.inl ⟨_,_,rfl,AZ m,?_⟩⟩;have J:=cell_kept (World.cell?_setCell_same' W (af (w.heap.size+1+1) 0) (.bool true) (by rw[C];rfl)) (Ba _ D (.deferred none)) (fun r e=>by cases e;exact⟨_,m,rfl⟩);refine⟨.bool true,?_,rfl,(y.o.setCell (p:=(af (w.heap.size+1+1) 0)) (by first|(simp;done)|(simp;omega)) _).trans (belowK_b (w:=w) (aB _) _ D _ _ aa m rfl rfl)⟩;simp[results,f319,go_sem,J]
 case stop=>
  rintro D c u W _ _ h _;exact h.elim
theorem Tf (f t b:Int) (a:Value) (c:a.oneCell'=true) (w:World):
  aK 319 #[Bp 1 (-1) (-1) f t b,a] w (fw w (.bool true)):=by
 refine(yn (n:=3)).1 ?_;exact L8 _ 3 trivial trivial trivial rfl ai f t b a c w
end
section
open Go.RowKit
def jh (x y:Int):Int:=if x<y then -1 else if y<x then 1 else 0
theorem QL (x y:Int) (w:World):aK 229 #[ae x,ae y] w fun e w'=>e=.returned (ae (jh x y))/\w'=w:=by
 unfold jh;rcases Int.lt_trichotomy x y with h|rfl|h
 .rw[aO h];go_enter func229,ntmps229;go_wp2;go_ret;exact⟨rfl,rfl⟩
 .rw[aN (Bg _),aN (Bg _)];go_enter func229,ntmps229;go_wp2;go_ret;exact⟨rfl,rfl⟩
 .rw[aN aa,aO h];go_enter func229,ntmps229;go_wp2;go_ret;exact⟨rfl,rfl⟩
theorem ER (x y:Int) (w:World):aK 202 #[ak x,ak y] w fun e w'=>e=.returned (ae (jh x y))/\w'=w:=by
 unfold jh;rcases Int.lt_trichotomy x y with h|rfl|h
 .rw[aO h];go_enter func202,ntmps202;go_wp2;go_ret;exact⟨rfl,rfl⟩
 .rw[aN (Bg _),aN (Bg _)];go_enter func202,ntmps202;go_wp2;go_ret;exact⟨rfl,rfl⟩
 .rw[aN aa,aO h];go_enter func202,ntmps202;go_wp2;go_ret;exact⟨rfl,rfl⟩
def dw (p:Pt):List Value:=[.int .i64 p.1,.int .i64 p.2.1,.int .u32 p.2.2]
theorem bg (p:Pt):(dw p).length=3:=rfl
theorem nK (p:Pt):∀u∈dw p,u.oneCell'=true:=by intro u hu;simp[dw]at hu;rcases hu with rfl|rfl|rfl<;>rfl
abbrev jc (x y i:Int):Value:=.agg #[ae x,ae y,ak i]
def xK (w w':World):Prop:=∃q os,w'=Sort.grow (w.drewN q) os
theorem xK.refl (w:World):xK w w:=⟨0,#[],by rw[Sort.grow_empty];rfl⟩
theorem xK.alloc {w w':World} (h:xK w w') (o:Obj):xK w (w'.alloc o):=by
 obtain⟨q,os,rfl⟩:=h;exact⟨q,os.push o,by simp[Sort.grow,World.alloc,World.drewN]⟩
theorem xK.drew {w w':World} (h:xK w w'):xK w w'.drew:=by
 obtain⟨q,os,rfl⟩:=h;exact⟨q+1,os,rfl⟩
theorem xK.below {w w':World} (h:xK w w') {B:Nat} (a:B<=w.heap.size):Below B w w':=by
 obtain⟨q,os,rfl⟩:=h;refine⟨rfl,rfl,rfl,by simp[Sort.grow,World.drewN],fun k b=>?_⟩;show(w.heap++os)[k]? =_;rw[xM aa]
def iK (p q:Pt):Int:=if jh p.1 q.1=0 then jh p.2.2 q.2.2 else jh p.1 q.1
theorem qm (p q:Pt):iK p q<0↔kI p q:=by
 unfold iK kI jh
 repeat' split
 all_goals omega
theorem QM (p q:Pt):iK p q=0↔p.1=q.1/\p.2.2=q.2.2:=by
 unfold iK jh
 repeat' split
 all_goals omega
theorem Tg (a b:Int) (w:World) (n:Nat) (f:w.cell? (af n 0)=some (ae a)) (g:w.cell? (af n 1)=some (ae b)):
  aK 228 #[aA n 2 2] w fun e w'=>e=.returned (ae (if a=0 then b else a))/\w'=w:=by
 by_cases c:a=0
 .subst c;rw[aO rfl];by_cases d:b=0
  .subst d;go_enter func228,ntmps228;go_wp2
   go_loopw [7] (fun i wr=>∃k:Nat,i=.int .i64 k/\k<=2/\wr=w) (fun i _=>2-(intOf i).toNat)
   case atStart=>exact⟨0,rfl,aa,rfl⟩
   case round=>
    obtain⟨k,rfl,j,rfl⟩:=hrel;by_cases h:k<2
    .have l:wr.cell? (af n k)=some (ae 0):=by
      obtain rfl|rfl:k=0\/k=1:=aa
      .exact f
      .exact g
     go_wp2;go_roundw
     case rel=>exact⟨k+1,by go_num,aa,by first|rfl|trivial⟩
     case measure=>exact eT
    .go_wp2;go_ret;exact⟨rfl,rfl⟩
  .have hd:(b !=0)=true:=by simp[d]
   go_enter func228,ntmps228;go_wp2
   go_loopw [7] (fun i wr=>∃k:Nat,i=.int .i64 k/\k<=1/\wr=w) (fun i _=>2-(intOf i).toNat)
   case atStart=>exact⟨0,rfl,aa,rfl⟩
   case round=>
    obtain⟨k,rfl,j,rfl⟩:=hrel;by_cases h:k<1
    .obtain rfl:k=0:=aa;go_wp2;go_roundw
     case rel=>exact⟨1,by go_num,aa,by first|rfl|trivial⟩
     case measure=>simp[intOf]
    .obtain rfl:k=1:=aa;go_wp2;go_ret;exact⟨rfl,rfl⟩
 .rw[aN c];have hd:(a !=0)=true:=by simp[c]
  go_enter func228,ntmps228;go_wp2
  go_loopw [7] (fun i wr=>i=.int .i64 0/\wr=w) (fun i _=>2-(intOf i).toNat)
  case atStart=>exact⟨rfl,rfl⟩
  case round=>
   obtain⟨rfl,rfl⟩:=hrel;go_wp2;go_ret;exact⟨rfl,rfl⟩
theorem Wi (a b x y:Int) (w:World):aK 152 #[ae a,ae b,ak x,ak y] w fun e w'=>e=.returned (ae (if jh a b=0 then jh x y else jh a b))/\xK w w':=by
 have c:=ag (fun W=>QL a b W);have d:=ag (fun W=>ER x y W);generalize jh a b=p at*;generalize jh x y=q at*;go_enter func152,ntmps152
 go_wp2_with fail
 refine(c.o _).mono ?_;rintro e w1 ⟨rfl,rfl⟩
 go_wp2_with fail
 refine(d.o _).mono ?_;rintro e w1 ⟨rfl,rfl⟩
 go_wp2_with fail
 refine(Tg p q _ _ (by rw[eF _ _ _ _ rfl];rfl) (by rw[eF _ _ _ _ rfl];rfl)).mono ?_;rintro e w1 ⟨rfl,rfl⟩;go_wp2
 all_goals
  go_ret;exact⟨rfl,(xK.refl _).alloc _⟩
theorem xK.trans {w w1 w2:World} (h:xK w w1) (c:xK w1 w2):xK w w2:=by
 obtain⟨q,os,rfl⟩:=h;obtain⟨b,a,rfl⟩:=c;refine⟨q+b,os++a,?_⟩;rw[<-Sort.grow_grow];show Sort.grow (Sort.grow ((w.drewN q).drewN b) os) a=_;rw[gp]
theorem Ti (p q:Pt) (w:World):aK 94 #[jc p.1 p.2.1 p.2.2,jc q.1 q.2.1 q.2.2] w fun e w'=>e=.returned (ae (iK p q))/\xK w w':=by
 have a:=ag (fun W=>Wi p.1 q.1 p.2.2 q.2.2 W);unfold iK;generalize(if jh p.1 q.1=0 then jh p.2.2 q.2.2 else jh p.1 q.1)=r at*;go_enter func94,ntmps94
 go_wp2_with fail
 refine(a.o _).mono ?_;rintro e w1 ⟨rfl,h⟩;go_wp2;go_ret;exact⟨rfl,(((xK.refl _).alloc _).alloc _).trans h⟩
theorem Jh:eY 94:=bO func94 aM rfl
end
section
open Go.RowKit Go.Sort Go.Shelf Go.Lib
section
variable {α:Type} [Inhabited α] {enc:α->List Value} {k:Nat}
theorem wK (a:∀x,(enc x).length=k) (h:0<k) (l:List α):(flatK enc k l.toArray).toList=l.flatMap enc:=by
 apply xY;intro t;by_cases ht:t<l.length*k
 .have b:t/k<l.length:=Nat.div_lt_of_lt_mul (by rw[vo];exact ht);have c:t%k<k:=p9 _ h;have d:=flat_get a l (t/k) b (t%k) c;rw[Nat.div_add_mod' t k]at d;rw[d];have e:=get_flatK enc k l.toArray t (aQ ht);have f:t<(flatK enc k l.toArray).size:=aQ ht;rw[IU,Array.getElem?_eq_getElem f];rw[rT _ t f]at e;rw[e];have g:t%k<(enc l[t/k]).length:=by rw[a];exact c
  rw[cB g];simp[b,g]
 .rw[oD aH,oD (by rw[gq a];omega)]
theorem qX (i:∀x,(enc x).length=k) (m:0<k) {w:World} {base g c n:Nat} {e:TypeId} {l:List α} (o:l.length=n) (h:w.ownsRow base e k (aA g n c) n (l.flatMap enc)):HoldsK enc k w g 0 l.toArray:=by
 intro j a;have f:j<n*k:=by rw[<-o];simpa using a
 have b:=h.cellAt j f;have d:=h.frozenAt j;rw[kH];refine⟨?_,d⟩;rw[b,<-wK i m,IU,Array.getElem?_eq_getElem a];rw[rT (flatK enc k l.toArray) j a];rfl
theorem uA (p:∀x,(enc x).length=k) (z:0<k) {w:World} {base g c n:Nat} {e:TypeId} {l l':List α} (r:l'.length=n) (h:w.ownsRow base e k (aA g n c) n (l.flatMap enc)) (q:Nat) (os:Array Obj):
  (Sort.grow (putRowK enc k (Sort.ahead w q) g 0 l'.toArray) os).ownsRow base e k (aA g n c) n (l'.flatMap enc)/\w.grownBy (Sort.grow (putRowK enc k (Sort.ahead w q) g 0 l'.toArray) os) (some g):=by
 rcases h.2 with⟨f,_⟩|⟨J,H,d,f,v,o,m,B,D,ht⟩
 .cases f
 .injection f with a I s;injection a with a;injection a with a _ _;subst a s;have A:g<w.heap.size:=(aY.1 o).1;have key:(Sort.grow (putRowK enc k (Sort.ahead w q) g 0 l'.toArray) os).heap[g]? =some (.cells (Sort.putCells id 0 (flatK enc k l'.toArray) d) e (0,0)):=by
   show((w.heap.modify g (Sort.onCells (Sort.putCells id 0 (flatK enc k l'.toArray))))++os)[g]? =_;rw[xM (aQ A),xQ,aO rfl,o];rfl
  have E:(Sort.putCells id 0 (flatK enc k l'.toArray) d).size=c*k:=by simp[Sort.putCells,D]
  have K:n*k<=c*k:=nR _ m;have G:(Sort.putCells id 0 (flatK enc k l'.toArray) d).toList.take (n*k)=l'.flatMap enc:=by
   rw[<-wK p z];have u:(flatK enc k l'.toArray).size=n*k:=by simp[r]
   generalize flatK enc k l'.toArray=F at*;apply xY;intro j;rw[uN];by_cases i:j<n*k
   .rw[aO i];have y:j<d.size:=aa;simp[Sort.putCells,y,u,i]
   .rw[aN i];exact(oD aH).symm
  refine⟨⟨by rw[gq p,r],.inr ⟨g,c,_,rfl,v,key,m,B,E,G⟩⟩,?_⟩;refine⟨rfl,rfl,rfl,?_,fun b t C=>?_⟩
  .show w.heap.size<=((w.heap.modify g _)++os).size;simp
  .show((w.heap.modify g _)++os)[b]? =_;rw[xM (aQ t),xQ,aN (fun e=>C (by rw[e]))]
theorem sj {d d':Array α} (h:PermIn 0 d.size d d'):d'.toList.Perm d.toList:=by
 have⟨b,_,a⟩:=h;rw[show d.extract 0 d.size=d by simp,show d'.extract 0 d.size=d' by rw[<-b];simp]at a;exact a
theorem mZ {P:Program} {p:Ren} (L:SlLaysF0.n6 P p) (s:∀x,(enc x).length=k) (B:0<k) (F:∀w,(isAgg (p.t 24)).run P w=.ok true w) (T:∀w,(Go.sizeOf (p.t 24)).run P w=.ok k w) (b:∀x,∀v∈enc x,v.oneCell'=true)
  (o:α->α->Int) (H:SWO (ltOf o)) (f:Nat) (cb:Array Value) (G:∀args w,(callFunc f args).run P w=.ok (.enter f args) w)
  (I:∀x y W,Calls P f (#[.agg (enc x).toArray,.agg (enc y).toArray]++cb) W fun e w'=>e=.returned (ae (o x y))/\∃q S,w'=Sort.grow (W.drewN q) S)
  {w:World} {base g c n:Nat} {e:TypeId} {l:List α} (d:l.length=n) (O:n<4611686018427387904) (h:w.ownsRow base e k (aA g n c) n (l.flatMap enc)):
  Calls P (p.f 6) #[aA g n c,.func (.func f) #[] cb] w fun u w'=>
   u=.returned (.tuple #[])/\∃l':List α,l'.Perm l/\l'.Pairwise (fun x y=>¬o y x<0)/\w'.ownsRow base e k (aA g n c) n (l'.flatMap enc)/\w.grownBy w' (some g):=by
 have N:g<w.heap.size:=by
  rcases h.2 with⟨b,_⟩|⟨Z,U,V,b,ab,K,_⟩
  .cases b
  .injection b with a X Y;injection a with a;injection a with a _ _;subst a;exact(aY.1 K).1
 have z:=AnyQ.slices_SortFunc L k F T enc s b o H f cb g 0 c l.toArray w G (fun m os dk _ x y=>I x y _) (qX s B d h) N (by simpa[d]using O);rw[show l.toArray.size=n by simpa using d]at z;refine z.mono ?_;rintro u w' ⟨J,d',m,os,hp,E,rfl⟩;rw[show n=l.toArray.size by simpa using d.symm]at hp E;have D:=sj hp;have C:d'.toList.length=n:=by rw[D.length_eq];simpa using d
 have⟨Q,R⟩:=uA s B C h m os;refine⟨J,d'.toList,D,?_,Q,R⟩;rw[gQ];intro i j hi A M;have ac:d'.size=n:=aQ C;have r:=E i j (bD _) M (by simp at A |-;omega);simp at hi A;rw[rT d' j aa,rT d' i aa]at r;unfold ltOf at r;simpa using r
end
instance:Inhabited Pt:=⟨(0,0,0)⟩
theorem yE {α:Type} {a:α->α->Int} {R:α->α->Prop} (h:∀x y,a x y<0↔R x y) (hi:∀x,¬R x x) (ht:∀x y z,R x y->R y z->R x z) (b:∀x y z,¬R x y->¬R y z->¬R x z):SWO (ltOf a) where
 irrefl x:=by unfold ltOf;rw[gT,h];exact hi x
 trans x y z h1 h2:=by unfold ltOf at*;rw[decide_eq_true_iff,h]at*;exact ht x y z h1 h2
 ntrans x y z h1 h2:=by unfold ltOf at*;rw[gT,h]at*;exact b x y z h1 h2
theorem VG:SWO (ltOf iK):=yE qm tC (fun _ _ _=>oJ) (fun x y z=>by unfold kI;omega)
theorem Bz {B g:Nat} {w w':World} (h:w.grownBy w' (some g)) (a:B<=w.heap.size) (b:B<=g):Below B w w':=FZ h a b
theorem oP (a:Option Addr) (l:List Pt) (n c:Nat) (w:World) (k:l.length=n) (h:bY dw 3 w a l) (m:n<=1000000):
  aK 91 #[.slice a n c] w fun e w'=>∃v,e=.returned v/\w'.ownsRow w.heap.size 29 3 v n (l.flatMap dw)/\Below w.heap.size w w':=by
 subst k;have o:∀(w:World) (a:Option Addr) (n c n' d:Nat),(binOp .eql 22 (.slice a n c) (.slice none n' d)).run prog w=.ok (.bool a.isNone) w:=fun w a n c n' d=>Em w _ _ a n c n' d underlying22;cases a with
 |none=>
  have i:l=[]:=by
   rcases h with h|⟨b,off,h,_⟩
   .exact h
   .cases h
  subst i;go_enter func91,ntmps91;go_wp2;go_ret;exact⟨_,rfl,dx _ _ _ _,aI _ _⟩
 |some ad=>
  have f:=AO (e:=29) (size:=3) w #[] 0 (aB _) (bD _) rfl;have h':bY dw 3 (w.alloc (.cells #[] 29)) (some ad) l:=h.below ((aI _ _).alloc (aB _) _);go_enter func91,ntmps91
  go_wp2_with (at_builtin;refine iU wB bg nK w.heap.size f h' rfl _ _ rfl rfl c rfl dJ aa ay ?_;intro p w' g j)
  go_ret;rw[kH,fQ]at g;exact⟨_,rfl,g,dB ((aI _ _).alloc (aB _) _) f j ay (aB _)⟩
theorem Gq {l l':List Pt} (hu:(ids l).Nodup) (hp:l'.Perm l) (g:l'.Pairwise fun x y=>¬iK y x<0):l'=eZ l:=by
 refine KF hu ?_ fun p=>hp.mem_iff;have c:(ids l').Nodup:=(hp.map _).nodup_iff.2 hu;have d:l'.Pairwise fun p q=>p.2.2≠q.2.2:=dz.1 c;refine(g.and d).imp fun{a b} f=>?_;have⟨e,h⟩:=f;rw[qm]at e;unfold kI at*;omega
theorem KN {w:World} {base g c n:Nat} {l:List Pt} (i:l.length=n) (k:n<4611686018427387904) (h:w.ownsRow base 29 3 (aA g n c) n (l.flatMap dw)) (hu:(ids l).Nodup):
  aK 93 #[aA g n c,.func (.func 94) #[] #[]] w fun e w'=>
   e=.returned (.tuple #[])/\w'.ownsRow base 29 3 (aA g n c) n ((eZ l).flatMap dw)/\w.grownBy w' (some g):=by
 have a:=mZ Tryz.I1 bg ai isAgg29 sizeOf29 nK iK VG 94 #[] Jh (fun x y W=>Ti x y W) i k h;change aK 93 _ _ _ at a;refine a.mono ?_;rintro e w' ⟨d,l',hp,j,b,f⟩;rw[Gq hu hp j]at b;exact⟨d,b,f⟩
theorem qo (p:Option Addr) (a:Nat) (b:Value) (w:World):
  aK 93 #[.slice p 0 a,b] w fun e w'=>e=.returned (.tuple #[])/\w'=w:=IG Tryz.I1 p a b w
theorem N9 {w:World} {base n:Nat} {v:Value} {l:List Pt} (b:l.length=n) (k:n<4611686018427387904) (h:w.ownsRow base 29 3 v n (l.flatMap dw)) (hu:(ids l).Nodup) (d:base<=w.heap.size):
  aK 93 #[v,.func (.func 94) #[] #[]] w fun e w'=>
   e=.returned (.tuple #[])/\w'.ownsRow base 29 3 v n ((eZ l).flatMap dw)/\Below base w w':=by
 rcases h.2 with⟨rfl,c⟩|⟨g,m,o,rfl,f,_⟩
 .subst c;obtain rfl:l=[]:=gU b;refine(qo none 0 _ w).mono ?_;rintro e w' ⟨a,rfl⟩;exact⟨a,by simpa[eZ]using h,aI _ _⟩
 .refine(KN b k h hu).mono ?_;rintro e w' ⟨a,j,i⟩;exact⟨a,j,Bz i d f⟩
theorem Tj {w:World} {base n:Nat} {v:Value} {l:List Pt} (b:l.length=n) (o:n<=1000000) (h:w.ownsRow base 29 3 v n (l.flatMap dw)):
  aK 215 #[v] w fun e w'=>e=.returned (.tuple #[])/\w'.ownsRow base 29 3 v n (l.reverse.flatMap dw)/\w.grownBy w' v.ownBlock:=by
 rcases h.2 with⟨rfl,f⟩|⟨g,d,i,rfl,j,_⟩
 .subst f;obtain rfl:l=[]:=gU b;have a:=AnyQ.slices_Reverse_empty Tryz.Si none 0 w;change aK 215 _ _ _ at a;refine a.mono ?_;rintro e w' ⟨c,rfl⟩;exact⟨c,aQ h,World.grownBy.refl _ _⟩
 .have a:=AnyQ.slices_Reverse Tryz.Si 3 isAgg29 sizeOf29 dw bg nK g 0 d l.toArray w (qX bg ai b h) aH;change aK 215 _ _ _ at a;rw[show l.toArray.size=n by simpa using b]at a;refine a.mono ?_;rintro e w' ⟨c,m,rfl⟩;have k:=uA (l':=l.reverse) bg ai (aQ b) h m #[];rw[Sort.grow_empty]at k;rw[show l.toArray.reverse=l.reverse.toArray by simp];exact⟨c,k.1,k.2⟩
end
section
open Go.RowKit Go.Sort Go.Shelf Go.Lib Go.Maps
attribute [local go_sem] Oper.semAt_some
theorem Oa (a:Nat) (c:a<=100000) (w:World):
  aK 231 #[ae a] w fun e w'=>e=.returned (.tuple #[aj w.heap.size,ae 0])/\w'=w.alloc (.cells #[ae a,aL,aL,.bool true] 372):=by
 have b:decide ((a:Int)<0)=false:=ay;refine calls_of_wp func231 rfl ?_;simp only[ntmps231,qR,eu,fF,Nat.reduceAdd,Nat.reduceSub,qK,qL,qU,qN,fQ,mM];go_wp2;go_ret2;exact⟨rfl,rfl⟩
theorem QN (a:Option Addr) (l:List Nd) (n c:Nat) (w:World) (k:l.length=n) (h:bY oM 7 w a l) (m:n<=1000000):
  aK 292 #[.slice a n c] w fun e w'=>∃v,e=.returned v/\w'.ownsRow w.heap.size 163 7 v n (l.flatMap oM)/\Below w.heap.size w w':=by
 subst k;have o:∀(w:World) (a:Option Addr) (n c n' d:Nat),(binOp .eql 141 (.slice a n c) (.slice none n' d)).run prog w=.ok (.bool a.isNone) w:=fun w a n c n' d=>Em w _ _ a n c n' d underlying141;cases a with
 |none=>
  have i:l=[]:=by
   rcases h with h|⟨b,off,h,_⟩
   .exact h
   .cases h
  subst i;go_enter func292,ntmps292;go_wp2;go_ret;exact⟨_,rfl,dx _ _ _ _,aI _ _⟩
 |some ad=>
  have f:=AO (e:=163) (size:=7) w #[] 0 (aB _) (bD _) rfl;have h':bY oM 7 (w.alloc (.cells #[] 163)) (some ad) l:=h.below ((aI _ _).alloc (aB _) _);go_enter func292,ntmps292
  go_wp2_with (at_builtin;refine iU SV jA KH w.heap.size f h' rfl _ _ rfl rfl c rfl dJ aa ay ?_;intro p w' g j)
  go_ret;rw[kH,fQ]at g;exact⟨_,rfl,g,dB ((aI _ _).alloc (aB _) _) f j ay (aB _)⟩
theorem Ji (k:Nat) (b:Nat) (a:Option Addr) (nc:Nat) (j:Value) (l:List Nd) (w:World) (d:w.heap[b]? =some (.cells #[ae k,.slice a l.length nc,j,.bool true] 372 (0,0))) (h:bY oM 7 w a l) (g:l.length<=1000000):
  aK 233 #[aj b] w fun e w'=>∃v,e=.returned v/\w'.ownsRow w.heap.size 163 7 v l.length (l.flatMap oM)/\Below w.heap.size w w':=by
 have m:w.cell? (af b 1)=some (.slice a l.length nc):=aD d;have c:=QN a l l.length nc w rfl h g;go_enter func233,ntmps233
 go_wp2_with (go_at_call 292;refine c.mono ?_;rintro e w' ⟨v,rfl,i,f⟩)
 go_ret;exact⟨_,rfl,i,f⟩
end
section
open Go.RowKit Go.Sort Go.Shelf Go.Lib Go.Maps
attribute [local irreducible] wpQuiet
attribute [local go_sem] Oper.fB
structure gM (w:World) (b base most:Nat) (nv kv:Value) (l:List Nd) (kid:List Bool):Prop where
 blk:w.heap[b]? =some (.cells #[ae most,nv,kv,.bool true] 372 (0,0))
 jg:w.ownsRow base 163 7 nv l.length (l.flatMap oM)
 row:w.ownsRow base 4 1 kv l.length (kid.map Value.bool)
 len:kid.length=l.length
def kJ (b:Nat) (nv kv:Value) (k:Nat):Prop:=k=b\/nv.ownBlock=some k\/kv.ownBlock=some k
def qY (w:World) (b base most:Nat) (nv kv:Value) (l:List Nd) (kid:List Bool) (w':World):Prop:=
 ∃Wj Wl,gM w' b base most Wj Wl l kid/\(∀k,kJ b Wj Wl k->kJ b nv kv k\/w.heap.size<=k)/\ax (kJ b nv kv) w w'
theorem gM.lt {w:World} {b base f:Nat} {c a:Value} {l:List Nd} {d:List Bool} (h:gM w b base f c a l d):∀k,kJ b c a k->k<w.heap.size:=by
 rintro k (rfl|e|e)
 .exact(aY.1 h.blk).1
 .exact(h.jg.lt k e).2
 .exact(h.row.lt k e).2
theorem gM.kept {w w':World} {b base g:Nat} {d c:Value} {l:List Nd} {f:List Bool} (h:gM w b base g d c l f) {S:Nat->Prop} (K:ax S w w') (hS:∀k,kJ b d c k->¬S k):gM w' b base g d c l f:=
 ⟨bq K h.blk (hS b (.inl rfl)),aR h.jg K (fun a e=>hS a (.inr (.inl e))),aR h.row K (fun a e=>hS a (.inr (.inr e))),h.len⟩
theorem qY.trans {w w1 w2:World} {b base i:Nat} {c a j f:Value} {g:List Nd} {e:List Bool} (d:∀k,kJ b j f k->kJ b c a k\/w.heap.size<=k) (K:ax (kJ b c a) w w1) (h:qY w1 b base i j f g e w2):qY w b base i c a g e w2:=by
 have⟨p,o,A,n,l⟩:=h;refine⟨p,o,A,fun k m=>?_,?_⟩
 .rcases n k m with h9|h9
  .exact d k h9
  .have:=K.size;exact .inr aa
 .exact((K.mono (fun k h=>.inl h)).trans (l.mono (fun k h9=>d k h9))).strip
theorem fI {w:World} {base:Nat} {e:TypeId} {sz:Nat} {v:Value} {n:Nat} {xs:List Value} (h:w.ownsRow base e sz v n xs):∃a c,v=.slice a n c:=by
 rcases h.2 with⟨rfl,rfl⟩|⟨g,b,d,rfl,_⟩<;>exact⟨_,_,rfl⟩
def BA (b x:Nat) (nv kv:Value) (k L R f t it:Int) (W:World):Prop:=
 W.cell? (af b 1)=some (nv)/\W.cell? (af b 2)=some (kv)/\W.cell? (af x 0)=some (.int .u8 k)/\W.cell? (af x 1)=some (ae L)/\W.cell? (af x 2)=some (ae R)/\W.cell? (af x 3)=some (ae f)/\W.cell? (af x 4)=some (ae t)/\W.cell? (af x 5)=some (ae 0)/\W.cell? (af x 6)=some (ae it)
theorem wL (k L R f t i:Int) (r b base m:Nat) (a4 c:Value) (X ap:List Bool) (l:List Nd) (w:World) (an:l.length=m) (cn:m<r) (co:r<=100000) (bT:ap.length=m)
  (h:gM w b base r a4 c l X) (cl:base<=w.heap.size)
  (bi:∀W,W.ownsRow base 4 1 c m (X.map Value.bool)->aK 319 #[Bp k L R f t i,c] W (fw W (.bool true)))
  (bm:∀W,W.ownsRow base 4 1 c m (X.map Value.bool)->base<=W.heap.size->aK 320 #[Bp k L R f t i,c] W (NU W base m c ap)):
  aK 291 #[aj b,Bp k L R f t i] w fun e w'=>e=.returned (.tuple #[ae m,ae 0])/\qY w b base r a4 c (l++[⟨k,L,R,f,t,i⟩]) (ap++[false]) w':=by
 have⟨C,ao,a3,cm⟩:=h;rw[an]at ao a3;have U:b<w.heap.size:=(aY.1 C).1;obtain⟨g,nc,a2,-,-,-⟩:=bY.aJ jA ai ao;rw[an]at a2;subst a2;have bz:w.cell? (af b 0)=some (ae r):=aD C;have bA:w.cell? (af b 1)=some (.slice g m nc):=aD C;have bD:w.cell? (af b 2)=some c:=aD C;have b9:w.cell? (af b 3)=some (.bool true):=aD C;have bc:=ag C;have aQ:=ag a3;have aO:=ag ao;have bj:=ag bi;have bo:=ag bm;have ac:=ag an;have bh:=ag bT;have d3:decide (r<=m)=false:=aH;go_enter func291,ntmps291;go_wp2;obtain⟨wk,V⟩:∃wk,wk=w.alloc (.cells #[.int .u8 k,ae L,ae R,ae f,ae t,ae 0,ae i] 163):=⟨_,rfl⟩;have y:Hid (Below w.heap.size w wk):=by rw[V];exact(aI _ w).alloc (aB _) _
 have bq:Hid (wk.heap[w.heap.size]? =some (.cells #[.int .u8 k,ae L,ae R,ae f,ae t,ae 0,ae i] 163 (0,0))):=by rw[V];exact bW w _
 rw[<-V];have x:w.heap.size<wk.heap.size:=by rw[V];simp
 have bk:=ag (az aO.o y.o);have aT:=ag (az aQ.o y.o);have bd:Hid (wk.heap[b]? =some (.cells #[ae r,.slice g m nc,c,.bool true] 372 (0,0))):=(y.o.block b U).trans bc.o;have bE:=(y.o.cell (p:=(af b 0)) U).trans bz;have bF:=(y.o.cell (p:=(af b 1)) U).trans bA;have u:=(y.o.cell (p:=(af b 2)) U).trans bD;have A:=bq.o;have a6:wk.cell? (af w.heap.size 0)=some (.int .u8 k):=aD A;have x1:wk.cell? (af w.heap.size 1)=some (ae L):=aD A;have x2:wk.cell? (af w.heap.size 2)=some (ae R):=aD A;have a7:wk.cell? (af w.heap.size 3)=some (ae f):=aD A;have a8:wk.cell? (af w.heap.size 4)=some (ae t):=aD A;have a9:wk.cell? (af w.heap.size 5)=some (ae 0):=aD A;have ba:wk.cell? (af w.heap.size 6)=some (ae i):=aD A;have cy:=ah u;have cq:=ah a6;have cr:=ah x1;have cs:=ah x2;have ct:=ah a7;have cv:=ah a8;have cw:=ah a9;have cx:=ah ba;have bf:Hid (∀p:aS wk,aK 319 #[Bp k L R f t i,c] p.W fun e w'=>e=.returned (.bool true)/\Below p.W.heap.size p.W w'):=fun p=>bj.o _ (az aT.o p.h);refine bH aM aM ?_
 repeat(quiet_step ((go_at_call 319;exact dL (bf.o _))))
 refine jP ?_;intro j bZ;have n:Below wk.heap.size wk j:=by obtain⟨p,rfl⟩:=bZ;exact p.h
 have bl:=ag (az bk.o n);have bp:=ag (az aT.o n);have T:b<wk.heap.size:=aa;have be:Hid (j.heap[b]? =some (.cells #[ae r,.slice g m nc,c,.bool true] 372 (0,0))):=(n.block b T).trans bd.o;have cC:=(n.cell (p:=(af b 0)) T).trans bE;have b7:=(n.cell (p:=(af b 1)) T).trans bF;have b8:=(n.cell (p:=(af b 2)) T).trans u;have b2:=(n.cell (p:=(af w.heap.size 0)) x).trans a6;have y1:=(n.cell (p:=(af w.heap.size 1)) x).trans x1;have y2:=(n.cell (p:=(af w.heap.size 2)) x).trans x2;have b3:=(n.cell (p:=(af w.heap.size 3)) x).trans a7;have b4:=(n.cell (p:=(af w.heap.size 4)) x).trans a8;have b5:=(n.cell (p:=(af w.heap.size 5)) x).trans a9;have b6:=(n.cell (p:=(af w.heap.size 6)) x).trans ba;go_wp2
 go_quiet (fail)
 go_wp2;have J:Hid ((j.drewN nq).ownsRow base 163 7 (.slice g m nc) m (l.flatMap oM)):=bl.o;have N:Hid ((j.drewN nq).ownsRow base 4 1 c m (X.map Value.bool)):=bp.o;have H:Hid ((j.drewN nq).heap[b]? =some (.cells #[ae r,.slice g m nc,c,.bool true] 372 (0,0))):=be.o;have bM:Hid (Below w.heap.size w (j.drewN nq)):=(y.o.trans (n.mono aa)).trans (Below.bu _ _);have aZ:w.heap.size<(j.drewN nq).heap.size:=bX x n.size;have Z:(j.drewN nq).cell? (af b 1)=some (.slice g m nc):=b7;have ab:(j.drewN nq).cell? (af b 2)=some c:=b8;have av:(j.drewN nq).cell? (af w.heap.size 0)=some (.int .u8 k):=b2;have aw:(j.drewN nq).cell? (af w.heap.size 1)=some (ae L):=y1;have ay:(j.drewN nq).cell? (af w.heap.size 2)=some (ae R):=y2;have aE:(j.drewN nq).cell? (af w.heap.size 3)=some (ae f):=b3;have aF:(j.drewN nq).cell? (af w.heap.size 4)=some (ae t):=b4;have aL:(j.drewN nq).cell? (af w.heap.size 5)=some (ae 0):=b5;have aN:(j.drewN nq).cell? (af w.heap.size 6)=some (ae i):=b6;generalize j.drewN nq=w6 at*;have bU:∀d,(Value.slice g m nc).ownBlock=some d->d<w6.heap.size/\d≠b/\d≠w.heap.size:=fun d e=>⟨(J.o.lt d e).2,fun G=>bn J.o H.o ai d e G.symm,fun G=>by have:=(aO.o.lt d e).2;omega⟩;have bR:∀d,c.ownBlock=some d->d<w6.heap.size/\d≠b/\d≠w.heap.size:=fun d e=>⟨(N.o.lt d e).2,fun G=>bn N.o H.o ai d e G.symm,fun G=>by have:=(aQ.o.lt d e).2;omega⟩;have bV:∀d,(Value.slice g m nc).ownBlock=some d->c.ownBlock≠some d:=bB J.o N.o ai;have M:=ag bU;have I:=ag bR;have aP:=ag bV;have am:b<w6.heap.size:=aa;have ck:base<=w6.heap.size:=aa;have bG:∀o,w6.frozen? (af b o)=false:=fun o=>by have h9:=H.o;simp[World.frozen?,h9]
 have bg:Hid (BA b w.heap.size (.slice g m nc) c k L R f t i w6.drew):=⟨Z,ab,av,aw,ay,aE,aF,aL,aN⟩;have ca:∀p:iD (BA b w.heap.size (.slice g m nc) c k L R f t i),p.W.cell? (af b 1)=some (.slice g m nc):=fun p=>p.h.1;have cb:∀p:iD (BA b w.heap.size (.slice g m nc) c k L R f t i),p.W.cell? (af b 2)=some (c):=fun p=>p.h.2.1;have cc:∀p:iD (BA b w.heap.size (.slice g m nc) c k L R f t i),p.W.cell? (af w.heap.size 0)=some (.int .u8 k):=fun p=>p.h.2.2.1;have cd:∀p:iD (BA b w.heap.size (.slice g m nc) c k L R f t i),p.W.cell? (af w.heap.size 1)=some (ae L):=fun p=>p.h.2.2.2.1;have ce:∀p:iD (BA b w.heap.size (.slice g m nc) c k L R f t i),p.W.cell? (af w.heap.size 2)=some (ae R):=fun p=>p.h.2.2.2.2.1;have cf:∀p:iD (BA b w.heap.size (.slice g m nc) c k L R f t i),p.W.cell? (af w.heap.size 3)=some (ae f):=fun p=>p.h.2.2.2.2.2.1;have cg:∀p:iD (BA b w.heap.size (.slice g m nc) c k L R f t i),p.W.cell? (af w.heap.size 4)=some (ae t):=fun p=>p.h.2.2.2.2.2.2.1;have ch:∀p:iD (BA b w.heap.size (.slice g m nc) c k L R f t i),p.W.cell? (af w.heap.size 5)=some (ae 0):=fun p=>p.h.2.2.2.2.2.2.2.1;have ci:∀p:iD (BA b w.heap.size (.slice g m nc) c k L R f t i),p.W.cell? (af w.heap.size 6)=some (ae i):=fun p=>p.h.2.2.2.2.2.2.2.2;refine au (fun W=>∃p:iD (BA b w.heap.size (.slice g m nc) c k L R f t i),W=p.W) [14,15,16,17,18,19,20] [(0,false),(1,false),(2,false),(3,false),(4,false),(5,true),(6,true),(9,true),(10,false),(11,false),(12,false),(13,true)] ⟨⟨_,bg.o⟩,rfl⟩ 9 ?_;refine aC 7 rfl fun K al=>?_;go_simp;have O:ax (fun _=>False) w6 (w6.alloc (.cells #[.int .u8 k,ae L,ae R,ae f,ae t,ae 0,ae i] 163)).drew:=((ax.refl _ _).alloc _).drew;obtain⟨a5,-⟩:=cu O am (fun h=>h);obtain⟨B,-⟩:=cu O aZ (fun h=>h);refine al _ _ (fun _ _=>⟨⟨_,(a5 1).trans Z,(a5 2).trans ab,(B 0).trans av,(B 1).trans aw,(B 2).trans ay,(B 3).trans aE,(B 4).trans aF,(B 5).trans aL,(B 6).trans aN⟩,rfl⟩) ?_;refine aC 8 rfl fun K al=>?_;refine bC SV base (aR (S:=fun _=>False) J.o O (fun _ _ h=>h)) [.int .u8 k,.int .i64 L,.int .i64 R,.int .i64 f,.int .i64 t,.int .i64 0,.int .i64 i] rfl (by simp[Value.oneCell']) rfl (.tmp 40) (.tmp 42) rfl rfl w6.heap.size rfl (jr _ _) dJ aa aH ?_;intro v F Y bL bK aV cj;have s:ax (fun k=>(Value.slice g m nc).ownBlock=some k) w6 Y:=(O.mono (fun _ h=>h.elim)).grown bK (fun k bQ=>.inl bQ);have⟨P,bx⟩:=cu s am (fun e=>(M.o _ e).2.1 rfl);obtain⟨z,-⟩:=cu s aZ (fun e=>(M.o _ e).2.2 rfl);refine al _ _ (fun _ _=>⟨⟨_,(P 1).trans Z,(P 2).trans ab,(z 0).trans av,(z 1).trans aw,(z 2).trans ay,(z 3).trans aE,(z 4).trans aF,(z 5).trans aL,(z 6).trans aN⟩,rfl⟩) ?_;have bb:=aR (S:=fun k=>(Value.slice g m nc).ownBlock=some k) N.o s (fun d e u=>aP.o d u e);have bN:base<=Y.heap.size:=by have:=s.size;omega
 have a0:b<Y.heap.size:=by have:=s.size;omega
 have aU:∀o,Y.frozen? (af b o)=false:=fun o=>(bx o).trans (bG o);refine aG [14,15,16,17,18,19,20] ?_;have bt:=bo.o _ bb bN;have bv:=(P 1).trans Z;have bw:=(P 2).trans ab
 go_wp2_with (go_at_call 320;refine bt.mono ?_;rintro e wp ⟨cB,rfl,aX,aW,Q⟩;obtain⟨D,E,rfl⟩:=fI aX;obtain⟨aq,ar⟩:=cu Q a0 (fun e=>(I.o _ e).2.1 rfl);have cz:=(aq 1).trans bv;have cA:=(aq 2).trans bw;have f1:=(ar 1).trans (aU 1);have f2:=(ar 2).trans (aU 2);clear aq ar)
 have br:ax (kJ b (.slice g m nc) c) w6 wp:=(s.mono (fun k h=>.inr (.inl h))).trans (Q.mono (fun k h=>.inr (.inr h)));have bs:ax (kJ b (.slice g m nc) c) w ((wp.setCell (af b 1) (aA v (m+1) F)).setCell (af b 2) (.slice D (m+1) E)):=
  ((((ax.refl (kJ b (.slice g m nc) c) w).below bM.o).trans br).set (a:=(af b 1)) _ (.inl (.inl rfl))).set (a:=(af b 2)) _ (.inl (.inl rfl))
 have a1:v≠b/\c.ownBlock≠some v:=by
  rcases aV with h9|h9
  .exact⟨(M.o _ h9).2.1,fun e=>aP.o _ h9 e⟩
  .simp at h9;exact⟨aa,fun e=>by have:=(I.o _ e).1;omega⟩
 have bP:∀d,(Value.slice D (m+1) E).ownBlock=some d->d≠b:=fun d e=>by
  rcases aW with h9|⟨ad,h9,bJ⟩
  .exact(I.o _ (h9.symm.trans e)).2.1
  .have:ad=d:=by rw[h9]at e;injection e
   omega
 have cp:=s.size;go_ret2;refine⟨rfl,aA v (m+1) F,.slice D (m+1) E,⟨?_,?_,?_,?_⟩,?_,bs⟩
 .have bO:wp.heap[b]? =some (.cells #[ae r,.slice g m nc,c,.bool true] 372 (0,0)):=(Q.block b a0 (fun e=>(I.o _ e).2.1 rfl)).trans ((s.block b am (fun e=>(M.o _ e).2.1 rfl)).trans H.o);have b0:=di wp b 1 _ _ (aA v (m+1) F) bO;have b1:=di _ b 2 _ _ (.slice D (m+1) E) b0;exact b1
 .have bI:=aR (S:=fun k=>c.ownBlock=some k) bL Q (fun d e u=>by injection e with e;subst e;exact a1.2 u);have ak:=aR (S:=fun k=>k=b) bI (((ax.refl (fun k=>k=b) wp).set (a:=(af b 1)) (aA v (m+1) F) (.inl rfl)).set (a:=(af b 2)) (.slice D (m+1) E) (.inl rfl)) (fun d e u=>by injection e with e;subst e;exact a1.1 u);rw[bS,gX,ac.o];exact ak
 .have ak:=aR (S:=fun k=>k=b) aX (((ax.refl (fun k=>k=b) wp).set (a:=(af b 1)) (aA v (m+1) F) (.inl rfl)).set (a:=(af b 2)) (.slice D (m+1) E) (.inl rfl)) bP;rw[bS,ac.o];exact ak
 .simp[ac.o,bh.o]
 .rintro q (rfl|e|e)
  .exact .inl (.inl rfl)
  .have e:v=q:=by injection e
   subst e;rcases aV with h9|h9
   .exact .inl (.inr (.inl h9))
   .simp at h9;exact .inr aa
  .rcases aW with h9|⟨ad,h9,bJ⟩
   .exact .inl (.inr (.inr (h9.symm.trans e)))
   .have:ad=q:=by rw[h9]at e;injection e
    exact .inr aa
end
section
open Go.RowKit Go.Sort Go.Shelf Go.Lib Go.Maps
theorem CZ (f t a:Int) (d b base:Nat) (g i:Value) (c:List Bool) (l:List Nd) (w:World) (m:l.length<d) (n:d<=100000) (h:gM w b base d g i l c) (k:base<=w.heap.size):
  aK 291 #[aj b,Bp 1 (-1) (-1) f t a] w fun e w'=>e=.returned (.tuple #[ae l.length,ae 0])/\qY w b base d g i (l++[⟨1,-1,-1,f,t,a⟩]) (c++[false]) w':=by
 obtain⟨p,q,rfl⟩:=fI h.row;exact wL 1 (-1) (-1) f t a d b base l.length g _ c c l w rfl m n h.len h k (fun W _=>Tf f t a _ rfl W) (fun W o j=>SY 1 f t a p l.length q base c W h.len aa o j)
theorem C8 (f t d:Int) (i j:Nat) (u:i≠j) (k b base:Nat) (o q:Value) (a:List Bool) (l:List Nd) (w:World) (v:l.length<k) (x:k<=100000) (hi:a[i]? =some false) (p:a[j]? =some false) (h:gM w b base k o q l a) (s:base<=w.heap.size):
  aK 291 #[aj b,Bp 2 i j f t d] w fun e w'=>e=.returned (.tuple #[ae l.length,ae 0])/\qY w b base k o q (l++[⟨2,i,j,f,t,d⟩]) ((a.set i true).set j true++[false]) w':=by
 have y:=(fH.1 hi).1;have z:=(fH.1 p).1;have m:=h.len;obtain⟨g,c,rfl,_,_,_,_⟩:=aV h.row aa;exact wL 2 i j f t d k b base l.length o _ a ((a.set i true).set j true) l w rfl v x (by simp[m]) h s (fun W n=>QK f t d i j u g l.length c base a W m aa hi p n) (fun W n r=>QH 2 f t d i j g l.length c base a W m aa aa aa n r)
def ET (n:Nat):List Bool:=List.replicate (2*n-2) true++[false]
theorem Ob (b:List Bool) (a c:Nat) (f:0<a) (g:0<c):
  (((b++ET a)++ET c).set (b.length+(2*a-2)) true).set (b.length+(2*a-1)+(2*c-2)) true++[false]=b++ET (a+c):=by
 unfold ET;have d:∀(A:List Bool) (k:Nat),(A++(List.replicate k true++[false])).set (A.length+k) true=A++List.replicate (k+1) true:=fun A k=>by
  rw[<-ed,uu _ _ ay,bS,iA,iR,ed,rA];rfl
 have e:=d (b++List.replicate (2*a-2+1) true) (2*c-2);rw[show(b++List.replicate (2*a-2+1) true).length+(2*c-2)=b.length+(2*a-1)+(2*c-2) by simp;omega]at e;rw[List.set_append_left _ _ ay,d b (2*a-2),e,ed,ed];congr 1;rw[<-ed,List.replicate_append_replicate];congr 2;omega
theorem Oc (b:List Bool) (a c:Nat) (d:0<a):((b++ET a)++ET c)[b.length+(2*a-2)]? =some false:=by
 unfold ET;rw[lW ay,nD ay,nD ay];simp
theorem L9 (c:List Bool) (a b:Nat) (d:0<a) (e:0<b):((c++ET a)++ET b)[c.length+(2*a-1)+(2*b-2)]? =some false:=by
 unfold ET;rw[nD aH,nD aH];rw[show c.length+(2*a-1)+(2*b-2)-(c++(List.replicate (2*a-2) true++[false])).length-(List.replicate (2*b-2) true).length=0 by simp;omega];rfl
theorem Ma (n:Nat):∀(a c j b base:Nat) (i g:Value) (l:List Nd) (p:List Bool) (w:World),c=a+n->0<n->l.length+(2*n-1)<=j->j<=100000->c<=50000->gM w b base j i g l p->base<=w.heap.size->
  aK 232 #[aj b,ae a,ae c] w fun e w'=>e=.returned (ae ((l.length+(2*n-2):Nat):Int))/\qY w b base j i g (l++(dP a n).nodes l.length) (p++ET n) w':=by
 induction n using Nat.strongRecOn with
 |ind n ih=>
 intro a c j b base i g l p w aq aT ar K aR hP a3;have a2:=hP.lt b (.inl rfl);by_cases am:n=1
 .subst am;subst aq;have x:=ag (fun W (h:gM W b base j i g l p) (D:base<=W.heap.size)=>CZ (a:Int) ((a+1:Nat):Int) (a:Int) j b base i g p l W aa K h D);have A:=ag hP;have d1:decide (((a+1:Nat):Int)-(a:Int)>1)=false:=aH;have d2:decide ((1:Int)<((a+1:Nat):Int)-(a:Int))=false:=aH;have B:(dP a 1).nodes l.length=[⟨1,-1,-1,a,((a+1:Nat):Int),a⟩]:=by rw[zZ a 1 aa];simp[FT.nodes]
  rw[B];clear B hP ih ar;generalize aS:a+1=c at*;have a4:c<=50000/\a<c:=aa;clear aS;go_enter func232,ntmps232
  go_wp2_with fail
  refine(x.o _ (A.o.kept ((ax.refl (fun _=>False) w).alloc _) (fun _ _ h=>h)) aH).mono ?_;rintro e w1 ⟨rfl,C⟩;have E:=ag C;clear C;go_wp2;go_ret;refine⟨rfl,?_⟩;exact qY.trans (fun k h=>.inl h) ((ax.refl _ w).alloc _) E.o
 .obtain⟨d,au⟩:∃d,d=n-n/2:=⟨_,rfl⟩;obtain⟨f,av⟩:∃f,f=n/2:=⟨_,rfl⟩;obtain⟨m,X⟩:∃m,m=a+d:=⟨_,rfl⟩;have B:(dP a n).nodes l.length=(dP a d).nodes l.length++(dP m f).nodes (l.length+(2*d-1))++[⟨2,((l.length+(2*d-2):Nat):Int),((l.length+(2*d-1)+(2*f-2):Nat):Int),a,c,0⟩]:=by
   rw[EH a n aa,FT.nodes,<-au,<-av,<-X,fA a d aa,fA m f aa,(bJ a d aa).2.1,(bJ m f aa).2.2];congr 3
   .omega
   .omega
   .omega
  rw[B,show n=d+f by omega];clear B;obtain⟨r,H⟩:∃r,r=l.length+(2*d-2):=⟨_,rfl⟩;obtain⟨q,I⟩:∃q,q=l.length+(2*d-1)+(2*f-2):=⟨_,rfl⟩;have aI:Hid (∀W,gM W b base j i g l p->base<=W.heap.size->aK 232 #[aj b,ae a,ae m] W fun e w'=>e=.returned (ae r)/\qY W b base j i g (l++(dP a d).nodes l.length) (p++ET d) w'):=
   fun W h D=>(ih d aa a m j b base i g l p W X aa aa K aa h D).mono fun e w' ⟨T,Y⟩=>⟨by rw[T,H],Y⟩
  have aL:Hid (∀W i g u L,u.length=l.length+(2*d-1)->gM W b base j i g u L->base<=W.heap.size->aK 232 #[aj b,ae m,ae c] W fun e w'=>e=.returned (ae q)/\qY W b base j i g (u++(dP m f).nodes u.length) (L++ET f) w'):=
   fun W i g u L aN h D=>(ih f aa m c j b base i g u L W aa aa aa K aR h D).mono fun e w' ⟨T,Y⟩=>⟨by rw[T,I,aN],Y⟩
  have z:Hid (r=l.length+(2*d-2)/\q=l.length+(2*d-1)+(2*f-2)):=⟨H,I⟩;rw[<-H,<-I];clear H I;have A:=ag hP;have a5:(c:Int)-((c:Int)-(a:Int))/2=(m:Int):=aa;have a1:(a:Int)<c/\(c:Int)<=50000:=aa;have s:0<d/\0<f:=aa;have d1:decide ((c:Int)-(a:Int)>1)=true:=aH;have d2:decide ((1:Int)<(c:Int)-(a:Int))=true:=aH;have aB:Hid (l.length+(2*(d+f)-1)<=j):=(show l.length+(2*(d+f)-1)<=j by omega);clear ih hP aq aT ar am au av X;go_enter func232,ntmps232
  go_wp2_with fail
  obtain⟨v,t⟩:∃v,v=w.alloc (.cells #[.int .u8 2,ae (-1),ae (-1),ae a,ae c,ae 0,ae 0] 163):=⟨_,rfl⟩;rw[<-t];have aJ:Hid (gM v b base j i g l p):=by rw[t];exact A.o.kept ((ax.refl (fun _=>False) w).alloc _) (fun _ _ h=>h)
  have ap:v.heap[w.heap.size]? =some (.cells #[.int .u8 2,ae (-1),ae (-1),ae a,ae c,ae 0,ae 0] 163 (0,0)):=by rw[t];exact bW w _
  have aG:Hid (ax (kJ b i g) w v):=by rw[t];exact(ax.refl _ w).alloc _
  have aP:w.heap.size<v.heap.size:=by rw[t];simp
  have an:∀k,kJ b i g k->k<w.heap.size:=A.o.lt;have ah:=ag an;clear t an;refine(aI.o _ aJ.o aa).mono ?_;rintro e w1 ⟨rfl,aA,az,ac,aw,F⟩;have R:Hid (w1.heap[w.heap.size]? =some (.cells #[.int .u8 2,ae (-1),ae (-1),ae a,ae c,ae 0,ae 0] 163 (0,0))):=(F.block _ aP (fun h=>by have:=ah.o _ h;omega)).trans ap;have a7:=F.size;have aC:=ag ac;have P:=ag aw;have aE:=ag F;have u1:w1.cell? (af w.heap.size 1)=some (ae (-1)):=by have h9:=R.o;simp[World.cell?,h9]
  have v1:w1.frozen? (af w.heap.size 1)=false:=by have h9:=R.o;simp[World.frozen?,h9]
  clear ac aw F ap
  go_wp2_with fail
  have ak:=ag (di w1 w.heap.size 1 _ _ (.int .i64 (r:Int)) R.o);have N:Hid (ax (fun k=>k=w.heap.size) w1 (w1.setCell (af w.heap.size 1) (.int .i64 (r:Int)))):=(ax.refl _ w1).set (a:=(af w.heap.size 1)) _ (.inl rfl);simp only[zq,nU,oF]at ak;generalize w1.setCell (af w.heap.size 1) (.int .i64 (r:Int))=w2 at*;have ao:∀k,kJ b aA az k->k≠w.heap.size:=fun k h e=>by
   rcases P.o k h with h9|h9
   .have:=ah.o _ h9;omega
   .omega
  have Q:=ag ao;have a8:=N.o.size;clear ao u1 v1;refine(aL.o w2 aA az _ _ (by rw[bS,FT.iF,fA a d s.1]) (aC.o.kept N.o (fun k h e=>Q.o k h e)) aa).mono ?_;rintro e w3 ⟨rfl,ab,Z,ad,ay,G⟩;have aQ:w.heap.size<w2.heap.size:=aa;have S:Hid (w3.heap[w.heap.size]? =some (.cells #[.int .u8 2,ae r,ae (-1),ae a,ae c,ae 0,ae 0] 163 (0,0))):=(G.block _ aQ (fun h=>Q.o _ h rfl)).trans ak.o;have a9:=G.size;have aD:=ag ad;have ai:=ag ay;have aF:=ag G;have u3:w3.cell? (af w.heap.size 2)=some (ae (-1)):=by have h9:=S.o;simp[World.cell?,h9]
  have bb:w3.frozen? (af w.heap.size 2)=false:=by have h9:=S.o;simp[World.frozen?,h9]
  clear ad ay G;have a0:Hid (w3.setCell (af w.heap.size 2) (.int .i64 q)=w3.setCell (af w.heap.size 2) (.int .i64 q)):=rfl;have al:=ag (di w3 w.heap.size 2 _ _ (.int .i64 (q:Int)) S.o);have O:Hid (ax (fun k=>k=w.heap.size) w3 (w3.setCell (af w.heap.size 2) (.int .i64 (q:Int)))):=(ax.refl _ w3).set (a:=(af w.heap.size 2)) _ (.inl rfl);simp only[zq,nU,oF]at al;have y:(∀o,o<7->(w3.setCell (af w.heap.size 2) (.int .i64 (q:Int))).cell? (af w.heap.size o)=[Value.int .u8 2,.int .i64 r,.int .i64 q,.int .i64 a,.int .i64 c,.int .i64 0,.int .i64 0][o]?):=fun o a6=>by have h9:=al.o;simp[World.cell?,h9]
  have aV:=y 0 aa;have y1:=y 1 aa;have y2:=y 2 aa;have aW:=y 3 aa;have aX:=y 4 aa;have aY:=y 5 aa;have aZ:=y 6 aa;simp only[fZ,dC]at aV y1 y2 aW aX aY aZ;clear y
  go_wp2_with fail
  generalize w3.setCell (af w.heap.size 2) (.int .i64 (q:Int))=w4 at*;have aO:∀k,kJ b ab Z k->k≠w.heap.size:=fun k h e=>by
   rcases ai.o k h with h9|h9
   .exact Q.o k h9 e
   .omega
  have ba:=O.o.size;have M:=aD.o.kept O.o (fun k h e=>aO k h e);have U:(l++(dP a d).nodes l.length).length=l.length+(2*d-1):=by rw[bS,FT.iF,fA a d s.1]
  have V:((l++(dP a d).nodes l.length)++(dP m f).nodes (l.length+(2*d-1))).length=l.length+(2*(d+f)-2):=by rw[bS,U,FT.iF,fA m f s.2];omega
  rw[U]at M;have J:=A.o.len;have x:=C8 (a:Int) c 0 r q (by have:=z.o;omega) j b base ab Z _ _ w4 (by rw[V];have:=aB.o;omega) K (by rw[z.o.1,<-J];exact Oc p d f s.1) (by rw[z.o.2,<-J];exact L9 p d f s.1 s.2) M aa;rw[V,show((p++ET d++ET f).set r true).set q true++[false]=p++ET (d+f) by rw[z.o.1,z.o.2,<-J];exact Ob p d f s.1 s.2]at x;refine x.mono ?_;rintro e bc ⟨rfl,C⟩;have E:=ag C;clear C x M V U J;go_wp2;go_ret;refine⟨by rw[vo];rfl,?_⟩;rw[ed,ed]at E;rw[ed];have aU:∀k,kJ b ab Z k->kJ b i g k\/w.heap.size<=k:=fun k h=>by
   rcases ai.o k h with h9|h9
   .rcases P.o k h9 with h8|h8
    .exact .inl h8
    .exact .inr aa
   .exact .inr aa
  refine qY.trans aU ?_ E.o;have aM:ax (fun k=>kJ b i g k\/w.heap.size<=k) w w4:=
   (((aG.o.mono (fun k h=>.inl h)).trans (aE.o.mono (fun k h=>.inl h))).trans (N.o.mono (fun k h=>.inr aa))).trans ((aF.o.mono (fun k h=>by
    rcases P.o k h with h8|h8
    .exact .inl h8
    .exact .inr aa)).trans (O.o.mono (fun k h=>.inr aa)))
  exact aM.strip
end
section
open Go.RowKit
theorem wM (w:World):(callFunc 335 #[]).run prog w=.ok (.value (.tuple #[])) w:=run_call_mark0 func335 aM aM aM .disable aM w
theorem zw (w:World):(callFunc 337 #[]).run prog w=.ok (.value (.tuple #[])) w:=run_call_mark0 func337 aM aM aM .enable aM w
theorem EU (a:Addr) (w:World):(callFunc 338 #[.pointer (some a)]).run prog w=.ok (.value (.tuple #[])) w:=run_call_marked func338 aM aM aM .acquire aM a w
theorem Jj (a:Addr) (w:World):(callFunc 340 #[.pointer (some a)]).run prog w=.ok (.value (.tuple #[])) w:=run_call_marked func340 aM aM aM .releaseMerge aM a w
theorem Jk (a:Addr) (x:Value) (u:FrameMode) (w:World) (f:w.cell? a=some x) (h:w.frozen? a=false):
  CallsD prog 284 #[.pointer (some a),.bool true] u w fun e d w'=>d=u/\(e=.returned (.tuple #[])/\w'=w.drew.setCell a (.int .u32 1)):=by
 have b:w.drew.cell? a=some x:=by go_simp
 have c:w.drew.frozen? a=false:=by go_simp
 have g:=run_call_store (P:=prog) func316 aM aM aM aM (k:=.u32) (y:=1) b c
 go_enter_d func284,ntmps284
 go_wp2
 go_region_calls
 all_goals(go_end0;exact⟨rfl,rfl⟩)
theorem Gr (a:Addr) (u:FrameMode) (w:World) (b:w.cell? a=some (.int .i32 1)) (c:w.frozen? a=false):
  CallsD prog 283 #[.pointer (some a)] u w fun e d w'=>d=u/\(e=.returned (.tuple #[])/\w'=w.setCell a (.int .i32 0)):=by
 have f:=run_call_add (P:=prog) func341 aM aM aM .i32 aM (y:=-1) (s:=0) b c (by simp[go_sem];rfl);have hd:=wM;have h:=zw;have i:=Jj;have g:=run_convert_to_unsafe (P:=prog) (src:=405) (dst:=409) underlying405 underlying409 aM b
 go_enter_d func283,ntmps283
 go_wp2
 go_end0
 go_wp2
 go_end0
 exact⟨rfl,rfl⟩
theorem Mc (a:Addr) (w:World) (b:w.cell? a=some (.int .i32 0)) (d:w.frozen? a=false):
  aK 282 #[.pointer (some a)] w fun e w'=>e=.returned (.tuple #[])/\w'=w.setCell a (.int .i32 1):=by
 have g:=run_call_cas_hit (P:=prog) func336 aM aM aM .i32 aM (y:=1) b d;have c:(w.setCell a (.int .i32 1)).cell? a=some (.int .i32 1):=Am w a _ b;have hd:=wM;have i:=zw;have f:=EU;have h:=run_convert_to_unsafe (P:=prog) (src:=405) (dst:=409) underlying405 underlying409 aM c;go_enter func282,ntmps282;go_wp2
 first|go_end0|(simp only[Exit.inBlock,Exit.then];refine lq (kN rfl _ _ _) rfl ?_)|refine lq (kN rfl _ _ _) rfl ?_
 go_wp2
 go_end0
 exact⟨rfl,rfl⟩
def Sn (R:World->Prop) (b off:Nat) (e:Ending) (w':World):Prop:=
 e=.returned (.tuple #[])/\R w'/\w'.cell? (af b off)=some (ak 0)/\w'.cell? (af b (off+1))=some (.int .i32 1)/\w'.frozen? (af b off)=false/\w'.frozen? (af b (off+1))=false
def Od (R:World->Prop) (b off:Nat) (e:Ending) (w':World):Prop:=
 e=.returned (.tuple #[])/\∃w1,R w1/\w'=(w1.drew.setCell (af b off) (.int .u32 1)).setCell (af b (off+1)) (.int .i32 0)
theorem Jl {R:World->Prop} {fn:Nat} (r:∀args w,(callFunc fn args).run prog w=.ok (.enter fn args) w) (b off:Nat) (cv:Value) (w:World) (h:w.cell? (af b off)=some (ak 0)) (i:w.cell? (af b (off+1))=some (.int .i32 0)) (f0:w.frozen? (af b off)=false) (f1:w.frozen? (af b (off+1))=false)
  (C:aK fn #[cv] (w.setCell (af b (off+1)) (.int .i32 1)) (Sn R b off)):
  aK 217 #[.pointer (some (af b off)),.func (.func fn) #[] #[cv]] w (Od R b off):=by
 have s:=run_call_load (P:=prog) func281 aM aM aM .u32 aM (w:=w.setCell (af b (off+1)) (.int .i32 1)) (a:=(af b off)) (x:=0) ((xN _ (af b (off+1)) (af b off) _ ay).trans h);have c:=ag C;have g:=ag (Mc (af b (off+1)) w i f1)
 go_enter_defers func217,ntmps217
 go_wp2_with (first|(go_at_call 282;refine g.o.mono ?_;rintro e w' ⟨rfl,rfl⟩)|(refine c.o.mono ?_;rintro e w1 ⟨rfl,j,k,l,p,q⟩)|(go_at_call 216;go_in))
 refine leaves_cons (f:=284) (args:=#[.pointer (some (af b off)),.bool true]) ay (by simp[go_sem]) ?_;refine(Jk (af b off) (.int .u32 0) .returning w1 k p).mono ?_;rintro e m n ⟨rfl,rfl,rfl⟩;refine leaves_cons (f:=283) (args:=#[.pointer (some (af b (off+1)))]) (by simp[settle]) (by simp[go_sem]) ?_;refine(Gr (af b (off+1)) _ _ ?_ (by simp[q])).mono ?_
 .refine(xN _ (af b off) (af b (off+1)) _ ay).trans ?_;rw[World.cell?_drew];exact l
 rintro e m n ⟨rfl,rfl,rfl⟩;have d:Od R b off (.returned (.tuple #[])) ((w1.drew.setCell (af b off) (.int .u32 1)).setCell (af b (off+1)) (.int .i32 0)):=⟨rfl,w1,j,rfl⟩;simp[Leaves,settle,results,Tryz.results217];exact d
theorem zx {R:World->Prop} {fn:Nat} (f:∀args w,(callFunc fn args).run prog w=.ok (.enter fn args) w) (b off:Nat) (cv:Value) (w:World) (a:w.cell? (af b off)=some (ak 0)) (g:w.cell? (af b (off+1))=some (.int .i32 0)) (f0:w.frozen? (af b off)=false) (f1:w.frozen? (af b (off+1))=false)
  (C:aK fn #[cv] (w.setCell (af b (off+1)) (.int .i32 1)) (Sn R b off)):
  aK 146 #[.pointer (some (af b off)),.func (.func fn) #[] #[cv]] w (Od R b off):=by
 have h:=run_call_load (P:=prog) func281 aM aM aM .u32 aM a;have d:=ag (Jl f b off cv w a g f0 f1 C);go_enter func146,ntmps146
 go_wp2_with (first|(go_at_call 217;refine d.o.mono ?_;rintro e w' ⟨rfl,HO⟩;have c:=ag HO;clear HO)|(go_at_call 216;go_in))
 go_end0
 exact⟨rfl,c.o⟩
theorem DN (a:Addr) (b:Value) (w:World) (c:w.cell? a=some (ak 1)):
  aK 146 #[.pointer (some a),b] w fun e w'=>e=.returned (.tuple #[])/\w'=w:=by
 have d:=run_call_load (P:=prog) func281 aM aM aM .u32 aM c;go_enter func146,ntmps146;go_wp2
 go_end0
 exact⟨rfl,rfl⟩
end
section
open Go.RowKit Go.Sort Go.Shelf Go.Lib Go.Maps
attribute [local irreducible] wpQuiet
attribute [local go_sem] Oper.fB
theorem Oe {g n c a:Nat} (e:(aA g n c).ownBlock=some a):g=a:=by injection e
def aX (n:Nat):List Nd:=if n=0 then[]else(dP 0 n).nodes 0
theorem dh (n:Nat):(aX n).length=2*n-1:=by
 unfold aX;split
 .subst n;rfl
 .rw[FT.iF,fA 0 n aa]
abbrev lG (d m:Int) (nv:Value) (n:Nat):Obj:=.cells #[ak d,.int .i32 m,ak 0,nv,ae n,.bool true] 236 (0,0)
theorem yF (n:Nat) (a:n<=100000) (w:World):
  aK 90 #[ae n] w fun e w'=>e=.returned (.tuple #[aj w.heap.size,ae 0])/\w'=w.alloc (lG 0 0 (aL) n):=by
 refine calls_of_wp func90 rfl ?_;simp only[ntmps90,qR,eu,fF,Nat.reduceAdd,Nat.reduceSub,qK,qL,qU,qN,fQ,mM];go_wp2;go_ret2;exact⟨rfl,rfl⟩
theorem uB:eY 233:=bO func233 aM rfl
def UL (w:World) (fb n:Nat) (e:Ending) (w':World):Prop:=
 e=.returned (.tuple #[])/\∃nv,w'.ownsRow w.heap.size 163 7 nv (aX n).length ((aX n).flatMap oM)/\w'.heap[fb]? =some (lG 0 1 nv n)/\ax (fun k=>k=fb) w w'
theorem Jm (fb cb n:Nat) (aE:n<=40000) (w:World) (E:w.cell? (af cb 0)=some (aj fb)) (A:w.heap[fb]? =some (lG 0 1 (aL) n)) (aF:cb≠fb):
  aK 230 #[aj cb] w (UL w fb n):=by
 have z:cb<w.heap.size:=gW w _ E;have F:fb<w.heap.size:=(aY.1 A).1;have f4:w.cell? (af fb 4)=some (ae n):=aD A;obtain⟨M,ad⟩:∃M,M=2*n:=⟨_,rfl⟩;have aA:(2:Int)*(n:Int)=(M:Int):=aa;have C:=Oa M aa w;have V:=ag A;have q:Hid (gM (w.alloc (.cells #[ae M,aL,aL,.bool true] 372)) w.heap.size w.heap.size M (aL) (aL) [] []):=
  ⟨bW _ _,dx _ _ _ _,dx _ _ _ _,rfl⟩
 have g:Below w.heap.size w (w.alloc (.cells #[ae M,aL,aL,.bool true] 372)):=(aI _ _).alloc (aB _) _;have s:∀(w1:World) f t ak,gM w1 w.heap.size w.heap.size M f t (aX n) ak->Below w.heap.size w w1->aK 233 #[aj w.heap.size] w1 fun e w'=>∃v,e=.returned v/\w'.ownsRow w1.heap.size 163 7 v (aX n).length ((aX n).flatMap oM)/\Below w1.heap.size w1 w':=fun w1 f t ak h ah=>by
  obtain⟨T,nc,rfl,-,-,ar⟩:=bY.aJ jA ai h.jg;exact Ji M w.heap.size T nc t (aX n) w1 h.blk ar (by rw[dh];omega)
 by_cases D:n=0
 .have an:Hid (aX n=[]):=by show aX n=[];rw[D];rfl
  have s:=ag s;have y:=(g.cell (p:=(af cb 0)) z).trans E;have Z:=(g.cell (p:=(af fb 4)) F).trans f4;have H:=ag g;have d1:decide ((n:Int)>0)=false:=aH;have d2:decide ((0:Int)<(n:Int))=false:=aH;have d3:decide (0<n)=false:=aH;clear A ad g D;go_enter func230,ntmps230
  go_wp2_with fail
  with_reducible refine C.mono ?_
  rintro e w1 ⟨rfl,rfl⟩;clear C
  go_wp2_with fail
  have L:Hid (gM (w.alloc (.cells #[ae M,aL,aL,.bool true] 372)).drew w.heap.size w.heap.size M (aL) (aL) (aX n) []):=by rw[an.o];exact⟨q.o.blk,q.o.jg,q.o.row,rfl⟩
  have c:Hid (Below w.heap.size w (w.alloc (.cells #[ae M,aL,aL,.bool true] 372))):=H;have G:Hid (∀w1,gM w1 w.heap.size w.heap.size M (aL) (aL) (aX n) []->Below w.heap.size w w1->aK 233 #[aj w.heap.size] w1 fun e w'=>∃v,e=.returned v/\w'.ownsRow w1.heap.size 163 7 v (aX n).length ((aX n).flatMap oM)/\Below w1.heap.size w1 w'):=fun w1 O P=>s.o w1 _ _ _ O P;clear q s;generalize(w.alloc (.cells #[ae M,aL,aL,.bool true] 372))=b at*;have u:Hid ((fun W:World=>W.cell? (af cb 0)=some (aj fb)) b.drew):=y;have am:∀p:iD (fun W:World=>W.cell? (af cb 0)=some (aj fb)),p.W.cell? (af cb 0)=some (aj fb):=fun p=>p.h;refine au (fun W=>∃p:iD (fun W:World=>W.cell? (af cb 0)=some (aj fb)),W=p.W) [3,4,5,6] [(0,true),(1,false)] ⟨⟨_,u.o⟩,rfl⟩ 5 ?_;refine aC 2 rfl fun K i=>?_;refine aT uB rfl _ _ rfl (vals:=#[aj w.heap.size]) rfl (G.o b.drew L.o (c.o.trans (Below.bu _ 1))) ?_;rintro e w2 ⟨f,rfl,m,l⟩;refine⟨f,rfl,?_⟩;obtain⟨T,nc,rfl⟩:=fI m;have R:w2.cell? (af cb 0)=some (aj fb):=(l.cell (p:=(af cb 0)) (by have:=c.o.size;exact bX z this)).trans u.o;refine i _ _ (fun _ _=>⟨⟨_,R⟩,rfl⟩) ?_;clear i K;refine aG [3,4,5,6] ?_;have j:Below w.heap.size w w2:=(c.o.trans (Below.bu _ 1)).trans (l.mono c.o.size);have d:w2.heap[fb]? =some (lG 0 1 (aL) n):=(j.block fb F).trans V.o;have aw:w2.cell? (af fb 3)=some (aL):=aD d;have az:w2.frozen? (af fb 3)=false:=aD d;have J:=ag d;have x:=ag m;have B:w.heap.size<=b.heap.size:=c.o.size;have I:=ag j;clear d m l j;go_wp2
  first|go_end0|go_ret
  refine⟨rfl,_,aR (S:=fun k=>k=fb) (bI x.o B) ((ax.refl _ w2).set (a:=(af fb 3)) _ (.inl rfl)) (fun N e al=>by have Q:=(x.o.lt N e).1;have ao:w.heap.size<=b.drew.heap.size:=B;omega),?_,?_⟩
  .exact di w2 fb 3 _ _ _ J.o
  .exact((ax.refl (fun k=>k=fb) w).below I.o).set (a:=(af fb 3)) _ (.inl rfl)
 .have U:=ag s;have y:=(g.cell (p:=(af cb 0)) z).trans E;have Z:=(g.cell (p:=(af fb 4)) F).trans f4;have H:=ag g;have d1:decide ((n:Int)>0)=true:=aH;have d2:decide ((0:Int)<(n:Int))=true:=aH;have d3:decide (0<n)=true:=aH;have Y:aX n=[]++(dP 0 n).nodes ([]:List Nd).length:=by unfold aX;rw[aN D];rfl
  have X:Hid (∀W,gM W w.heap.size w.heap.size M (aL) (aL) [] []->w.heap.size<=W.heap.size->aK 232 #[aj w.heap.size,ae 0,ae n] W fun e w'=>(∃r,e=.returned (ae r))/\qY W w.heap.size w.heap.size M (aL) (aL) (aX n) ([]++ET n) w'):=
   fun W h ah=>(Ma n 0 n M w.heap.size w.heap.size _ _ [] [] W aa aa aH aa aa h ah).mono fun e w' ⟨ap,aq⟩=>⟨⟨_,ap⟩,by rw[Y];exact aq⟩
  clear s A ad g D Y;go_enter func230,ntmps230
  go_wp2_with fail
  with_reducible refine C.mono ?_
  rintro e w1 ⟨rfl,rfl⟩;clear C
  go_wp2_with fail
  with_reducible refine(X.o _ q.o ay).mono ?_
  rintro e b ⟨⟨r,rfl⟩,f,t,ab,av,i⟩;have ac:ax (fun _=>False) w b:=by
   have Q:ax (fun k=>False\/w.heap.size<=k) w b:=((ax.refl (fun k=>False\/w.heap.size<=k) w).alloc _).trans (i.mono (fun k h=>by
    rcases h with h|h|h
    .exact .inr aa
    .cases h
    .cases h))
   exact Q.strip
  have c:Hid (Below w.heap.size w b):=ac.toBelow (aB _) (fun _ h=>h.elim);have G:Hid (∀w1,gM w1 w.heap.size w.heap.size M f t (aX n) ([]++ET n)->Below w.heap.size w w1->aK 233 #[aj w.heap.size] w1 fun e w'=>∃v,e=.returned v/\w'.ownsRow w1.heap.size 163 7 v (aX n).length ((aX n).flatMap oM)/\Below w1.heap.size w1 w'):=fun w1 O P=>U.o w1 _ _ _ O P;have L:Hid (gM b.drew w.heap.size w.heap.size M f t (aX n) ([]++ET n)):=ab.kept (ax.refl (fun _=>False) b).drew (fun _ _ h=>h);clear y Z q U X H ab av i ac;have y:=(c.o.cell (p:=(af cb 0)) z).trans E
  go_wp2_with fail
  have u:Hid ((fun W:World=>W.cell? (af cb 0)=some (aj fb)) b.drew):=y;have am:∀p:iD (fun W:World=>W.cell? (af cb 0)=some (aj fb)),p.W.cell? (af cb 0)=some (aj fb):=fun p=>p.h;refine au (fun W=>∃p:iD (fun W:World=>W.cell? (af cb 0)=some (aj fb)),W=p.W) [3,4,5,6] [(0,true),(1,false)] ⟨⟨_,u.o⟩,rfl⟩ 5 ?_;refine aC 2 rfl fun K i=>?_;refine aT uB rfl _ _ rfl (vals:=#[aj w.heap.size]) rfl (G.o b.drew L.o (c.o.trans (Below.bu _ 1))) ?_;rintro e w2 ⟨f,rfl,m,l⟩;refine⟨f,rfl,?_⟩;obtain⟨T,nc,rfl⟩:=fI m;have R:w2.cell? (af cb 0)=some (aj fb):=(l.cell (p:=(af cb 0)) (by have:=c.o.size;exact bX z this)).trans u.o;refine i _ _ (fun _ _=>⟨⟨_,R⟩,rfl⟩) ?_;clear i K;refine aG [3,4,5,6] ?_;have j:Below w.heap.size w w2:=(c.o.trans (Below.bu _ 1)).trans (l.mono c.o.size);have d:w2.heap[fb]? =some (lG 0 1 (aL) n):=(j.block fb F).trans V.o;have aw:w2.cell? (af fb 3)=some (aL):=aD d;have az:w2.frozen? (af fb 3)=false:=aD d;have J:=ag d;have x:=ag m;have B:w.heap.size<=b.heap.size:=c.o.size;have I:=ag j;clear d m l j;go_wp2
  first|go_end0|go_ret
  refine⟨rfl,_,aR (S:=fun k=>k=fb) (bI x.o B) ((ax.refl _ w2).set (a:=(af fb 3)) _ (.inl rfl)) (fun N e al=>by have Q:=(x.o.lt N e).1;have ao:w.heap.size<=b.drew.heap.size:=B;omega),?_,?_⟩
  .exact di w2 fb 3 _ _ _ J.o
  .exact((ax.refl (fun k=>k=fb) w).below I.o).set (a:=(af fb 3)) _ (.inl rfl)
def UM (w:World) (fb n:Nat) (e:Ending) (w':World):Prop:=
 ∃nv,e=.returned nv/\w'.ownsRow w.heap.size 163 7 nv (aX n).length ((aX n).flatMap oM)/\w'.heap[fb]? =some (lG 1 0 nv n)/\ax (fun k=>k=fb) w w'
theorem zQ (fb n:Nat) (D:n<=40000) (w:World) (q:w.heap[fb]? =some (lG 0 0 (aL) n)):
  aK 164 #[aj fb] w (UM w fb n):=by
 have B:fb<w.heap.size:=(aY.1 q).1;obtain⟨w0,h⟩:∃w0,w0=w.alloc (.cells #[aj fb] 137):=⟨_,rfl⟩;have m:Below w.heap.size w w0:=by rw[h];exact(aI _ _).alloc (aB _) _
 have y:w0.cell? (af w.heap.size 0)=some (aj fb):=by rw[h,eF _ _ _ _ rfl];rfl
 have J:w0.heap.size=w.heap.size+1:=by rw[h];simp
 have d:w0.heap[fb]? =some (lG 0 0 (aL) n):=(m.block fb B).trans q;have j:(w0.setCell (af fb 1) (.int .i32 1)).heap[fb]? =some (lG 0 1 (aL) n):=di w0 fb 1 _ _ _ d;have p:(w0.setCell (af fb 1) (.int .i32 1)).cell? (af w.heap.size 0)=some (aj fb):=(dD (aF (by show fb≠w.heap.size;omega))).trans y;have r:=Jm fb w.heap.size n D _ p j aa;have s:=zx (fn:=230) (bO func230 aM rfl) (R:=fun w1=>∃c,w1.ownsRow w.heap.size 163 7 c (aX n).length ((aX n).flatMap oM)/\w1.heap[fb]? =some (lG 0 1 c n)/\ax (fun k=>k=fb) w w1/\w1.cell? (af w.heap.size 0)=some (aj fb)) fb 0 (aj w.heap.size) w0 (aD d) (aD d) (aD d) (aD d)
  (r.mono fun e w1 ⟨A,c,g,f,i⟩=>⟨A,⟨c,bI g aH,f,((ax.refl _ w).below m).trans (((ax.refl (fun k=>k=fb) w0).set (a:=(af fb 1)) _ (.inl rfl)).trans i),((cu i (b:=w.heap.size) aH aa).1 0).trans p⟩,aD f,aD f,aD f,aD f⟩)
 have t:=ag s;go_enter func164,ntmps164
 go_wp2_with fail
 rw[<-h];refine t.o.mono ?_;rintro e w2 ⟨rfl,w1,⟨c,g,j,i,z⟩,rfl⟩;have x:=di w1.drew fb 0 _ _ (.int .u32 1) (show w1.drew.heap[fb]? =_ from j);have l:=di _ fb 1 _ _ (.int .i32 0) x;have C:ax (fun k=>k=fb) w ((w1.drew.setCell (af fb 0) (.int .u32 1)).setCell (af fb 1) (.int .i32 0)):=((i.drew).set (a:=(af fb 0)) _ (.inl rfl)).set (a:=(af fb 1)) _ (.inl rfl);have E:((w1.drew.setCell (af fb 0) (.int .u32 1)).setCell (af fb 1) (.int .i32 0)).ownsRow w.heap.size 163 7 c (aX n).length ((aX n).flatMap oM):=aR (S:=fun k=>k=fb) g ((((ax.refl (fun k=>k=fb) w1).drew).set (a:=(af fb 0)) _ (.inl rfl)).set (a:=(af fb 1)) _ (.inl rfl)) (fun v e F=>by have G:=(g.lt v e).1;omega);have H:((w1.drew.setCell (af fb 0) (.int .u32 1)).setCell (af fb 1) (.int .i32 0)).cell? (af w.heap.size 0)=some (aj fb):=by
  exact(dD (aF (by show fb≠w.heap.size;omega))).trans ((dD (aF (by show fb≠w.heap.size;omega))).trans z)
 have I:((w1.drew.setCell (af fb 0) (.int .u32 1)).setCell (af fb 1) (.int .i32 0)).cell? (af fb 3)=some c:=aD l;have u:Hid (UM w fb n (.returned c) ((w1.drew.setCell (af fb 0) (.int .u32 1)).setCell (af fb 1) (.int .i32 0))):=⟨c,rfl,E,l,C⟩;obtain⟨K,nc,rfl⟩:=fI g;generalize((w1.drew.setCell (af fb 0) (.int .u32 1)).setCell (af fb 1) (.int .i32 0))=L at*;simp only[];go_wp2;go_ret;exact u.o
theorem su (fb n:Nat) (b:Value) (p:∃a c,b=.slice a (aX n).length c) (w:World) (g:w.heap[fb]? =some (lG 1 0 b n)):
  aK 164 #[aj fb] w (fw w b):=by
 have m:fb<w.heap.size:=(aY.1 g).1;obtain⟨w0,d⟩:∃w0,w0=w.alloc (.cells #[aj fb] 137):=⟨_,rfl⟩;have f:Below w.heap.size w w0:=by rw[d];exact(aI _ _).alloc (aB _) _
 have r:w0.cell? (af w.heap.size 0)=some (aj fb):=by rw[d,eF _ _ _ _ rfl];rfl
 have h:w0.heap[fb]? =some (lG 1 0 b n):=(f.block fb m).trans g;have i:=fun l=>DN (af fb 0) l w0 (aD h);have k:=ag i;have q:w0.cell? (af fb 3)=some b:=aD h;have j:=ag f;obtain⟨s,nc,rfl⟩:=p;clear i h f g;go_enter func164,ntmps164
 go_wp2_with fail
 rw[<-d];clear d;refine(k.o _).mono ?_;rintro e w2 ⟨rfl,rfl⟩;go_wp2;go_ret;exact⟨rfl,j.o⟩
theorem qp (fb:Nat) (w:World) (a:w.cell? (af fb 5)=some (.bool true)):
  aK 163 #[aj fb] w fun e w'=>e=.returned (.bool false)/\w'=w:=by
 go_enter func163,ntmps163;go_wp2;go_ret;exact⟨rfl,rfl⟩
theorem EW (fb n:Nat) (w:World) (b:w.cell? (af fb 5)=some (.bool true)) (c:w.cell? (af fb 4)=some (ae n)):
  aK 166 #[aj fb] w fun e w'=>e=.returned (ae n)/\w'=w:=by
 have a:=qp fb w b;go_enter func166,ntmps166
 go_wp2_with (go_at_call 163;refine a.mono ?_;rintro e w' ⟨rfl,rfl⟩)
 go_ret;exact⟨rfl,rfl⟩
theorem jF (fb n:Nat) (d:0<n) (g:n<=100000) (w:World) (c:w.cell? (af fb 5)=some (.bool true)) (b:w.cell? (af fb 4)=some (ae n)):
  aK 95 #[aj fb] w fun e w'=>e=.returned (ae ((2*n-2:Nat):Int))/\w'=w:=by
 have a:=EW fb n w c b;have d0:((n:Int)==0)=false:=aH;have f:(2:Int)*(n:Int)-2=((2*n-2:Nat):Int):=aa;generalize((2*n-2:Nat):Int)=r at*;go_enter func95,ntmps95
 go_wp2_with (go_at_call 166;refine a.mono ?_;rintro e w' ⟨rfl,rfl⟩)
 go_ret;exact⟨rfl,rfl⟩
theorem gJ (fb n:Nat) (F:n<=40000) (w:World) (d:w.heap[fb]? =some (lG 0 0 (aL) n)):
  aK 92 #[aj fb] w fun e w'=>∃j v,e=.returned v/\w'.ownsRow w.heap.size 163 7 j (aX n).length ((aX n).flatMap oM)/\w'.ownsRow w.heap.size 163 7 v (aX n).length ((aX n).flatMap oM)/\w'.heap[fb]? =some (lG 1 0 j n)/\ax (fun k=>k=fb) w w':=by
 have y:w.cell? (af fb 5)=some (.bool true):=aD d;have q:=qp fb w y;have B:fb<w.heap.size:=(aY.1 d).1;have z:(w.alloc (.cells #[] 163)).heap[fb]? =some (lG 0 0 (aL) n):=(bL _ _ _ B).trans d;have p:=ag (zQ fb n F _ z);have I:=AO (e:=163) (size:=7) w #[] 0 (aB _) (bD _) rfl;have HO:=ag I;go_enter func92,ntmps92
 go_wp2_with (go_at_call 163;refine q.mono ?_;rintro e w' ⟨rfl,rfl⟩)
 go_wp2_with fail
 refine p.o.mono ?_;rintro e w2 ⟨j,rfl,i,A,g⟩;have K:=aR (S:=fun k=>k=fb) HO.o g (fun a e N=>by have O:=Oe e;omega);have H:=i.lt;obtain⟨m,nc,rfl,-,-,J⟩:=bY.aJ jA ai i;have P:(aX n).length<=100000:=by rw[dh];omega
 generalize c:aX n=D at*;have r:=ag c;have t:=ag i;have s:=ag A;have E:ax (fun k=>k=fb) w' w2:=((ax.refl _ w').alloc _).trans g;have u:=ag E;have L:=g.size;simp at L;have x:Hid (∀b,(Value.slice m D.length nc).ownBlock=some b->(w'.alloc (.cells #[] 163)).heap.size<=b/\b<w2.heap.size):=fun b e=>H b e
 go_wp2_with (at_builtin;refine iU SV jA KH w'.heap.size K J rfl _ _ rfl rfl nc rfl dJ aa aa ?_;intro M w3 l C)
 go_ret;rw[kH,fQ]at l;have f:ax (fun k=>k=w'.heap.size) w2 w3:=(ax.refl _ w2).grown C (fun k e=>.inl (by injection e with e;exact e.symm));have G:∀a,(Value.slice m D.length nc).ownBlock=some a->a≠w'.heap.size:=fun a e=>by have:=(x.o a e).1;simp at this;omega
 have c:=r.o;subst c;refine⟨_,M,rfl,bI (aR (S:=fun k=>k=w'.heap.size) t.o f G) ay,l,(f.block fb aa aa).trans s.o,?_⟩
 .exact(((u.o.mono (fun k h=>.inl h)).trans (f.mono (fun k h=>.inr aa)))).strip
end
section
open Go.RowKit Go.Sort Go.Shelf Go.Lib Go.Maps
theorem Gs {w:World} {g off:Nat} {N:List Nd} {i:Nat} {d:Nd} (h:bY oM 7 w (some (af g off)) N) (hi:N[i]? =some d):
  g<w.heap.size/\w.cell? (af g (off+i*7))=some (.int .u8 d.kind)/\w.cell? (af g (off+i*7+1))=some (ae d.l)/\w.cell? (af g (off+i*7+2))=some (ae d.r)/\w.cell? (af g (off+i*7+3))=some (ae d.fr)/\w.cell? (af g (off+i*7+4))=some (ae d.KD)/\w.cell? (af g (off+i*7+6))=some (ae d.item):=by
 have⟨a,hd⟩:=fH.1 hi;rcases h with h|⟨b,o,e,f,j⟩
 .subst h;simp at a
 .cases e;have c:=j i a;rw[hd]at c;exact⟨f,c 0 aa,c 1 aa,c 2 aa,c 3 aa,c 4 aa,c 6 aa⟩
structure nL (w:World) (base fb n:Nat) (nv:Value):Prop where
 blk:w.heap[fb]? =some (lG 1 0 nv n)
 row:w.ownsRow base 163 7 nv (aX n).length ((aX n).flatMap oM)
theorem jU (n:Nat) (h:0<n):FT.At (aX n) (dP 0 n) 0:=⟨[],[],by unfold aX;rw[aN aa];simp,rfl⟩
theorem BB (w:World) (base:Nat) (xs:List Value) (e:TypeId) (a:base<=w.heap.size) (b:xs.length<=maxLen):(w.alloc (.cells xs.toArray e)).ownsRow base e 1 (aA w.heap.size xs.length xs.length) xs.length xs:=
 ⟨ay,.inr ⟨w.heap.size,xs.length,xs.toArray,rfl,a,uJ w _,aB _,b,ay,ay⟩⟩
def UN (w:World) (n x:Nat) (e:Ending) (w':World):Prop:=
 ∃v,e=.returned (.tuple #[v,ae 0])/\w'.ownsRow w.heap.size 3 1 v ((dP 0 n).path 0 x).length (((dP 0 n).path 0 x).map fun i=>ae (i:Nat))/\Below w.heap.size w w'
theorem vI (base fb n x:Nat) (a0:Value) (bc:n<=40000) (be:x<n) (w:World) (h:nL w base fb n a0):
  aK 192 #[aj fb,ae x] w (UN w n x):=by
 have al:fb<w.heap.size:=(aY.1 h.blk).1;have d:=h.blk;have ad:w.cell? (af fb 5)=some (.bool true):=aD d;have L:w.cell? (af fb 4)=some (ae n):=aD d;have av:=qp fb w ad;have Q:=dh n;obtain⟨aZ,nc,rfl,-,-,T⟩:=bY.aJ jA ai h.row;have aU:∃g off,aZ=some (af g off):=by
  rcases T with aP|⟨g,off,e,_⟩
  .rw[aP]at Q;simp at Q;omega
  .exact⟨g,off,e⟩
 obtain⟨g,off,rfl⟩:=aU;have au:=su fb n _ ⟨_,_,rfl⟩ w d;have aw:=ag (fun W (d:Below w.heap.size w W)=>jF fb n aa aa W ((d.cell (p:=(af fb 5)) al).trans ad) ((d.cell (p:=(af fb 4)) al).trans L));have ak:=bJ 0 n aa;have hS:=fA 0 n aa;have ax:=ag (jU n aa);have X:=ag T;have j:Hid ((dP 0 n).wf/\(dP 0 n).lo<=x/\x<(dP 0 n).hi/\(dP 0 n).root 0=2*n-2):=⟨ak.1,aa,aa,by unfold FT.root;omega⟩;have d1:decide ((x:Int)<0)=false:=ay;have d2:decide ((x:Int)>=(n:Int))=false:=aH;have d3:decide ((n:Int)<=(x:Int))=false:=aH;have d4:decide (n<=x)=false:=aH;have aR:(aX n).length<=100000:=aa;generalize ah:aX n=D at*;have a5:=ag ah;clear ah d h T ak hS Q;go_enter func192,ntmps192
 go_wp2_with fail
 with_reducible refine av.mono ?_
 rintro e w' ⟨rfl,ac⟩;subst w'
 go_wp2_with fail
 with_reducible refine au.mono ?_
 rintro e w1 ⟨rfl,E⟩
 go_wp2_with fail
 refine(aw.o w1 E).mono ?_;rintro e w2 ⟨rfl,ac⟩;subst ac
 go_wp2_with fail
 have am:=BB w2 w.heap.size [.int .i64 ((2*n-2:Nat):Int)] 3 E.size (by unfold maxLen;simp);simp only[eu,fF,kH]at am
 go_loopg [7,8] ((dP 0 n).ht) (fun aW a2 a3 wr=>∃(t:FT) (s:Nat) (a:List Nat),a2=.int .i64 (t.root s:Nat)/\t.ht<=aW/\Below w.heap.size w wr/\Hid (FT.At D t s)/\Hid ((dP 0 n).path 0 x=a++t.path s x)/\Hid (t.wf/\t.lo<=x/\x<t.hi)/\
  Hid (wr.ownsRow w.heap.size 3 1 a3 (a.length+1) ((a++[t.root s]).map fun i=>ae (i:Nat))))
 case atStart=>exact⟨dP 0 n,0,[],by rw[j.o.2.2.2],aB _,(E.trans ((aI _ w2).alloc E.size _)),ax,rfl,⟨j.o.1,j.o.2.1,j.o.2.2.1⟩,by rw[j.o.2.2.2];exact am⟩
 case round=>
  obtain⟨t,s,a,rfl,ba,b,c,G,aC,HO⟩:=hrel;obtain⟨F,Z,z,A,I,J,K⟩:=Gs (X.o.below b) c.o.get;have bb:=c.o.lt;have bd:a.length+1<=n+1:=by
   have C:=FT.oH (dP 0 n) 0 x;have a6:=vE 0 n n (vv (Es));have a7:0<(t.path s x).length:=by obtain⟨P,hP⟩:=FT.sZ t s x;rw[hP];simp
   have L:=G.o;rw[L,bS]at C;omega
  have a8:D.length<=100000:=aR;cases t with
  |leaf q=>
   simp only[FT.top]at Z z A I J K;have V:Hid (a.length+1=((dP 0 n).path 0 x).length/\a++[(FT.leaf q).root s]=(dP 0 n).path 0 x):=by
    show _/\_;rw[G.o];simp[FT.path,FT.root,FT.size]
   generalize(FT.leaf q).root s=k at*;go_wp2;go_ret2;have C:=HO.o;rw[V.o.1,V.o.2]at C;exact⟨_,rfl,C,b⟩
  |node l r=>
   simp only[FT.top]at Z z A I J K;have B:((s+l.size:Nat):Int)-1=((l.root s:Nat):Int):=by unfold FT.root;have:=l.size_pos;omega
   have ab:((s+l.size+r.size:Nat):Int)-1=((r.root (s+l.size):Nat):Int):=by unfold FT.root;have:=r.size_pos;omega
   rw[B]at z;rw[ab]at A;clear B ab I J K;obtain⟨-,aE,aF,aG,aL,H,aM⟩:=Gs (X.o.below b) c.o.left.get;rw[FT.vF]at H;clear aE aF aG aL aM;have aT:=c.o.left.lt;have aV:=c.o.right.lt;have a9:(FT.node l r).ht=max l.ht r.ht+1:=rfl;have U:Hid ((dP 0 n).path 0 x=(a++[(FT.node l r).root s])++(if x<l.hi then l.path s x else r.path (s+l.size) x)):=by
    show _=_;rw[G.o,ed];rfl
   have az:=ag c.o.left;have aA:=ag c.o.right;have Y:=ag aC.o;have y:=HO.o;generalize aS:(FT.node l r).root s=k at*;have an:(a++[k]).length=a.length+1:=ay;obtain⟨kl,M⟩:∃kl,kl=l.root s:=⟨_,rfl⟩;obtain⟨kr,N⟩:∃kr,kr=r.root (s+l.size):=⟨_,rfl⟩;rw[<-M]at z H aT;rw[<-N]at A aV;have u:Hid (kl=l.root s/\kr=r.root (s+l.size)):=⟨M,N⟩;obtain⟨m,R⟩:∃m,m=l.hi:=⟨_,rfl⟩;rw[<-R]at H;have v:Hid (m=l.hi):=R;clear M N R aS;by_cases f:x<m
   .have d5:decide ((x:Int)<(m:Int))=true:=aQ f;have d6:decide (x<m)=true:=aQ f
    go_wp2_with (at_builtin;refine vD nG w.heap.size y [.int .i64 kl] rfl (by simp[Value.oneCell']) rfl _ _ rfl rfl _ rfl dJ aa b.size ?_;intro a4 w3 S F)
    go_roundg l.ht
    case measure=>omega
    case rel=>
     have O:=Y.o;refine⟨l,s,a++[k],by rw[<-u.o.1],aB _,dB b y F b.size (aB _),az,?_,?_,?_⟩
     .show _=_;rw[U.o,<-v.o,aO f]
     .have B:=v.o;obtain⟨⟨ao,ap,a1⟩,aq,ar⟩:=O;exact⟨ao,aq,aa⟩
     .rw[an,bM,<-u.o.1];exact S
   .have d5:decide ((x:Int)<(m:Int))=false:=aQ f;have d6:decide (x<m)=false:=aQ f
    go_wp2_with (at_builtin;refine vD nG w.heap.size y [.int .i64 kr] rfl (by simp[Value.oneCell']) rfl _ _ rfl rfl _ rfl dJ aa b.size ?_;intro a4 w3 S F)
    go_roundg r.ht
    case measure=>omega
    case rel=>
     have O:=Y.o;refine⟨r,s+l.size,a++[k],by rw[<-u.o.2],aB _,dB b y F b.size (aB _),aA,?_,?_,?_⟩
     .show _=_;rw[U.o,<-v.o,aN f]
     .have B:=v.o;obtain⟨⟨ao,ap,a1⟩,aq,ar⟩:=O;exact⟨ap,aa,ar⟩
     .rw[an,bM,<-u.o.2];exact S
end
section
open Go.RowKit Go.Sort Go.Shelf Go.Lib Go.Maps
attribute [local irreducible] wpQuiet
attribute [local go_sem] Oper.fB
section
variable {P:Program} {ops:Array Oper} {o:Oper} {a:Act} {K:Act->World->Prop} {Q:Exit->Act->World->Prop} {E0:Prop}
theorem Gt {α:Type} {enc:α->List Value} {sz:Nat} {t e:TypeId} {bytes:Nat} (f:eP P t e sz bytes) {W:World} {ad:Option Addr} {l:List α} {c:Nat} (s:bY enc sz W ad l) (k:l.length<=c) (lo hi:Nat) (g:lo<=hi) (j:hi<=l.length)
  (m:o.guard=none) (x:Operand) (lw d:Operand) (v:o.op=.slice t x (some lw) (some d) none) (B:a.eval x=.slice ad l.length c)
  (u:a.eval lw=.int .i64 lo) (p:a.eval d=.int .i64 hi)
  (h:∀b,bY enc sz W b ((l.take hi).drop lo)->K (a.put o.dst (.slice b (hi-lo) (c-lo))) W):
  if Region.wanted o (yielded ops a.tmps)=true then Oper.wp P o a W K Q else E0:=by
 have A:Region.wanted o (yielded ops a.tmps)=true:=by simp[Region.wanted,m]
 rw[aO A];obtain⟨ht,⟨i,z,q,E,y,C,F⟩,D⟩:=f;have r:=h _ (EP s k lo hi j);have hu:∀W',(underlying t).run P W'=.ok (.slice e) W':=fun W'=>pO ht W';have w:∀W',(sizeOf e).run P W'=.ok sz W':=fun W'=>by simp[sizeOf,typeInfo,q,y]
 have n:hi<=c:=aa;unfold Oper.wp execOp;simp[v,B,u,p,Instr.sliceAt,Instr.slice,Instr.sliceBounds,Instr.sliceBound,hu,w,asIntOf,g,n];exact r
end
theorem Rd.VH {α:Type} {enc:α->Value} {w:World} {a:Option Addr} {l:List α} (h:Rd enc w a l):bY (fun x=>[enc x]) 1 w a l:=by
 rcases h with h|⟨b,off,e,c,d⟩
 .exact .inl h
 .exact .inr ⟨b,off,e,c,fun i hi j f=>by
   obtain rfl:j=0:=aa;rw[iJ,dK];exact d i hi⟩
def Tk (B nb:Nat) (w0:World) (W:World) (acc:List Nat) (D:Nat->Prop):Prop:=
 Below B w0 W/\W.heap[nb]? =some (.cells #[ae acc.length] 3 (0,0))/\D=fun k=>k=nb
theorem QO:eY 158:=bO func158 aM rfl
theorem QP:eY 105:=bO func105 aM rfl
theorem Og (N:List Nd) (nm:Nat->Int) (YS:List Nat) (LN LL:Nat->Value) (tb B c:Nat) (w0:World) (j:List Nat) (I:j.length<=1000000) (E:B<=c) (q:B=w0.heap.size):
  Told 158 #[aj c] N YS LN LL B w0 j (Tk B c w0) where
 enters:=QO
 base:=fun W d D h=>h.1
 lt:=fun W d D h k A=>by
  obtain⟨f,e,rfl⟩:=h;have:=(aY.1 e).1;subst A;exact⟨E,this⟩
 jE:=fun W W' d D h r=>by
  obtain⟨f,e,rfl⟩:=h;exact⟨f.trans (r.mono (q▸f.size)),(r.block c (aY.1 e).1).trans e,rfl⟩
 told:=fun W d D t s a b h J K M hF=>by
  obtain⟨f,e,rfl⟩:=h;have u:(d++((nl YS t).take b).drop a).length=d.length+(b-a):=by rw[bS,lM,eH];omega
  have C:=hF.length_le;rw[u]at C;have x:=ag e;have l:=ag f;have y:=ag u;have F:W.cell? (af c 0)=some (ae d.length):=aD e;have O:W.frozen? (af c 0)=false:=aD e;have w:c<W.heap.size:=(aY.1 e).1;have H:(d.length:Int)+((b:Int)-(a:Int))=((d.length+(b-a):Nat):Int):=aa;generalize LN (t.root s)=i at*;generalize LL (t.root s)=g at*;show aK 158 #[.agg #[i,g],ae a,ae b,aj c] W _;generalize L:d.length=n at*;have G:=((aI W.heap.size W).alloc (aB _) (.cells #[i,g] 150)).cell (p:=(af c 0)) w;have m:Hid (∀v,ax (fun k=>k=c) W ((W.setCell (af c 0) v).alloc (.cells #[i,g] 150))):=fun v=>((ax.refl (fun k=>k=c) W).set (a:=(af c 0)) _ (.inl rfl)).alloc _;have z:Hid (∀v,((W.setCell (af c 0) v).alloc (.cells #[i,g] 150)).heap[c]? =some (.cells #[v] 3 (0,0))):=fun v=>(bL _ _ _ (aQ w)).trans (di _ c 0 _ _ v x.o);go_enter func158,ntmps158;go_wp2
  first|go_end0|go_ret
  refine⟨rfl,_,⟨?_,?_,rfl⟩,fun k h=>.inl h,m.o _⟩
  .exact l.o.trans ((m.o _).toBelow (bA (yo q) l.o.size) (fun k h=>aa))
  .rw[z.o,y.o];rfl
def Tm (B ob:Nat) (nm:Nat->Int) (w0:World) (W:World) (acc:List Nat) (D:Nat->Prop):Prop:=
 Below B w0 W/\∃v,W.heap[ob]? =some (.cells #[v] 35 (0,0))/\W.ownsRow B 27 1 v acc.length ((acc.map nm).map (Value.int .u32))/\D=fun k=>k=ob\/v.ownBlock=some k
theorem Oh (N:List Nd) (nm:Nat->Int) (YS:List Nat) (LN LL:Nat->Value) (tb B ob:Nat) (w0:World) (J:List Nat) (a6:J.length<=1000000) (V:B<=ob) (E:B=w0.heap.size) (aA:Jf w0 tb N nm YS LN LL) (a7:YS.length<=1000000):
  Told 105 #[aj ob] N YS LN LL B w0 J (Tm B ob nm w0) where
 enters:=QP
 base:=fun W d D h=>h.1
 lt:=fun W d D h k hk=>by
  obtain⟨n,v,f,g,rfl⟩:=h;rcases hk with rfl|hk
  .exact⟨V,(aY.1 f).1⟩
  .exact g.lt k hk
 jE:=fun W W' d D h F=>by
  obtain⟨n,v,f,g,rfl⟩:=h;exact⟨n.trans (F.mono (E▸n.size)),v,(F.block ob (aY.1 f).1).trans f,az g F,rfl⟩
 told:=fun W d D t s a b h aF aJ a8 hF=>by
  obtain⟨n,v,f,g,rfl⟩:=h;have T:(d++((nl YS t).take b).drop a).length=d.length+(b-a):=by rw[bS,lM,eH];omega
  have aO:=hF.length_le;rw[T]at aO;have⟨q,cn,av,a9,a0⟩:=aA.Gg t s aF;have a1:=a0.below n (yo E.symm);rw[av];generalize ba:nl YS t=L at*;generalize LL (t.root s)=I at*;obtain⟨i,j,rfl⟩:=fI g;have X:ob<W.heap.size:=(aY.1 f).1;obtain⟨w1,r⟩:∃w1,w1=W.alloc (.cells #[.slice q L.length cn,I] 150):=⟨_,rfl⟩;have w:Below W.heap.size W w1:=by rw[r];exact(aI _ _).alloc (aB _) _
  have aZ:w1.heap[W.heap.size]? =some (.cells #[.slice q L.length cn,I] 150 (0,0)):=by rw[r];exact bW W _
  have U:=(w.block ob X).trans f;have ao:w1.cell? (af ob 0)=some (.slice i d.length j):=aD U;have ap:w1.cell? (af W.heap.size 0)=some (.slice q L.length cn):=aD aZ;have a4:=ah ao;have a5:=ah ap;have ad:Hid (w1.drew.ownsRow B 27 1 (.slice i d.length j) d.length ((d.map nm).map (Value.int .u32))):=az g w.drew;have al:Hid (Rd (.int .u32) w1.drew q (L.map nm)):=a1.below w.drew;have ab:=ag U;have Y:=ag w;have M:=ag n;have aa:=ag T;have aW:W.heap.size<w1.heap.size:=by rw[r];simp
  have aU:=g.lt;have an:=ag aU;have aV:∀m,(Value.slice i d.length j).ownBlock=some m->ob≠m:=bn g f ai;have P:=ag aV;have aP:(L.map nm).length=L.length:=ay;show aK 105 #[.agg #[.slice q L.length cn,I],ae a,ae b,aj ob] W _;go_enter func105,ntmps105
  go_wp2_with fail
  rw[<-r];refine au (fun W=>∃p:aS w1,W=p.W) [6,7] [(0,true),(1,false),(2,true),(3,false),(4,false)] ⟨⟨_,(aI _ _).drew⟩,rfl⟩ 3 ?_;refine aC 5 rfl fun K aE=>?_;refine Gt (c:=cn) uw al.o.VH aH a b aJ aH rfl (.tmp 9) (.tmp 10) (.tmp 11) rfl (by rw[aP];rfl) rfl rfl ?_;intro a2 aT;refine aE _ _ (fun h _=>h) ?_;refine aG [6,7] ?_;have y:(((L.map nm).take b).drop a).length=b-a:=aH;refine nH uw (fun _=>rfl) (fun x u hu=>by simp at hu;subst hu;rfl) B ad.o aT rfl (.tmp 7) (.tmp 12) rfl rfl (cn-a) (by rw[y];rfl) (by rw[y];unfold maxLen;omega) (by rw[y];omega) (by show B<=w1.heap.size;omega) ?_;intro bb w2 H aM aL;rw[y]at H;have R:ax (fun k=>(Value.slice i d.length j).ownBlock=some k) w1.drew w2:=(ax.refl _ _).grown aM (fun k hk=>.inl hk);have aX:ob<w1.heap.size:=vw X aW;have aN:¬(Value.slice i d.length j).ownBlock=some ob:=fun h=>P.o ob h rfl;have G:w2.heap[ob]? =some (.cells #[.slice i d.length j] 35 (0,0)):=(R.block ob aX aN).trans ab.o;have a3:w2.cell? (af ob 0)=some (.slice i d.length j):=aD G;have bc:w2.frozen? (af ob 0)=false:=aD G;have ac:=ag G;have am:=ag H;have Z:Hid (ax (fun k=>k=ob\/(Value.slice i d.length j).ownBlock=some k) W w2):=(((ax.refl _ W).below Y.o).drew).trans (R.mono fun k h=>.inr h);have O:=ag aL;obtain⟨z,A,rfl⟩:=fI H;go_wp2
  first|go_end0|go_ret
  have Q:=(Z.o.set (a:=(af ob 0)) (.slice z (d.length+(b-a)) A) (.inl (.inl rfl)));have aQ:∀m,(Value.slice z (d.length+(b-a)) A).ownBlock=some m->m≠ob:=fun m e=>by
   rcases O.o with h9|h9
   .exact fun C=>P.o m (h9▸e) C.symm
   .rw[h9]at e;injection e with e;intro C;have:w1.drew.heap.size=ob:=by rw[e,C]
    have aw:w1.heap.size=ob:=this;omega
  refine⟨rfl,_,⟨M.o.trans (Q.toBelow (bA (yo E) M.o.size) (fun k h=>?_)),.slice z (d.length+(b-a)) A,di _ ob 0 _ _ _ ac.o,?_,rfl⟩,fun k h=>?_,Q⟩
  .rcases h with rfl|h
   .exact V
   .exact(an.o k h).1
  .have h9:=aR (S:=fun k=>k=ob) am.o ((ax.refl (fun k=>k=ob) w2).set (a:=(af ob 0)) (.slice z (d.length+(b-a)) A) (.inl rfl)) aQ;have aq:(d++(L.take b).drop a).length=d.length+(b-a):=aa.o;rw[aq];have ar:(((d++(L.take b).drop a).map nm).map (Value.int .u32))=((d.map nm).map (Value.int .u32))++(((L.map nm).take b).drop a).flatMap (fun x=>[ak x]):=by
    rw[bM,bM,<-List.map_take,<-yg];congr 1
    induction(((L.take b).drop a).map nm)with
    |nil=>rfl
    |cons x l ih=>rw[l8,l6,ih];rfl
   rw[ar];exact h9
  .rcases h with rfl|h
   .exact .inl (.inl rfl)
   .rcases O.o with h9|h9
    .exact .inl (.inr (h9▸h))
    .rw[h9]at h;injection h with h;right;have aw:w1.heap.size=k:=h;omega
end
section
open Go.RowKit
theorem BC (g:Nat) (cb:Array Value) (n:Nat) (p:Nat->Bool) (w:World) (G:n<4611686018427387904) (C:∀args w,(callFunc g args).run prog w=.ok (.enter g args) w)
  (q:∀(W:World) (i:Nat),Below w.heap.size w W->i<n->aK g (#[ae i]++cb) W (fw W (.bool (p i)))):
  aK 252 #[ae n,.func (.func g) #[] cb] w (fw w (.tuple #[ae (bsrch p n 0 n 0).1,ae (bsrch p n 0 n 0).2])):=by
 have l:=ag q;generalize u:bsrch p n 0 n 0=r;have m:=ag u;have⟨x,y⟩:=r;go_enter func252,ntmps252;go_wp2
 go_loopg [6,7,8] n (fun v z A B wr=>∃(lo hi k:Nat),z=.int .i64 lo/\A=.int .i64 hi/\B=.int .i64 k/\lo<=hi/\hi<=n/\k+(hi-lo)<=n/\hi-lo<=v/\Below w.heap.size w wr/\
  Hid (bsrch p n lo hi k=(x,y)))
 case atStart=>exact⟨0,n,0,rfl,rfl,rfl,bD _,aB _,aa,aa,aI _ _,m⟩
 case round=>
  obtain⟨lo,hi,k,rfl,rfl,rfl,F,s,E,D,b,j⟩:=hrel;by_cases t:lo<hi
  .have c:=l.o wr (lo+(hi-lo)/2) b aa;rw[show((lo+(hi-lo)/2:Nat):Int)=(lo:Int)+((hi:Int)-(lo:Int))/2 by omega]at c;have a:=j.o;have f:bsrch p n lo hi k=bsrch p (n+1) lo hi k:=Jc p _ _ _ _ _ aa aa;rw[f,bsrch,aO t]at a;cases hp:p (lo+(hi-lo)/2)<;>rw[hp]at c a
   .have d:=ag a
    go_wp2_with (go_at_fn g;refine c.mono ?_;rintro e w' ⟨rfl,h⟩)
    go_roundg (hi-(lo+(hi-lo)/2+1))
    case measure=>omega
    case rel=>
     exact⟨lo+(hi-lo)/2+1,hi,k+1,by go_num,rfl,by go_num,aa,s,aa,aB _,b.trans (h.mono b.size),d.o⟩
   .have d:=ag a
    go_wp2_with (go_at_fn g;refine c.mono ?_;rintro e w' ⟨rfl,h⟩)
    go_roundg ((lo+(hi-lo)/2)-lo)
    case measure=>omega
    case rel=>
     exact⟨lo,lo+(hi-lo)/2,k+1,rfl,by go_num,by go_num,aa,aa,aa,aB _,b.trans (h.mono b.size),d.o⟩
  .obtain rfl:hi=lo:=aa;have a:=j.o;have f:bsrch p n hi hi k=(hi,k):=by cases n<;>simp[bsrch]
   rw[f]at a;cases a;go_wp2;go_ret2;exact⟨rfl,b⟩
theorem QQ (i:Nat) (d bx:Nat) (a:Option Addr) (l:List Int) (c:Nat) (x:Int) (W:World) (g:W.cell? (af d 0)=some (.slice a l.length c)) (n:W.cell? (af bx 0)=some (ae x))
  (h:Rd (.int .i64) W a l) (hi:i<l.length):
  aK 253 (#[ae i]++#[aj d,aj bx]) W (fw W (.bool (decide (x<=l.getD i 0)))):=by
 obtain⟨b,off,rfl,j,e⟩:=h.get aa;have k:=e i hi;have f:l.getD i 0=l[i]:=by simp[hi]
 rw[f];clear f e;generalize l[i]=y at*;have m:(i:Int)<(l.length:Int):=aa;go_enter func253,ntmps253;go_wp2
 go_quiet (fail)
 go_wp2;go_ret;exact⟨wz (by first|rfl|simp),⟨rfl,rfl,rfl,aB _,fun _ _=>rfl⟩⟩
theorem Gu:eY 253:=bO func253 aM rfl
theorem EX (a:Option Addr) (l:List Int) (c:Nat) (x:Int) (w:World) (h:Rd (.int .i64) w a l) (j:l.length<4611686018427387904):
  aK 170 #[.slice a l.length c,ae x] w (fw w (.tuple #[ae (aW l x).1,ae (aW l x).2])):=by
 have H:=ag h;unfold aW;have f:=Gu;have d:Hid (∀(W:World) (i:Nat),Below ((w.alloc (.cells #[.slice a l.length c] 143)).alloc (.cells #[ae x] 2)).heap.size ((w.alloc (.cells #[.slice a l.length c] 143)).alloc (.cells #[ae x] 2)) W->i<l.length->
   aK 253 (#[ae i]++#[aj w.heap.size,aj (w.heap.size+1)]) W (fw W (.bool ((fun i=>decide (x<=l.getD i 0)) i)))):=by
  intro W i b hi;have g:Below w.heap.size w W:=(((aI _ _).alloc (aB _) _).alloc ay _).trans (b.mono aH);refine QQ i _ _ a l c x W ?_ ?_ (H.o.below g) hi
  .rw[b.cell aH];simp
  .rw[b.cell ay];simp
 generalize(fun i=>decide (x<=l.getD i 0))=p at*;go_enter func170,ntmps170
 go_wp2_with (go_at_call 252;refine(BC _ _ _ p _ j f d.o).mono ?_;rintro e w' ⟨rfl,b⟩)
 go_ret2;exact⟨rfl,(((aI _ _).alloc (aB _) _).alloc ay _).trans (b.mono aH)⟩
theorem QR (i:Nat) (d bx:Nat) (a:Option Addr) (l:List Int) (c:Nat) (x:Int) (W:World) (g:W.cell? (af d 0)=some (.slice a l.length c)) (n:W.cell? (af bx 0)=some (ae x))
  (h:Rd (.int .i64) W a l) (hi:i<l.length):
  aK 254 (#[ae i]++#[aj d,aj bx]) W (fw W (.bool (decide (x<l.getD i 0)))):=by
 obtain⟨b,off,rfl,j,e⟩:=h.get aa;have k:=e i hi;have f:l.getD i 0=l[i]:=by simp[hi]
 rw[f];clear f e;generalize l[i]=y at*;have m:(i:Int)<(l.length:Int):=aa;go_enter func254,ntmps254;go_wp2
 go_quiet (fail)
 go_wp2;go_ret;exact⟨wz (by first|rfl|simp),⟨rfl,rfl,rfl,aB _,fun _ _=>rfl⟩⟩
theorem Gv:eY 254:=bO func254 aM rfl
theorem EY (a:Option Addr) (l:List Int) (c:Nat) (x:Int) (w:World) (h:Rd (.int .i64) w a l) (j:l.length<4611686018427387904):
  aK 171 #[.slice a l.length c,ae x] w (fw w (.tuple #[ae (aU l x).1,ae (aU l x).2])):=by
 have H:=ag h;unfold aU;have f:=Gv;have d:Hid (∀(W:World) (i:Nat),Below ((w.alloc (.cells #[.slice a l.length c] 143)).alloc (.cells #[ae x] 2)).heap.size ((w.alloc (.cells #[.slice a l.length c] 143)).alloc (.cells #[ae x] 2)) W->i<l.length->
   aK 254 (#[ae i]++#[aj w.heap.size,aj (w.heap.size+1)]) W (fw W (.bool ((fun i=>decide (x<l.getD i 0)) i)))):=by
  intro W i b hi;have g:Below w.heap.size w W:=(((aI _ _).alloc (aB _) _).alloc ay _).trans (b.mono aH);refine QR i _ _ a l c x W ?_ ?_ (H.o.below g) hi
  .rw[b.cell aH];simp
  .rw[b.cell ay];simp
 generalize(fun i=>decide (x<l.getD i 0))=p at*;go_enter func171,ntmps171
 go_wp2_with (go_at_call 252;refine(BC _ _ _ p _ j f d.o).mono ?_;rintro e w' ⟨rfl,b⟩)
 go_ret2;exact⟨rfl,(((aI _ _).alloc (aB _) _).alloc ay _).trans (b.mono aH)⟩
end
section
open Go.RowKit Go.Sort Go.Shelf Go.Lib Go.Maps
attribute [local irreducible] wpQuiet
attribute [local go_sem] Oper.fB
structure wN where
 rv:Value
 xv:Value
 gv:Value
 nv:Value
 lv:Value
 yv:Value
 fv:Value
 LN:Nat->Value
 LL:Nat->Value
structure jw (w:World) (lo hi tb fb:Nat) (R:List Pt) (gone:List Bool) (YS:List Nat) (V:wN):Prop where
 blk:w.heap[tb]? =some (.cells #[V.rv,V.xv,V.gv,aj fb,V.nv,V.lv,V.yv,ae YS.length] 146 (0,0))
 fC:lo<=tb/\tb<hi/\lo<=fb/\fb<hi/\hi<=w.heap.size
 row:w.ownsRow lo 29 3 V.rv R.length (R.flatMap dw)
 xs:w.ownsRow lo 2 1 V.xv R.length ((bV R).map (Value.int .i64))
 DR:w.ownsRow lo 4 1 V.gv R.length (gone.map Value.bool)
 iH:nL w lo fb R.length V.fv
 jg:w.ownsRow lo 163 7 V.nv (aX R.length).length ((aX R.length).flatMap oM)
 EO:w.ownsRow lo 150 2 V.lv (aX R.length).length ((List.range (aX R.length).length).flatMap fun k=>[V.LN k,V.LL k])
 ys:w.ownsRow lo 2 1 V.yv YS.length ((jv R YS).map (Value.int .i64))
 Gg:∀t s,FT.At (aX R.length) t s->w.ownsRow lo 27 1 (V.LN (t.root s)) (nl YS t).length (((nl YS t).map (jN R)).map (Value.int .u32))
 Br:∀l r s,FT.At (aX R.length) (.node l r) s->w.ownsRow lo 3 1 (V.LL ((FT.node l r).root s)) (lf l.hi (nl YS (.node l r))).length ((lf l.hi (nl YS (.node l r))).map (Value.int .i64))
 DJ:∀k,k<(aX R.length).length->∃a m c,V.LL k=.slice a m c
 top:∀v,v=V.rv\/v=V.xv\/v=V.gv\/v=V.nv\/v=V.lv\/v=V.yv\/v=V.fv->∀g,v.ownBlock=some g->g<hi
 oQ:∀k,k<(aX R.length).length->(∀g,(V.LN k).ownBlock=some g->g<hi)/\∀g,(V.LL k).ownBlock=some g->g<hi
 NI:∀g,V.xv.ownBlock=some g->V.yv.ownBlock≠some g
 Iz:∀i k,i<(aX R.length).length->k<(aX R.length).length->i≠k->∀g,(V.LN i).ownBlock=some g->(V.LN k).ownBlock≠some g
 Gw:∀i k,i<(aX R.length).length->k<(aX R.length).length->i≠k->∀g,(V.LL i).ownBlock=some g->(V.LL k).ownBlock≠some g
theorem jw.kept {S:Nat->Prop} {w w':World} {lo hi tb fb:Nat} {R:List Pt} {gone:List Bool} {YS:List Nat} {V:wN} (h:jw w lo hi tb fb R gone YS V) (K:ax S w w') (hS:∀k,lo<=k->k<hi->¬S k):jw w' lo hi tb fb R gone YS V:=by
 have ht:=h.top;have a:∀{e:TypeId} {sz:Nat} {v:Value} {n:Nat} {xs:List Value},w.ownsRow lo e sz v n xs->(∀g,v.ownBlock=some g->g<hi)->w'.ownsRow lo e sz v n xs:=fun a d=>aR a K fun g e=>hS g (a.lt g e).1 (d g e);have c:∀t s,FT.At (aX R.length) t s->t.root s<(aX R.length).length:=fun t s b=>b.lt;exact⟨bq K h.blk (hS tb h.fC.1 h.fC.2.1),⟨h.fC.1,h.fC.2.1,h.fC.2.2.1,h.fC.2.2.2.1,bA h.fC.2.2.2.2 K.size⟩,
  a h.row (ht _ ay),a h.xs (ht _ ay),a h.DR (ht _ ay),
  ⟨bq K h.iH.blk (hS fb h.fC.2.2.1 h.fC.2.2.2.1),a h.iH.row (ht _ ay)⟩,a h.jg (ht _ ay),a h.EO (ht _ ay),a h.ys (ht _ ay),
  fun t s b=>a (h.Gg t s b) (h.oQ _ (c t s b)).1,fun l r s b=>a (h.Br l r s b) (h.oQ _ (c _ s b)).2,h.DJ,h.top,h.oQ,h.NI,h.Iz,h.Gw⟩
theorem jw.below {w w':World} {B lo hi tb fb:Nat} {R:List Pt} {gone:List Bool} {YS:List Nat} {V:wN} (h:jw w lo hi tb fb R gone YS V) (a:Below B w w') (e:hi<=B):jw w' lo hi tb fb R gone YS V:=
 h.kept (S:=fun k=>hi<=k) ⟨a.os,a.tape,a.output,a.size,fun k f g=>a.block k aa⟩ fun k b c d=>aa
theorem jw.dn {w:World} {lo hi tb fb:Nat} {R:List Pt} {gone:List Bool} {YS:List Nat} {V:wN} (h:jw w lo hi tb fb R gone YS V) (E:0<R.length):Jf w tb (aX R.length) (jN R) YS V.LN V.LL:=by
 have o:=h.blk;have G:=dh R.length;have x:w.cell? (af tb 4)=some V.nv:=aD o;have y:w.cell? (af tb 5)=some V.lv:=aD o;refine⟨?_,?_,fun t s n=>?_,fun l r s n=>?_,h.DJ⟩
 .obtain⟨g,c,e,_⟩:=aV h.jg aa;obtain⟨a,v,i,-,-,d⟩:=bY.aJ jA ai h.jg;rw[e]at i;injection i with j z A;rw[<-j]at d;exact⟨g,0,c,by rw[x,e],d⟩
 .obtain⟨g,c,e,_,D,_⟩:=aV h.EO aa;have H:(aX R.length).length=(List.range (aX R.length).length).length:=ay;obtain⟨a,v,i,-,-,d⟩:=bY.aJ (enc:=fun k=>[V.LN k,V.LL k]) (fun _=>rfl) ai h.EO;rw[e]at i;injection i with j z A;rw[<-j]at d;refine⟨g,c,by rw[y,e],D,fun k p=>?_⟩;have⟨b,off,m,F,f⟩:=d.get aH;injection m with m;injection m with C B _;subst C B;have q:=f k (aQ p) 0 aa;have u:=f k (aQ p) 1 aa;simp only[xW,kH,dK,fZ,dC]at q u;exact⟨q,u⟩
 .obtain⟨a,c,e,-,f,d⟩:=Rd.aJ (h.Gg t s n);rw[bR]at e f;exact⟨a,c,e,f,d⟩
 .obtain⟨a,c,e,-,f,d⟩:=Rd.aJ (h.Br l r s n);exact⟨a,c,e,d⟩
theorem yG (tb fb:Nat) (w:World) (a:w.cell? (af tb 3)=some (aj fb)):
  aK 169 #[aj tb] w fun e w'=>e=.returned (.bool false)/\w'=w:=by
 go_enter func169,ntmps169;go_wp2;go_ret;exact⟨rfl,rfl⟩
theorem mo (p:Nat->Bool) (n:Nat) (hp:∀i j,i<=j->j<n->p i=true->p j=true):∀(f lo hi k:Nat),hi-lo<=f->lo<=hi->hi<=n->(∀t,t<lo->p t=false)->(∀t,hi<=t->t<n->p t=true)->
  (bsrch p f lo hi k).1<=n/\(∀t,t<(bsrch p f lo hi k).1->p t=false)/\(∀t,(bsrch p f lo hi k).1<=t->t<n->p t=true):=by
 intro f
 induction f with
 |zero=>
  intro lo hi k e g a b c;simp only[bsrch];obtain rfl:hi=lo:=aa;exact⟨a,b,c⟩
 |succ f ih=>
  intro lo hi k e g a b c;simp only[bsrch];by_cases h:lo<hi
  .rw[aO h];by_cases d:p (lo+(hi-lo)/2)=true
   .rw[aO d];exact ih _ _ _ aa aa aa b (fun t ht m=>hp _ t ht m d)
   .rw[aN d];refine ih _ _ _ aa aa a (fun t ht=>?_) c;cases l:p t with
    |false=>rfl
    |true=>exact absurd (hp t _ aa aa l) d
  .rw[aN h];obtain rfl:hi=lo:=aa;exact⟨a,b,c⟩
theorem oU {α:Type} {q:α->Bool}:∀(l:List α) (m:Nat),m<=l.length->(∀t (h:t<l.length),t<m->q l[t]=true)->(∀t (h:t<l.length),m<=t->q l[t]=false)->m=l.countP q
 |[],m,a,_,_=>by simp at a;simp[a]
 |x::l,0,_,_,b=>by
  symm;refine En.2 fun y f=>?_;obtain⟨t,ht,rfl⟩:=jo f;rw[b t ht (bD _)];decide
 |x::l,m+1,a,c,b=>by
  have d:q x=true:=c 0 ay aa;rw[IL d,<-oU l m (aQ a) (fun t ht e=>c (t+1) (aQ ht) aa) (fun t ht e=>b (t+1) (aQ ht) aa)]
theorem C9 {l:List Int} (g:l.Pairwise (·<=·)) (x:Int):(aW l x).1=l.countP fun y=>decide (y<x):=by
 have⟨c,d,f⟩:=mo (fun i=>decide (x<=l.getD i 0)) l.length (fun i j h b hi=>by
  by_cases e:i=j
  .exact e▸hi
  .have:=gQ.1 g i j aa b aa;simp[b,show i<l.length by omega]at hi |-;omega) l.length 0 l.length 0 aa aa (aB _) aa aa
 unfold aW;refine oU l _ c (fun t ht a=>?_) (fun t ht a=>?_)
 .have:=d t a;simp[ht]at this;simpa using this
 .have:=f t a ht;simp[ht]at this;simpa using this
theorem Da {l:List Int} (g:l.Pairwise (·<=·)) (x:Int):(aU l x).1=l.countP fun y=>decide (y<=x):=by
 have⟨c,d,f⟩:=mo (fun i=>decide (x<l.getD i 0)) l.length (fun i j h b hi=>by
  by_cases e:i=j
  .exact e▸hi
  .have:=gQ.1 g i j aa b aa;simp[b,show i<l.length by omega]at hi |-;omega) l.length 0 l.length 0 aa aa (aB _) aa aa
 unfold aU;refine oU l _ c (fun t ht a=>?_) (fun t ht a=>?_)
 .have:=d t a;simp[ht]at this;simpa using this
 .have:=f t a ht;simp[ht]at this;simpa using this
theorem cz.Wm {R:List Pt} {gone:List Bool} {YS:List Nat} (h:cz R gone YS):(jv R YS).Pairwise (·<=·):=dz.2 h.le
theorem Oi {R:List Pt} {gone:List Bool} {YS:List Nat} (h:cz R gone YS) (y:Int):(aW (jv R YS) y).1=below (lL R) y YS:=by
 rw[C9 h.Wm];unfold jv below;rw[EC];rfl
theorem QS {R:List Pt} {gone:List Bool} {YS:List Nat} (h:cz R gone YS) (y:Int):(aU (jv R YS) y).1=upto (lL R) y YS:=by
 rw[Da h.Wm];unfold jv upto;rw[EC];rfl
theorem gy (p:Nat->Bool) (n:Nat):(bsrch p n 0 n 0).2<=n/\(bsrch p n 0 n 0).1<=n:=by
 have:=EM p n 0 n 0 aa;omega
def EZ (S:World->List Nat->(Nat->Prop)->Prop) (W:World) (D:Nat->Prop) (r:List Nat×Nat) (e:Ending) (w':World):Prop:=
 e=.returned (ae r.2)/\∃D',S w' r.1 D'/\(∀k,D' k->D k\/W.heap.size<=k)/\ax D W w'
theorem Md (F:Nat) (cb:Array Value) (R:List Pt) (gone:List Bool) (YS:List Nat) (V:wN) (lo hi tb fb:Nat) (W:World) (S:World->List Nat->(Nat->Prop)->Prop) (D:Nat->Prop) (x1 x2 y1 y2 j:Int)
  (b:jw W lo hi tb fb R gone YS V) (c:R=[]\/x2<x1\/y2<y1) (u:∀W',Below W.heap.size W W'->S W' [] D):
  aK 104 #[aj tb,.agg #[ae x1,ae x2,ae y1,ae y2,ak j],.func (.func F) #[] cb] W (EZ S W D (ky R YS x1 x2 y1 y2)):=by
 have m:=b.blk;have e:ky R YS x1 x2 y1 y2=([],0):=by unfold ky;rw[aO c]
 rw[e];obtain⟨y,z,s⟩:=fI b.row;have x:tb<W.heap.size:=bX b.fC.2.1 b.fC.2.2.2.2;rw[s]at m;have i:Hid (∀W',Below W.heap.size W W'->EZ S W D ([],0) (.returned (ae 0)) W'):=fun W' h=>⟨rfl,D,u W' h,fun k h=>.inl h,(ax.refl _ _).below h⟩;obtain⟨w1,a⟩:∃w1,w1=W.alloc (.cells #[ae x1,ae x2,ae y1,ae y2,ak j] 38):=⟨_,rfl⟩;have p:Below W.heap.size W w1:=by rw[a];exact(aI _ _).alloc (aB _) _
 have d:w1.heap[W.heap.size]? =some (.cells #[ae x1,ae x2,ae y1,ae y2,ak j] 38 (0,0)):=by rw[a];exact bW W _
 have q:=(p.block tb x).trans m;have v:w1.cell? (af tb 0)=some (.slice y R.length z):=aD q;have w:w1.cell? (af tb 3)=some (aj fb):=aD q;have A:w1.cell? (af W.heap.size 0)=some (ae x1):=aD d;have B:w1.cell? (af W.heap.size 1)=some (ae x2):=aD d;have C:w1.cell? (af W.heap.size 2)=some (ae y1):=aD d;have E:w1.cell? (af W.heap.size 3)=some (ae y2):=aD d;have f:=yG tb fb w1 w;have g:=ag p;have r:R.length=0↔R=[]:=List.length_eq_zero_iff;obtain⟨n,t⟩:∃n,n=R.length:=⟨_,rfl⟩;rw[<-t]at v r;rw[<-r]at c;clear b u q d p e s m t r;by_cases l:n=0
 .have d1:((n:Int)==0)=true:=by simp[l]
  have d2:(n==0)=true:=by simp[l]
  have d3:decide (n=0)=true:=by simp[l]
  clear c;go_enter func104,ntmps104
  go_wp2_with fail
  rw[<-a];clear a
  go_wp2_with (go_at_call 169;refine f.mono ?_;rintro e w' ⟨rfl,rfl⟩)
  go_ret;exact i.o _ g.o
 .have d1:((n:Int)==0)=false:=aH;have d2:(n==0)=false:=aH;have d3:decide (n=0)=false:=aH;by_cases I:x2<x1
  .have f1:decide (x1>x2)=true:=aH;have f2:decide (x2<x1)=true:=aH;clear c;go_enter func104,ntmps104
   go_wp2_with fail
   rw[<-a];clear a
   go_wp2_with (go_at_call 169;refine f.mono ?_;rintro e w' ⟨rfl,rfl⟩)
   go_ret;exact i.o _ g.o
  .have f1:decide (x1>x2)=false:=aH;have f2:decide (x2<x1)=false:=aH;have G:decide (y1>y2)=true:=aH;have H:decide (y2<y1)=true:=aH;clear c;go_enter func104,ntmps104
   go_wp2_with fail
   rw[<-a];clear a
   go_wp2_with (go_at_call 169;refine f.mono ?_;rintro e w' ⟨rfl,rfl⟩)
   go_ret;exact i.o _ g.o
theorem Me (F:Nat) (cb:Array Value) (R:List Pt) (gone:List Bool) (YS:List Nat) (V:wN) (lo hi tb fb B:Nat) (w0 W:World) (S:World->List Nat->(Nat->Prop)->Prop) (D:Nat->Prop) (x1 x2 y1 y2 aE:Int)
  (ar:jw w0 lo hi tb fb R gone YS V) (K:cz R gone YS) (z:0<R.length) (b1:x1<=x2) (bL:y1<=y2) (bf:R.length<=40000) (bc:B=w0.heap.size) (aC:List Nat)
  (au:Told F cb (aX R.length) YS V.LN V.LL B w0 aC S) (hF:(ky R YS x1 x2 y1 y2).1=aC) (hS:S W [] D):
  aK 104 #[aj tb,.agg #[ae x1,ae x2,ae y1,ae y2,ak aE],.func (.func F) #[] cb] W (EZ S W D (ky R YS x1 x2 y1 y2)):=by
 have bh:=au.base W [] D hS;have y:=ar.below bh (by rw[bc];exact ar.fC.2.2.2.2);obtain⟨bQ,bS,a9⟩:=fI y.row;have bn:tb<W.heap.size:=bX y.fC.2.1 y.fC.2.2.2.2;have bD:fb<W.heap.size:=bX y.fC.2.2.2.1 y.fC.2.2.2.2;have aG:=y.blk;have bC:=K.len;obtain⟨ac,ad,ba,-,-,aP⟩:=Rd.aJ y.xs;obtain⟨ai,al,bb,-,-,aQ⟩:=Rd.aJ y.ys;rw[a9,ba,bb]at aG;have b7:(bV R).length<=40000:=by unfold bV;rw[bR];exact bf
 have b8:(jv R YS).length<=40000:=by unfold jv;rw[bR];omega
 have bm:¬(R=[]\/x2<x1\/y2<y1):=by
  rintro(h|h|h)
  .subst h;simp at z
  .omega
  .omega
 have aF:ky R YS x1 x2 y1 y2=((down YS (lL R) y1 y2 (aW (bV R) x1).1 (aU (bV R) x2).1 (dP 0 R.length)).1,
   (aW (bV R) x1).2+(aU (bV R) x2).2+(aW (jv R YS) y1).2+(aU (jv R YS) y2).2+(down YS (lL R) y1 y2 (aW (bV R) x1).1 (aU (bV R) x2).1 (dP 0 R.length)).2):=by unfold ky;rw[aN bm]
 have bM:=gy (fun i=>decide (x1<=(bV R).getD i 0)) (bV R).length;have bN:=gy (fun i=>decide (x2<(bV R).getD i 0)) (bV R).length;have bO:=gy (fun i=>decide (y1<=(jv R YS).getD i 0)) (jv R YS).length;have bP:=gy (fun i=>decide (y2<(jv R YS).getD i 0)) (jv R YS).length;have aT:∀W',Below W.heap.size W W'->aK 172 #[aj tb,ae (2*R.length-2:Nat),ae (aW (jv R YS) y1).1,ae (aU (jv R YS) y2).1,.agg #[ae (aW (bV R) x1).1,ae (aU (bV R) x2).1,.func (.func F) #[] cb]] W' (S9 S W' D (down YS (lL R) y1 y2 (aW (bV R) x1).1 (aU (bV R) x2).1 (dP 0 R.length)).1 (down YS (lL R) y1 y2 (aW (bV R) x1).1 (aU (bV R) x2).1 (dP 0 R.length)).2):=fun W' m=>by
  obtain⟨w1,w2,w3⟩:=bJ 0 R.length z;have bZ:=fA 0 R.length z;have h:=LU F cb (aX R.length) (jN R) YS V.LN V.LL tb B w0 S (lL R) y1 y2 (aW (bV R) x1).1 (aU (bV R) x2).1 (yo bc.symm) aC au (ar.dn z) K.le bL (by rw[dh];omega) aa (by unfold aW;omega) (by unfold aU;omega) (dP 0 R.length) 0 (jU R.length z) w1 aa W' [] D (au.jE _ _ _ _ hS m) (by rw[fQ,<-hF,aF];exact List.prefix_refl _);rw[K.top z,fQ]at h;rw[Oi K,QS K];have e:(dP 0 R.length).root 0=2*R.length-2:=by unfold FT.root;omega
  rw[e]at h;exact h
 have bo:=mE (YS:=YS) (yv:=lL R) (y1:=y1) (y2:=y2) (fr:=(aW (bV R) x1).1) (ub:=(aU (bV R) x2).1) (dP 0 R.length);rw[fA 0 R.length z]at bo;rw[aF];have a7:=ag aT;have aV:∀W',Below W.heap.size W W'->aK 95 #[aj fb] W' fun e w'=>e=.returned (ae ((2*R.length-2:Nat):Int))/\w'=W':=fun W' m=>by
  have bi:=(m.block fb bD).trans y.iH.blk;exact jF fb R.length z aa W' (aD bi) (aD bi)
 have a8:=ag aV;have aY:=fun W' (m:Below W.heap.size W W')=>EX ac (bV R) ad x1 W' (aP.below m) aa;have aZ:=fun W' (m:Below W.heap.size W W')=>EY ac (bV R) ad x2 W' (aP.below m) aa;have a0:=fun W' (m:Below W.heap.size W W')=>EX ai (jv R YS) al y1 W' (aQ.below m) aa;have a1:=fun W' (m:Below W.heap.size W W')=>EY ai (jv R YS) al y2 W' (aQ.below m) aa;have b2:(aW (bV R) x1).2<=40000:=by unfold aW;omega
 have b3:(aU (bV R) x2).2<=40000:=by unfold aU;omega
 have b4:(aW (jv R YS) y1).2<=40000:=by unfold aW;omega
 have b5:(aU (jv R YS) y2).2<=40000:=by unfold aU;omega
 have b6:(down YS (lL R) y1 y2 (aW (bV R) x1).1 (aU (bV R) x2).1 (dP 0 R.length)).2<=80000:=aa;clear aT aV aF bm bM bN bO bP bo aP aQ ba bb hF au hS ar;generalize down YS (lL R) y1 y2 (aW (bV R) x1).1 (aU (bV R) x2).1 (dP 0 R.length)=P at*;generalize bE:aW (bV R) x1=L at*;generalize bF:aU (bV R) x2=M at*;generalize bG:aW (jv R YS) y1=N at*;generalize bI:aU (jv R YS) y2=O at*;generalize bj:(bV R).length=aL at*;generalize bk:(jv R YS).length=aO at*;obtain⟨w1,Q⟩:∃w1,w1=W.alloc (.cells #[ae x1,ae x2,ae y1,ae y2,ak aE] 38):=⟨_,rfl⟩;have av:Below W.heap.size W w1:=by rw[Q];exact(aI _ _).alloc (aB _) _
 have ab:w1.heap[W.heap.size]? =some (.cells #[ae x1,ae x2,ae y1,ae y2,ak aE] 38 (0,0)):=by rw[Q];exact bW W _
 have T:=(av.block tb bn).trans aG;have bw:w1.cell? (af tb 0)=some (.slice bQ R.length bS):=aD T;have j:w1.cell? (af tb 1)=some (.slice ac aL ad):=by simp[World.cell?,T,bj]
 have b:w1.cell? (af tb 3)=some (aj fb):=aD T;have l:w1.cell? (af tb 6)=some (.slice ai aO al):=by simp[World.cell?,T,bk]
 have c:w1.cell? (af W.heap.size 0)=some (ae x1):=aD ab;have d:w1.cell? (af W.heap.size 1)=some (ae x2):=aD ab;have f:w1.cell? (af W.heap.size 2)=some (ae y1):=aD ab;have g:w1.cell? (af W.heap.size 3)=some (ae y2):=aD ab;have bp:=yG tb fb w1 b;have am:=ag av;obtain⟨n,bl⟩:∃n,n=R.length:=⟨_,rfl⟩;rw[<-bl]at bw z bf a8 a7;have d1:((n:Int)==0)=false:=aH;have d2:(n==0)=false:=aH;have d3:decide (n=0)=false:=aH;have f1:decide (x1>x2)=false:=aH;have f2:decide (x2<x1)=false:=aH;have bT:decide (y1>y2)=false:=aH;have bU:decide (y2<y1)=false:=aH;have bs:=ag aY;have bt:=ag aZ;have bu:=ag a0;have bv:=ag a1;have bK:W.heap.size<=w1.heap.size:=av.size;clear T ab av aG bl aY aZ a0 a1 bE bF bG bI bj bk y K bC a9 bh;have aw:tb<w1.heap.size:=bX bn bK;have U:W.heap.size<w1.heap.size:=by rw[Q];simp
 go_enter func104,ntmps104
 go_wp2_with fail
 rw[<-Q];clear Q
 go_wp2_with (go_at_call 169;refine bp.mono ?_;rintro e w' ⟨rfl,bz⟩;subst w')
 have a3:Hid (∀p:aS w1,aK 170 #[.slice ac aL ad,ae x1] p.W fun e w'=>e=.returned (.tuple #[ae L.1,ae L.2])/\Below p.W.heap.size p.W w'):=fun p=>bs.o _ (am.o.trans (p.h.mono am.o.size));have H:=ah j;have J:=ah l;have I:=ah b;have A:=ah c;have C:=ah d;have E:=ah f;have G:=ah g;refine bH aM aM ?_
 repeat(quiet_step ((go_at_call 170;exact dL (a3.o _))))
 refine jP ?_;intro w2 q;have a:Below w1.heap.size w1 w2:=by obtain⟨p,rfl⟩:=q;exact p.h
 have an:=ag (am.o.trans (a.mono am.o.size));have v:=(a.cell (p:=(af tb 1)) aw).trans j;have x:=(a.cell (p:=(af tb 6)) aw).trans l;have w:=(a.cell (p:=(af tb 3)) aw).trans b;have r:=(a.cell (p:=(af W.heap.size 0)) U).trans c;have s:=(a.cell (p:=(af W.heap.size 1)) U).trans d;have t:=(a.cell (p:=(af W.heap.size 2)) U).trans f;have u:=(a.cell (p:=(af W.heap.size 3)) U).trans g;have ay:=bX aw a.size;have X:=bX U a.size;clear q a a3 H J I A C E G j l b c d f g;have j:=v;clear v;have l:=x;clear x;have b:=w;clear w;have c:=r;clear r;have d:=s;clear s;have f:=t;clear t;have g:=u;clear u
 go_wp2_with fail
 have a4:Hid (∀p:aS w2,aK 171 #[.slice ac aL ad,ae x2] p.W fun e w'=>e=.returned (.tuple #[ae M.1,ae M.2])/\Below p.W.heap.size p.W w'):=fun p=>bt.o _ (an.o.trans (p.h.mono an.o.size));have H:=ah j;have J:=ah l;have I:=ah b;have A:=ah c;have C:=ah d;have E:=ah f;have G:=ah g;refine bH aM aM ?_
 repeat(quiet_step ((go_at_call 171;exact dL (a4.o _))))
 refine jP ?_;intro w3 q;have a:Below w2.heap.size w2 w3:=by obtain⟨p,rfl⟩:=q;exact p.h
 have ao:=ag (an.o.trans (a.mono an.o.size));have v:=(a.cell (p:=(af tb 1)) ay).trans j;have x:=(a.cell (p:=(af tb 6)) ay).trans l;have w:=(a.cell (p:=(af tb 3)) ay).trans b;have r:=(a.cell (p:=(af W.heap.size 0)) X).trans c;have s:=(a.cell (p:=(af W.heap.size 1)) X).trans d;have t:=(a.cell (p:=(af W.heap.size 2)) X).trans f;have u:=(a.cell (p:=(af W.heap.size 3)) X).trans g;have az:=bX ay a.size;have Y:=bX X a.size;clear q a a4 H J I A C E G j l b c d f g;have j:=v;clear v;have l:=x;clear x;have b:=w;clear w;have c:=r;clear r;have d:=s;clear s;have f:=t;clear t;have g:=u;clear u
 go_wp2_with fail
 have a5:Hid (∀p:aS w3,aK 170 #[.slice ai aO al,ae y1] p.W fun e w'=>e=.returned (.tuple #[ae N.1,ae N.2])/\Below p.W.heap.size p.W w'):=fun p=>bu.o _ (ao.o.trans (p.h.mono ao.o.size));have H:=ah j;have J:=ah l;have I:=ah b;have A:=ah c;have C:=ah d;have E:=ah f;have G:=ah g;refine bH aM aM ?_
 repeat(quiet_step ((go_at_call 170;exact dL (a5.o _))))
 refine jP ?_;intro w4 q;have a:Below w3.heap.size w3 w4:=by obtain⟨p,rfl⟩:=q;exact p.h
 have ap:=ag (ao.o.trans (a.mono ao.o.size));have v:=(a.cell (p:=(af tb 1)) az).trans j;have x:=(a.cell (p:=(af tb 6)) az).trans l;have w:=(a.cell (p:=(af tb 3)) az).trans b;have r:=(a.cell (p:=(af W.heap.size 0)) Y).trans c;have s:=(a.cell (p:=(af W.heap.size 1)) Y).trans d;have t:=(a.cell (p:=(af W.heap.size 2)) Y).trans f;have u:=(a.cell (p:=(af W.heap.size 3)) Y).trans g;have aA:=bX az a.size;have Z:=bX Y a.size;clear q a a5 H J I A C E G j l b c d f g;have j:=v;clear v;have l:=x;clear x;have b:=w;clear w;have c:=r;clear r;have d:=s;clear s;have f:=t;clear t;have g:=u;clear u
 go_wp2_with fail
 have a6:Hid (∀p:aS w4,aK 171 #[.slice ai aO al,ae y2] p.W fun e w'=>e=.returned (.tuple #[ae O.1,ae O.2])/\Below p.W.heap.size p.W w'):=fun p=>bv.o _ (ap.o.trans (p.h.mono ap.o.size));have H:=ah j;have J:=ah l;have I:=ah b;have A:=ah c;have C:=ah d;have E:=ah f;have G:=ah g;refine bH aM aM ?_
 repeat(quiet_step ((go_at_call 171;exact dL (a6.o _))))
 refine jP ?_;intro aR q;have a:Below w4.heap.size w4 aR:=by obtain⟨p,rfl⟩:=q;exact p.h
 have aq:=ag (ap.o.trans (a.mono ap.o.size));have v:=(a.cell (p:=(af tb 1)) aA).trans j;have x:=(a.cell (p:=(af tb 6)) aA).trans l;have w:=(a.cell (p:=(af tb 3)) aA).trans b;have r:=(a.cell (p:=(af W.heap.size 0)) Z).trans c;have s:=(a.cell (p:=(af W.heap.size 1)) Z).trans d;have t:=(a.cell (p:=(af W.heap.size 2)) Z).trans f;have u:=(a.cell (p:=(af W.heap.size 3)) Z).trans g;have b0:=bX aA a.size;have bY:=bX Z a.size;clear q a a6 H J I A C E G j l b c d f g;have j:=v;clear v;have l:=x;clear x;have b:=w;clear w;have c:=r;clear r;have d:=s;clear s;have f:=t;clear t;have g:=u;clear u
 go_wp2_with fail
 refine(a8.o aR aq.o).mono ?_;rintro e w' ⟨rfl,bz⟩;subst w'
 go_wp2_with fail
 refine(a7.o aR aq.o).mono ?_;rintro e w6 ⟨rfl,bq,bg,bd,be⟩;have br:Hid (EZ S W D (P.1,L.2+M.2+N.2+O.2+P.2) (.returned (ae (L.2+M.2+N.2+O.2+P.2:Nat))) w6):=
  ⟨rfl,bq,bg,fun k h=>(bd k h).imp id fun bB=>bA aq.o.size bB,(((ax.refl (fun k=>D k\/W.heap.size<=k) W).below aq.o).trans (be.mono fun k h=>.inl h)).strip⟩
 clear bg bd be;go_wp2;go_ret;have a2:=br.o;have bx:((L.2+M.2+N.2+O.2+P.2:Nat):Int)=(((L.2:Int)+(M.2:Int))+(N.2:Int)+(O.2:Int))+(P.2:Int):=aa;rw[bx]at a2;exact a2
theorem Gx {R:List Pt} {gone:List Bool} {YS:List Nat} (c:cz R gone YS) (o:R.length<=40000) (x1 x2 y1 y2:Int):(ky R YS x1 x2 y1 y2).1.length<=R.length/\(ky R YS x1 x2 y1 y2).2<=400000:=by
 unfold ky;split
 .exact⟨bD _,bD _⟩
 .rename_i h;have d:0<R.length:=by
   cases R with
   |nil=>simp at h
   |cons a b=>simp
  have e:y1<=y2:=aa;have⟨w1,w2,w3⟩:=bJ 0 R.length d;refine⟨?_,?_⟩
  .refine yA (Bj _ w1 c.nodup c.le e) fun k f=>?_;have:=((wE _ w1 c.le e k).1 f).1;rw[c.top d]at this;exact c.lt this
  .have p:=gy (fun i=>decide (x1<=(bV R).getD i 0)) (bV R).length;have q:=gy (fun i=>decide (x2<(bV R).getD i 0)) (bV R).length;have r:=gy (fun i=>decide (y1<=(jv R YS).getD i 0)) (jv R YS).length;have s:=gy (fun i=>decide (y2<(jv R YS).getD i 0)) (jv R YS).length;have t:(bV R).length=R.length:=by unfold bV;simp
   have u:(jv R YS).length=YS.length:=by unfold jv;simp
   have v:=c.len;have g:=mE (YS:=YS) (yv:=lL R) (y1:=y1) (y2:=y2) (fr:=(aW (bV R) x1).1) (ub:=(aU (bV R) x2).1) (dP 0 R.length);rw[fA 0 R.length d]at g;show(aW (bV R) x1).2+(aU (bV R) x2).2+(aW (jv R YS) y1).2+(aU (jv R YS) y2).2+_<=_;have j:(aW (bV R) x1).2<=40000:=by unfold aW;omega
   have l:(aU (bV R) x2).2<=40000:=by unfold aU;omega
   have m:(aW (jv R YS) y1).2<=40000:=by unfold aW;omega
   have n:(aU (jv R YS) y2).2<=40000:=by unfold aU;omega
   omega
theorem Gy (F:Nat) (cb:Array Value) (R:List Pt) (gone:List Bool) (YS:List Nat) (V:wN) (lo hi tb fb:Nat) (w0 W:World) (S:World->List Nat->(Nat->Prop)->Prop) (D:Nat->Prop) (x1 x2 y1 y2 c:Int)
  (d:jw w0 lo hi tb fb R gone YS V) (i:cz R gone YS) (f:R.length<=40000)
  (j:Below w0.heap.size w0 W) (k:∀W',Below W.heap.size W W'->S W' [] D)
  (g:0<R.length->Told F cb (aX R.length) YS V.LN V.LL w0.heap.size w0 (ky R YS x1 x2 y1 y2).1 S) (hS:S W [] D):
  aK 104 #[aj tb,.agg #[ae x1,ae x2,ae y1,ae y2,ak c],.func (.func F) #[] cb] W (EZ S W D (ky R YS x1 x2 y1 y2)):=by
 by_cases h:R=[]\/x2<x1\/y2<y1
 .exact Md F cb R gone YS V lo hi tb fb W S D x1 x2 y1 y2 c (d.below j d.fC.2.2.2.2) h k
 .have e:0<R.length:=by
   cases R with
   |nil=>simp at h
   |cons a b=>simp
  exact Me F cb R gone YS V lo hi tb fb _ w0 W S D x1 x2 y1 y2 c d i e aa aa f rfl _ (g e) rfl hS
def VI (w:World) (R:List Pt) (r:List Nat×Nat) (e:Ending) (w':World):Prop:=
 ∃v,e=.returned (.tuple #[v,ae (r.2+r.1.length:Nat)])/\w'.ownsRow w.heap.size 27 1 v r.1.length ((eD (r.1.map (jN R))).map (Value.int .u32))/\Below w.heap.size w w'
theorem Gz {w:World} {lo hi tb fb:Nat} {R:List Pt} {gone:List Bool} {YS:List Nat} {V:wN} (p:jw w lo hi tb fb R gone YS V) (f:cz R gone YS) (s:R.length<=40000) (x1 x2 y1 y2 a:Int):
  aK 39 #[aj tb,.agg #[ae x1,ae x2,ae y1,ae y2,ak a]] w (VI w R (ky R YS x1 x2 y1 y2)):=by
 obtain⟨w1,b⟩:∃w1,w1=(w.alloc (.cells #[ae x1,ae x2,ae y1,ae y2,ak a] 38)).alloc (.cells #[aL] 35):=⟨_,rfl⟩;have i:Below w.heap.size w w1:=by rw[b];exact((aI _ _).alloc (aB _) _).alloc ay _
 have H:w1.heap[w.heap.size+1]? =some (.cells #[aL] 35 (0,0)):=by rw[b];exact Bh w _ _
 have Y:w1.heap[w.heap.size]? =some (.cells #[ae x1,ae x2,ae y1,ae y2,ak a] 38 (0,0)):=by rw[b];exact EG w _ _
 have hS:Tm w.heap.size (w.heap.size+1) (jN R) w w1 [] (fun k=>k=w.heap.size+1\/(aL).ownBlock=some k):=
  ⟨i,aL,H,dx _ _ _ _,rfl⟩
 have⟨W,U⟩:=Gx f s x1 x2 y1 y2;have T:=f.len;have t:=Gy 105 #[aj (w.heap.size+1)] R gone YS V lo hi tb fb w w1 (Tm w.heap.size (w.heap.size+1) (jN R) w) _ x1 x2 y1 y2 a p f s i
  (fun W' g=>by
    have⟨C,v,m,D,E⟩:=hS;exact⟨C.trans (g.mono i.size),v,(g.block _ (aY.1 m).1).trans m,az D g,E⟩)
  (fun F=>Oh (aX R.length) (jN R) YS V.LN V.LL tb w.heap.size (w.heap.size+1) w _ aa aa rfl (p.dn F) aa) hS
 generalize ky R YS x1 x2 y1 y2=r at*;have x:=ag t;have X:r.1.length<=40000:=aa;go_enter func39,ntmps39
 go_wp2_with fail
 rw[<-b];refine x.o.mono ?_;rintro e w2 ⟨rfl,O,⟨G,v,c,d,rfl⟩,Q,S⟩;have z:=ag d;have j:=ag G;have P:=ag c;have L:w2.cell? (af (w.heap.size+1) 0)=some v:=aD c;have K:∀n,v.ownBlock=some n->w.heap.size+1≠n:=bn d c ai;have B:=ag K;have I:=(aY.1 c).1;have u:=ag (zY (l:=r.1.map (jN R)) d aa);obtain⟨M,N,rfl⟩:=fI d
 go_wp2_with fail
 refine u.o.mono ?_;rintro e w3 ⟨rfl,J,q⟩;have A:=ag J;have Z:w3.cell? (af (w.heap.size+1) 0)=some (.slice M r.1.length N):=((cu q I (fun h=>B.o _ h rfl)).1 0).trans L;have y:Hid (Below w.heap.size w w3):=j.o.trans (q.toBelow j.o.size (fun k h=>(z.o.lt k h).1))
 go_wp2_with fail
 go_quiet (fail)
 go_wp2;go_ret2;exact⟨_,rfl,A.o,y.o.trans (Below.bu _ _)⟩
theorem Jn {w:World} {lo hi tb fb:Nat} {R:List Pt} {gone:List Bool} {YS:List Nat} {V:wN} (p:jw w lo hi tb fb R gone YS V) (g:cz R gone YS) (f:R.length<=40000) (x1 x2 y1 y2 a:Int):
  aK 82 #[aj tb,.agg #[ae x1,ae x2,ae y1,ae y2,ak a]] w fun e w'=>
   e=.returned (.tuple #[ae (ky R YS x1 x2 y1 y2).1.length,ae (ky R YS x1 x2 y1 y2).2])/\Below w.heap.size w w':=by
 obtain⟨w1,b⟩:∃w1,w1=(w.alloc (.cells #[ae x1,ae x2,ae y1,ae y2,ak a] 38)).alloc (.cells #[ae 0] 3):=⟨_,rfl⟩;have c:Below w.heap.size w w1:=by rw[b];exact((aI _ _).alloc (aB _) _).alloc ay _
 have s:w1.heap[w.heap.size+1]? =some (.cells #[ae 0] 3 (0,0)):=by rw[b];exact Bh w _ _
 have B:w1.heap[w.heap.size]? =some (.cells #[ae x1,ae x2,ae y1,ae y2,ak a] 38 (0,0)):=by rw[b];exact EG w _ _
 have hS:Tk w.heap.size (w.heap.size+1) w w1 [] (fun k=>k=w.heap.size+1):=⟨c,s,rfl⟩;have⟨A,z⟩:=Gx g f x1 x2 y1 y2;have i:=Gy 158 #[aj (w.heap.size+1)] R gone YS V lo hi tb fb w w1 (Tk w.heap.size (w.heap.size+1) w) _ x1 x2 y1 y2 a p g f c
  (fun W' h=>by
    have⟨m,d,n⟩:=hS;exact⟨m.trans (h.mono c.size),(h.block _ (aY.1 d).1).trans d,n⟩)
  (fun v=>Og (aX R.length) (jN R) YS V.LN V.LL tb w.heap.size (w.heap.size+1) w _ aa aa rfl) hS
 generalize ky R YS x1 x2 y1 y2=r at*;have l:=ag i;go_enter func82,ntmps82
 go_wp2_with fail
 rw[<-b];refine l.o.mono ?_;rintro e w2 ⟨rfl,u,⟨q,t,rfl⟩,x,y⟩;have j:=ag q;have C:w2.cell? (af (w.heap.size+1) 0)=some (ae r.1.length):=aD t;go_wp2;go_ret2;exact⟨rfl,j.o⟩
end
end Go.Proofs.YtkjdbndekceffaaGreat
