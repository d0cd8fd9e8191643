/- Made small by a program. -/
import Derived.Test.YtkjdbndekceffaaGreatX17
set_option linter.unusedSimpArgs false
set_option linter.unusedVariables false
set_option maxRecDepth 100000
set_option maxHeartbeats 16000000
namespace Go.Proofs.YtkjdbndekceffaaGreat
open Tryz
section
open Go.RowKit Go.Maps
attribute [local irreducible] wpQuiet
section
variable {W:World} {base A Cb:Nat} {bv pv lv cv:Value} {bh ch:List lU} {al:List Bool} {pl:List Int} {n N wk:Int}
theorem dU.rows {W':World} {l j:Value} {al':List Bool} {pl':List Int} (h:dU W base A Cb bv pv lv cv bh ch al pl n N wk) (K:ax (fun k=>k=A\/pv.ownBlock=some k\/lv.ownBlock=some k) W W')
  (hb:W'.heap[A]? =some (Obj.cells #[.pointer (some ⟨Cb,0,none⟩),bv,l,j,.int .i64 n] 207 (0,0)))
  (hp:W'.ownsRow base 3 1 l pl'.length (pl'.map (Value.int .i64))) (q:W'.ownsRow base 4 1 j al'.length (al'.map Value.bool)):dU W' base A Cb bv l j cv bh ch al' pl' n N wk:=by
 have c:∀{b:Nat} {cs:Array Value} {t:TypeId} {fr:Nat×Nat},W.heap[b]? =some (Obj.cells cs t fr)->t≠207->t≠3->t≠4->¬(b=A\/pv.ownBlock=some b\/lv.ownBlock=some b):=by
  rintro b cs t fr hb d f i (h9|h9|h9)
  .exact dY hb h.blk d h9
  .exact bn h.iL hb f _ h9 rfl
  .exact bn h.dO hb i _ h9 rfl
 have p:∀{e:TypeId} {sz:Nat} {v:Value} {n:Nat} {xs:List Value},W.ownsRow base e sz v n xs->e≠207->e≠3->e≠4->W'.ownsRow base e sz v n xs:=fun o d f i=>
  aR o K fun u e=>by
   rcases o.2 with⟨rfl,_⟩|⟨g,s,m,rfl,_,r,_⟩
   .cases e
   .simp only[Value.ownBlock,jq]at e;subst e;exact c r d f i
 exact⟨h.hb,hb,⟨h.fJ.hb,h.fJ.ds,bq K h.fJ.blk (c h.fJ.blk ai ai ai),p h.fJ.row ai ai ai⟩,p h.gN ai ai ai,hp,q,
  h.bE.kept fun b m fr a=>K.block b (aY.1 a).1 (c a ai ai ai),h.cE.kept fun b m fr a=>K.block b (aY.1 a).1 (c a ai ai ai),h.sep⟩
theorem sV {w:World} {A i:Nat} {cs a:Array Value} {t:TypeId} {v:Value} (h:w.heap[A]? =some (Obj.cells cs t (0,0))) (e:a=cs.setIfInBounds i v):(w.setCell ⟨A,i,none⟩ v).heap[A]? =some (Obj.cells a t (0,0)):=by
 rw[di w A i _ _ _ h,e]
structure df (W:World) (base A Cb:Nat) (bv pv lv cv:Value) (bh ch:List lU) (al:List Bool) (pl:List Int) (n N wk:Int):Prop where
 hb:base<=A
 blk:W.heap[A]? =some (Obj.cells #[.pointer (some ⟨Cb,0,none⟩),bv,pv,lv,.int .i64 n] 207 (0,0))
 fJ:iW W base Cb cv ch N wk
 gN:W.ownsRow base 209 1 bv bh.length (bh.map dW)
 iL:W.ownsRow base 3 1 pv pl.length (pl.map (Value.int .i64))
 dO:W.ownsRow base 4 1 lv al.length (al.map Value.bool)
 sep:bv.ownBlock=none\/bv.ownBlock≠cv.ownBlock
theorem dU.core (h:dU W base A Cb bv pv lv cv bh ch al pl n N wk):df W base A Cb bv pv lv cv bh ch al pl n N wk:=⟨h.hb,h.blk,h.fJ,h.gN,h.iL,h.dO,h.sep⟩
theorem df.rep (h:df W base A Cb bv pv lv cv bh ch al pl n N wk) (hb:jX W bh) (a:jX W ch):dU W base A Cb bv pv lv cv bh ch al pl n N wk:=⟨h.hb,h.blk,h.fJ,h.gN,h.iL,h.dO,hb,a,h.sep⟩
theorem df.cell (h:df W base A Cb bv pv lv cv bh ch al pl n N wk):
  W.cell? ⟨A,0,none⟩=some (.pointer (some ⟨Cb,0,none⟩))/\W.cell? ⟨A,1,none⟩=some bv/\W.cell? ⟨A,2,none⟩=some pv/\W.cell? ⟨A,3,none⟩=some lv/\W.cell? ⟨A,4,none⟩=some (.int .i64 n):=by
 have:=h.blk;refine⟨?_,?_,?_,?_,?_⟩<;>simp[World.cell?,this]
theorem df.frozen (h:df W base A Cb bv pv lv cv bh ch al pl n N wk) (j:Nat):W.frozen? ⟨A,j,none⟩=false:=by
 have:=h.blk;simp[World.frozen?,this]
theorem df.lt (h:df W base A Cb bv pv lv cv bh ch al pl n N wk):A<W.heap.size:=(aY.1 h.blk).1
theorem df.below {W':World} (h:df W base A Cb bv pv lv cv bh ch al pl n N wk) (hb:Below W.heap.size W W'):df W' base A Cb bv pv lv cv bh ch al pl n N wk:=
 ⟨h.hb,(aP hb h.blk).trans h.blk,h.fJ.below hb,az h.gN hb,az h.iL hb,az h.dO hb,h.sep⟩
def oz (A Cb:Nat) (bv pv lv cv:Value) (k:Nat):Prop:=k=A\/k=Cb\/bv.ownBlock=some k\/pv.ownBlock=some k\/lv.ownBlock=some k\/cv.ownBlock=some k
theorem df.add {W':World} {c:Value} {i:List lU} {g l:Int} (h:df W base A Cb bv pv lv cv bh ch al pl n N wk) (K:ax (fun k=>k=Cb\/cv.ownBlock=some k) W W') (q:iW W' base Cb c i g l) (r:c.ownBlock=cv.ownBlock\/c.ownBlock=none\/∃b,c.ownBlock=some b/\W.heap.size<=b):
  df W' base A Cb bv pv lv c bh i al pl n g l:=by
 have f:∀{e:TypeId} {sz:Nat} {v:Value} {n:Nat} {xs:List Value},W.ownsRow base e sz v n xs->e≠290->(∀a,v.ownBlock=some a->cv.ownBlock≠some a)->W'.ownsRow base e sz v n xs:=fun j o p=>
  aR j K fun a e=>by
   rintro(h9|h9)
   .exact bn j h.fJ.blk (iT o) a e h9.symm
   .exact p a e h9
 refine⟨h.hb,bq K h.blk ?_,q,f h.gN ai ?_,f h.iL ai (bB h.iL h.fJ.row ai),f h.dO ai (bB h.dO h.fJ.row ai),?_⟩
 .rintro(h9|h9)
  .exact dY h.blk h.fJ.blk ai h9
  .exact bn h.fJ.row h.blk ai _ h9 rfl
 .intro a e m;rcases h.sep with h9|h9
  .rw[h9]at e;cases e
  .exact h9 (e.trans m.symm)
 .rcases r with h9|h9|⟨b,h9,s⟩
  .rw[h9];exact h.sep
  .rw[h9];rcases II bv.ownBlock with d|⟨x,d⟩
   .exact .inl d
   .exact .inr (by rw[d];simp)
  .rw[h9];right;intro e;have:=(h.gN.lt b e).2;omega
theorem df.Vp {g k c:Nat} (h:df W base A Cb (.slice (some ⟨g,0,none⟩) k c) pv lv cv bh ch al pl n N wk) (f:k=bh.length) (m:Nat) (x:lU):df (W.setCell ⟨g,m,none⟩ (dW x)) base A Cb (.slice (some ⟨g,0,none⟩) k c) pv lv cv (bh.set m x) ch al pl n N wk:=by
 subst f;have⟨i,b⟩:=Ag h.gN;have d:∀a,cv.ownBlock=some a->g≠a:=by
  rintro a e rfl;rcases h.sep with h9|h9
  .cases h9
  .exact h9 e.symm
 refine⟨h.hb,(aF (dY b h.blk ai)).trans h.blk,⟨h.fJ.hb,h.fJ.ds,(aF (dY b h.fJ.blk ai)).trans h.fJ.blk,aZ h.fJ.row fun a e=>aF (d a e)⟩,?_,aZ h.iL fun a e=>aF (bn h.iL b ai a e),aZ h.dO fun a e=>aF (bn h.dO b ai a e),h.sep⟩;rw[kM,kP];exact(h.gN.stored m (dW x)).1
theorem df.Qg {W':World} {c:Value} {bh':List lU} (h:df W base A Cb bv pv lv cv bh ch al pl n N wk) (j:W.grownBy W' bv.ownBlock) (i:W'.ownsRow base 209 1 c bh'.length (bh'.map dW)) (m:c.ownBlock=bv.ownBlock\/c.ownBlock=none\/∃b,c.ownBlock=some b/\W.heap.size<=b):
  df (W'.setCell ⟨A,1,none⟩ c) base A Cb c pv lv cv bh' ch al pl n N wk:=by
 have K:ax (fun k=>bv.ownBlock=some k) W W':=(ax.refl _ W).grown j (fun k l=>.inl l);have f:W'.heap[A]? =some (Obj.cells #[.pointer (some ⟨Cb,0,none⟩),bv,pv,lv,.int .i64 n] 207 (0,0)):=bq K h.blk fun e=>bn h.gN h.blk ai _ e rfl;have g:W'.ownsRow base 209 1 cv ch.length (ch.map dW):=aR h.fJ.row K fun a e d=>by
  rcases h.sep with h9|h9
  .rw[h9]at d;cases d
  .exact h9 (d.trans e.symm)
 have o:c.ownBlock=none\/c.ownBlock≠cv.ownBlock:=by
  rcases m with h9|h9|⟨b,h9,p⟩
  .rw[h9];exact h.sep
  .exact .inl h9
  .rw[h9];right;intro e;have:=(h.fJ.row.lt b e.symm).2;omega
 refine⟨h.hb,sV f rfl,⟨h.fJ.hb,h.fJ.ds,(aF (dY h.blk h.fJ.blk ai)).trans (bq K h.fJ.blk fun e=>bn h.gN h.fJ.blk ai _ e rfl),aZ g fun a e=>aF (bn g f ai a e)⟩,
  aZ i fun a e=>aF (bn i f ai a e),?_,?_,o⟩
 .have:=aR h.iL K fun a e d=>bB h.iL h.gN ai a e d;exact aZ this fun a e=>aF (bn this f ai a e)
 .have:=aR h.dO K fun a e d=>bB h.dO h.gN ai a e d;exact aZ this fun a e=>aF (bn this f ai a e)
end
section
variable {W:World} {base A Cb:Nat} {bv pv lv cv:Value} {bh ch:List lU} {al:List Bool} {pl:List Int} {n N wk:Int}
theorem df.WE {W':World} {d k:Nat} {v:Value} {xs:List Value} (h:df W base A Cb bv pv lv cv bh ch al pl n N wk) (c:W.ownsRow d 204 2 v k xs) (f:W.grownBy W' v.ownBlock):df W' base A Cb bv pv lv cv bh ch al pl n N wk:=by
 have K:ax (fun k=>v.ownBlock=some k) W W':=(ax.refl _ W).grown f (fun k g=>.inl g);exact⟨h.hb,bq K h.blk fun e=>bn c h.blk ai _ e rfl,⟨h.fJ.hb,h.fJ.ds,bq K h.fJ.blk fun e=>bn c h.fJ.blk ai _ e rfl,aR h.fJ.row K fun b e a=>bB h.fJ.row c ai b e a⟩,
  aR h.gN K fun b e a=>bB h.gN c ai b e a,aR h.iL K fun b e a=>bB h.iL c ai b e a,aR h.dO K fun b e a=>bB h.dO c ai b e a,h.sep⟩
theorem df.fq {W':World} (h:df W base A Cb bv pv lv cv bh ch al pl n N wk) {T:Nat->Prop} (K:ax (fun k=>oz A Cb bv pv lv cv k\/T k) W W') (b:Nat) (a:Array Value) (fr:Nat×Nat) (hb:W.heap[b]? =some (Obj.cells a 204 fr)) (c:¬T b):W'.heap[b]? =W.heap[b]? :=by
 refine K.block b (aY.1 hb).1 ?_;rintro((h9|h9|h9|h9|h9|h9)|h9)
 .exact dY hb h.blk ai h9
 .exact dY hb h.fJ.blk ai h9
 .exact bn h.gN hb ai _ h9 rfl
 .exact bn h.iL hb ai _ h9 rfl
 .exact bn h.dO hb ai _ h9 rfl
 .exact bn h.fJ.row hb ai _ h9 rfl
 .exact c h9
def zh (A:Nat) (w:World):Nat:=match w.cell? ⟨A,1,none⟩with|some (.slice _ n _)=>n|_=>0
theorem df.zh (h:df W base A Cb bv pv lv cv bh ch al pl n N wk):zh A W=bh.length:=by
 obtain⟨av,a,rfl,-,-,-⟩:=Rd.aJ (enc:=dW) h.gN;unfold Proofs.YtkjdbndekceffaaGreat.zh;rw[h.cell.2.1]
end
def Dl (bh:List lU) (k:Nat):List lU:=List.replicate k fK++bh.drop k
theorem FK {bh:List lU} {k:Nat} (a:k<=bh.length):(Dl bh k).length=bh.length:=by simp[Dl];omega
theorem RZ {bh:List lU} {k:Nat} (a:k<bh.length):(Dl bh k).set k fK=Dl bh (k+1):=by
 unfold Dl;rw[uu _ _ ay,iA,iR,mJ a,oF,rA,ed];rfl
theorem R3 {bh a:List lU} {i:Nat} (h:a=bh/\i<bh.length\/a=bh++[fK]/\i=bh.length) (hd:lU):((Dl a i).set i hd).map (·.2.1)=List.replicate i []++hd.2.1::(bh.map (·.2.1)).drop (i+1):=by
 have c:i<a.length:=by rcases h with⟨rfl,h⟩|⟨rfl,h⟩<;>first|omega|(simp;omega)
 have b:(a.drop (i+1)).map (·.2.1)=(bh.map (·.2.1)).drop (i+1):=by
  rcases h with⟨rfl,h⟩|⟨rfl,h⟩
  .rw[yg]
  .rw[oC aH,oC aH];rfl
 unfold Dl;rw[uu _ _ ay,iA,iR,mJ c,oF,bM,l8,b,Et]
theorem Lr {bh a:List lU} {i:Nat} (c:a=bh/\i<bh.length\/a=bh++[fK]/\i=bh.length) {hd h:lU} (d:h∈(Dl a i).set i hd):h=hd\/h=fK\/h∈bh:=by
 rcases Ei d with h1|h1
 .unfold Dl at h1;rw[bT]at h1;rcases h1 with h1|h1
  .exact .inr (.inl (AL.1 h1).2)
  .have b:=IV h1;rcases c with⟨rfl,-⟩|⟨rfl,-⟩
   .exact .inr (.inr b)
   .rcases bT.1 b with h3|h3
    .exact .inr (.inr h3)
    .exact .inr (.inl (aQ h3))
 .exact .inl h1
theorem xH {w:World} {base n:Nat} {v:Value} {l:List ji} (a:l.length=n) (j:n<4611686018427387904) (h:w.ownsRow base 204 2 v n (l.flatMap iN)) (p:base<=w.heap.size):
  Calls prog 133 #[v] w fun e w'=>e=.returned v/\∃l':List ji,l'.Perm l/\l'.Pairwise (fun x y=>x.1<=y.1)/\w'.ownsRow base 204 2 v n (l'.flatMap iN)/\w.grownBy w' v.ownBlock:=by
 rcases h.2 with⟨rfl,b⟩|⟨g,k,m,rfl,q,_⟩
 .subst b;obtain rfl:l=[]:=gU a;have d:=ag h;go_enter func133,ntmps133
  go_wp2_with fail
  refine(E9 none 0 _ w).mono ?_;rintro e w' ⟨rfl,rfl⟩;go_wp2;go_ret;exact⟨rfl,[],pR _,List.Pairwise.nil,d.o,⟨rfl,rfl,rfl,aB _,fun _ _ _=>rfl⟩⟩
 .have C:=ag (Q3 a j h);go_enter func133,ntmps133
  go_wp2_with fail
  refine C.o.mono ?_;rintro e w' ⟨rfl,l',hp,i,f,c⟩;go_wp2;go_ret;exact⟨rfl,l',hp,i,f,c⟩
section
variable {W:World} {base A Cb:Nat} {bv pv lv cv:Value} {bh ch:List lU} {al:List Bool} {pl:List Int} {n N wk:Int}
def R4 (W:World) (base A Cb:Nat) (bv pv lv cv:Value) (bh ch:List lU) (al:List Bool) (pl:List Int) (n N id p:Int) (e:Ending) (w':World):Prop:=
 ∃(SB Wp Wo CW:Value) (bh' qV:List lU) (KI:Int),e=.returned (.int .i64 0)/\dU w' base A Cb SB Wp Wo CW bh' qV (al++[true]) (pl++[p]) (n+1) (N+1) KI/\q9 (qV.map (·.2.1)) (bh'.map (·.2.1)) (al++[true]) (pl++[p]) (n+1) (N+1)/\
  (qV.map (·.2.1)).flatten.Perm ((id,(al.length:Int))::(ch.map (·.2.1)).flatten)/\(∀k,oz A Cb SB Wp Wo CW k->oz A Cb bv pv lv cv k\/W.heap.size<=k)/\ax (oz A Cb bv pv lv cv) W w'/\Nw W.heap.size bh bh'/\Nw W.heap.size ch qV
theorem Kl (h:dU W base A Cb bv pv lv cv bh ch al pl n N wk) (dS:base<=W.heap.size) (aP:q9 (ch.map (·.2.1)) (bh.map (·.2.1)) al pl n N) (dj:al.length<5000) (id p:Int) (bL:∀x∈(ch.map (·.2.1)).flatten,x.1≠id):
  Calls prog 56 #[.pointer (some ⟨A,0,none⟩),.int .u32 id,.int .i64 p] W (R4 W base A Cb bv pv lv cv bh ch al pl n N id p):=by
 have b2:=ag (GL h);have H:=ag h;have af:=aP.Tz;have cc:=ag (fun W' (F:Below W.heap.size W W')=>sJ A id W' _ bh bv base ((h.below F).cell.2.1) (h.below F).gN rfl (h.below F).bE aP.sorted (by have:=af.1;simp at this;omega) (fun l c5=>by have:=af.2.2.1 l c5;omega));have ee:0<=n/\n<=5000:=by
  have h1:=aP.cnt;have Y:al.count true<=al.length:=IW;omega
 have aj:=ag aP;go_enter func56,ntmps56
 go_wp2_with fail
 refine b2.o.mono ?_;rintro e w2 ⟨rfl,an⟩
 go_wp2_with fail
 refine(cc.o w2 an).mono ?_;rintro e w3 ⟨k,t,rfl,ht,m,cW⟩;have aS:=an.trans (cW.mono an.size);have a1:=ag (H.o.below aS);have⟨dw,dx,dy,dz,dA⟩:=a1.o.cell;have c4:k=-1:=by
  rcases m with⟨y,bV,h1,Y⟩|⟨rfl,-⟩
  .rw[ib aj.o.perm]at bV;exact absurd h1 (bL _ bV)
  .rfl
 subst c4;have f4:=a1.o.frozen 4;have a3:=a1.o.Tw (n+1);have ci:=ag aj.o.len;have ef:pl.length<5000:=by have:=ci.o;omega
 have u:=ag (a3.below ((aI _ _).alloc (aB _) (.cells #[.int .u32 id,.int .i64 (al.length:Int)] 204)));have bk:Hid (ax (fun k=>k=A) W ((w3.setCell ⟨A,4,none⟩ (.int .i64 (n+1))).alloc (.cells #[.int .u32 id,.int .i64 (al.length:Int)] 204))):=((((ax.refl (fun k=>k=A) W).below aS).set (a:=⟨A,4,none⟩) _ (.inl rfl)).alloc _);have ds:((w3.setCell ⟨A,4,none⟩ (.int .i64 (n+1))).alloc (.cells #[.int .u32 id,.int .i64 (al.length:Int)] 204)).cell? ⟨w3.heap.size,0,none⟩=some (.int .u32 id):=by rw[eF _ _ _ _ ay];rfl
 have x1:((w3.setCell ⟨A,4,none⟩ (.int .i64 (n+1))).alloc (.cells #[.int .u32 id,.int .i64 (al.length:Int)] 204)).cell? ⟨w3.heap.size,1,none⟩=some (.int .i64 (al.length:Int)):=by rw[eF _ _ _ _ ay];rfl
 have bT:w3.heap.size<((w3.setCell ⟨A,4,none⟩ (.int .i64 (n+1))).alloc (.cells #[.int .u32 id,.int .i64 (al.length:Int)] 204)).heap.size:=ay;have dQ:W.heap.size<=w3.heap.size:=aS.size;have cA:=ag ds;have cC:=ag x1;have⟨d0,d1,d2,d3,d4⟩:=a3.cell;obtain⟨dn,dm,c9,-,-,-⟩:=Rd.aJ a3.dO;subst c9
 go_upto_region 11 with fail
 generalize((w3.setCell ⟨A,4,none⟩ (.int .i64 (n+1))).alloc (.cells #[.int .u32 id,.int .i64 (al.length:Int)] 204))=ah at*;generalize Value.slice dn al.length dm=M at*
 go_cut []from 61 to 79 (fun D=>∃s r,Hid (dU D base A Cb bv s r cv bh ch (al++[true]) (pl++[p]) (n+1) N wk)/\Hid (s.ownBlock=pv.ownBlock\/∃b,s.ownBlock=some b/\W.heap.size<=b)/\Hid (r.ownBlock=M.ownBlock\/∃b,r.ownBlock=some b/\W.heap.size<=b)/\Hid (ax (fun k=>k=A\/pv.ownBlock=some k\/M.ownBlock=some k) ah D))
 case first=>
  obtain⟨-,bY,dp,eg,-⟩:=u.o.cell;have dG:∀j,ah.frozen? ⟨A,j,none⟩=false:=u.o.frozen;have dI:=u.o.lt;have dN:=H.o.lt;have dd:∀d,pv.ownBlock=some d->d<ah.heap.size/\d≠A:=fun d e=>⟨(u.o.iL.lt d e).2,fun a6=>bn u.o.iL u.o.blk ai d e a6.symm⟩;have c7:∀d,M.ownBlock=some d->d<ah.heap.size/\d≠A:=fun d e=>⟨(u.o.dO.lt d e).2,fun a6=>bn u.o.dO u.o.blk ai d e a6.symm⟩;have de:∀d,pv.ownBlock=some d->M.ownBlock≠some d:=fun d e e2=>by
   rcases u.o.dO.2 with⟨rfl,_⟩|⟨g,dC,X,rfl,_,aq,_⟩
   .cases e2
   .simp only[Value.ownBlock,jq]at e2;subst e2;exact bn u.o.iL aq ai _ e rfl
  have aE:=ag dd;have aA:=ag c7;have bj:=ag de;have dT:base<=ah.heap.size:=by have:=bk.o.size;omega
  have cQ:=u.o.blk
  go_region_law (first
   |(refine bC yx base (aR (S:=fun _=>False) u.o.dO (by repeat(first|exact ax.refl _ _|refine ax.drew ?_|refine ax.alloc ?_ _)) (fun _ _ h=>h)) [.bool true] rfl (by simp[Value.oneCell']) rfl (.tmp 66) (.tmp 67) rfl rfl _ rfl (by first|exact jr _ _|exact Dr _ _ _|exact Dt _ _ _) dJ aa (by first|(simp;done)|(simp;omega)) ?_
     intro ak cD b0 cS Z bt dL;have⟨eh,ei⟩:=cu ((ax.refl (fun k=>M.ownBlock=some k) _).grown Z (fun k m=>.inl m)) (b:=A) (by first|(simp;done)|(simp;omega)) (fun e=>(aA.o _ e).2 rfl);have dM:A<b0.heap.size:=by(have:=Z.size;simp at this;omega)
     have aT:Hid (ak≠A/\pv.ownBlock≠some ak/\(M.ownBlock=some ak\/W.heap.size<=ak)):=(by
      rcases bt with h9|h9
      .exact⟨(aA.o _ h9).2,fun e=>bj.o _ e h9,.inl h9⟩
      .simp at h9;exact⟨aa,fun e=>by(have:=(aE.o _ e).1;omega),.inr aa⟩)
     clear bt)
   |(refine bC nG base (aR (S:=fun k=>M.ownBlock=some k) u.o.iL (by repeat(first|exact ax.refl _ _|refine ax.drew ?_|refine ax.alloc ?_ _|refine ax.grown ?_ Z (fun k m=>.inl m))) (fun d e e2=>bj.o d e e2)) [.int .i64 p] rfl (by simp[Value.oneCell']) rfl (.tmp 72) (.tmp 74) rfl rfl _ rfl (by first|exact bW _ _|(refine(Z.block _ (by first|(simp;done)|(simp;omega)) (fun e=>by have:=(aA.o _ e.symm).1;omega)).trans ?_;first|exact jr _ _|exact Dr _ _ _|exact Dt _ _ _)) dJ aa (by have:=Z.size;simp at this |-;omega) ?_
     intro am cF wp cV a7 bx dP;have⟨ej,ek⟩:=cu ((ax.refl (fun k=>pv.ownBlock=some k) _).grown a7 (fun k m=>.inl m)) (b:=A) (by have:=Z.size;simp at this |-;omega) (fun e=>(aE.o _ e).2 rfl);have bf:Hid (am≠A/\(pv.ownBlock=some am\/W.heap.size<=am)):=(by
      rcases bx with h9|h9
      .exact⟨(aE.o _ h9).2,.inl h9⟩
      .have P:=Z.size;simp at h9 P;exact⟨aa,.inr aa⟩)
     clear bx))
  all_goals go_wp2_with fail
  all_goals go_meet
  all_goals
   have aZ:ax (fun k=>pv.ownBlock=some k\/M.ownBlock=some k) ah wp:=(by repeat(first|exact ax.refl _ _|with_reducible refine ax.drew ?_|with_reducible refine ax.alloc ?_ _|refine ax.grown ?_ a7 (fun k m=>.inl (.inl m))|refine ax.grown ?_ Z (fun k m=>.inl (.inr m))));have cy:ax (fun k=>k=A\/pv.ownBlock=some k) b0 wp:=(by repeat(first|exact ax.refl _ _|with_reducible refine ax.drew ?_|with_reducible refine ax.alloc ?_ _|refine ax.grown ?_ a7 (fun k m=>.inl (.inr m))));have F:=bq aZ cQ (fun e=>e.elim (fun e=>(aE.o _ e).2 rfl) (fun e=>(aA.o _ e).2 rfl));refine⟨.slice (some ⟨am,0,none⟩) (pl.length+1) cF,.slice (some ⟨ak,0,none⟩) (al.length+1) cD,u.o.rows (al':=al++[true]) (pl':=pl++[p]) ?_ ?_ ?_ ?_,?_,?_,?_⟩
   .exact((aZ.mono (fun k h=>.inr h)).set _ (.inl (.inl rfl))).set _ (.inl (.inl rfl))
   .first|exact sV (sV F rfl) rfl|exact sV (sV F rfl) rfl
   .rw[bS,bM];exact aR (S:=fun k=>k=A) cV (((ax.refl (fun k=>k=A) wp).set (a:=⟨A,_,none⟩) _ (.inl rfl)).set (a:=⟨A,_,none⟩) _ (.inl rfl)) (fun d e e2=>by
     have aL:am=d:=by injection e
     exact bf.o.1 (aL.trans e2))
   .rw[bS,bM];exact aR (S:=fun k=>k=A\/pv.ownBlock=some k) cS ((cy.set _ (.inl (.inl rfl))).set _ (.inl (.inl rfl))) (fun d e e2=>by
     injection e with e;subst e;rcases e2 with e2|e2
     .exact aT.o.1 e2
     .exact aT.o.2.1 e2)
   .rcases bf.o.2 with h9|h9
    .exact .inl h9.symm
    .exact .inr ⟨am,rfl,h9⟩
   .rcases aT.o.2.2 with h9|h9
    .exact .inl h9.symm
    .exact .inr ⟨ak,rfl,h9⟩
   .exact((aZ.mono (fun k h=>.inr h)).set _ (.inl (.inl rfl))).set _ (.inl (.inl rfl))
 case rest=>
  have⟨s,r,R,cp,cg,aU⟩:=hcut;obtain⟨w6,cL⟩:∃w6:World,w6=wc:=⟨_,rfl⟩;subst cL;have dK:=H.o.lt;have bK:¬(w3.heap.size=A\/pv.ownBlock=some w3.heap.size\/M.ownBlock=some w3.heap.size):=by
   rintro(h9|h9|h9)
   .omega
   .have:=(H.o.iL.lt _ h9).2;omega
   .have:=(H.o.dO.lt _ h9).2;omega
  have en:=((cu aU.o bT bK).1 0).trans cA.o;have y1:=((cu aU.o bT bK).1 1).trans cC.o;have bl:Hid (ax (oz A Cb bv pv M cv) W w6):=by
   refine(bk.o.mono (fun k h=>.inl h)).trans (W:=W) (w1:=ah) (w2:=w6) ?_;exact aU.o.mono (fun k h=>by
    rcases h with h|h|h
    .exact .inl h
    .exact .inr (.inr (.inr (.inl h)))
    .exact .inr (.inr (.inr (.inr (.inl h)))))
  have bz:=bl.o.size;have⟨dD,dE,e2,aL,dF⟩:=R.o.cell;have a2:Hid (dU w6.drew base A Cb bv s r cv bh ch (al++[true]) (pl++[p]) (n+1) N wk):=R.o.below (aI _ _).drew;have cU:0<=N/\N<=100000:=by
   have h1:=aj.o.stored;have Y:=af.2.2.2;omega
  have c0:ch.length<=1000:=by
   have h1:=aj.o.levels.1;simp at h1;omega
  have b1:=ag (Q4 a2.o.fJ (by have:=bz;simp;omega) a2.o.cE id (al.length:Int) cU c0 (by have:=af.2.2.2;omega))
  go_upto_region 12 with fail
  go_cut [10,11]from 80 to 88 (fun dl dq D=>∃(i:Nat) (bb a4:Value) (aK:List lU) (dr:Int),dl=.int .i64 i/\bb=dq/\i<=ch.length/\Hid (∀j (bI:j<ch.length),j<i->ch[j].2.1≠[])/\Hid (∀hi:i<ch.length,ch[i].2.1=[])/\
   Hid (df D base A Cb bv s r a4 bh aK (al++[true]) (pl++[p]) (n+1) (N+1) dr)/\Hid (∀bp:World,(∀(b:Nat) X fr,D.heap[b]? =some (Obj.cells X 204 fr)->bb.ownBlock≠some b->bp.heap[b]? =D.heap[b]?)->jX bp aK)/\Hid (aK.map (·.2.1)=kz (ch.map (·.2.1)) i (id,(al.length:Int)))/\
   Hid (D.ownsRow w6.heap.size 204 2 bb (eU (ch.map (·.2.1)) i++[(id,(al.length:Int))]).length ((eU (ch.map (·.2.1)) i++[(id,(al.length:Int))]).flatMap iN))/\
   Hid (a4.ownBlock=cv.ownBlock\/∃b,a4.ownBlock=some b/\W.heap.size<=b)/\Hid (ax (fun k=>k=Cb\/cv.ownBlock=some k) w6 D)/\Hid (Nw W.heap.size ch aK))
  case first=>
   go_region_with (go_at_call 132;(with_reducible refine b1.o.mono ?_);rintro e G ⟨i,ba,L,K,O,rfl,hi,aO,ap,bF,⟨dh,bQ⟩,bJ,bO,bG,bw,bN,-⟩;have cn:=ag bN;have cl:=ag aO;have cb:=ag ap;have b8:=ag bF;have cs:=ag bQ;have cj:=ag bJ;have co:=ag bO;have bd:=ag bG;have ac:=ag bw;clear aO ap bF dh bQ bJ bO bG bw bN)
   all_goals go_wp2_with fail
   all_goals go_meet
   all_goals
    refine⟨i,ba,L,K,O,rfl,rfl,hi,cl,cb,?_,cs,cj,co,?_,?_,Nw.refl.trans cn.o aH⟩
    .exact a2.o.core.add ac.o b8.o (bd.o.imp (fun h=>h) .inr)
    .rcases bd.o with h9|⟨b,h9,P⟩
     .exact .inl h9
     .exact .inr ⟨b,h9,by simp at P;omega⟩
    .exact((ax.refl _ w6).drew).trans ac.o
  case rest=>
   obtain⟨i,ba,L,K,O,rfl,rfl,hi,ck,ca,au,cr,bi,aC,b9,ac,cm⟩:=hcut;obtain⟨G,cM⟩:∃G:World,G=wc:=⟨_,rfl⟩;subst cM;have b4:Hid (bh.length=ch.length):=ag (by have:=aj.o.perm.1;simpa using this);have dV:bh.length<=13:=by have:=af.1;simpa using this
   have cx:Hid ((eU (ch.map (·.2.1)) i++[(id,(al.length:Int))]).length<=5001):=by
    show _<=_;rw[bS,(jG _ i).length_eq];have aL:((ch.map (·.2.1)).take i).flatten++((ch.map (·.2.1)).drop i).flatten=(ch.map (·.2.1)).flatten:=by rw[<-ll,jJ]
    have cJ:=congrArg List.length aL;rw[bS]at cJ;have:=af.2.2.2;simp only[eu,fF];omega
   have du:=ag af
   go_upto_block 0 with fail
   go_cut []from 89 to 104 (fun D=>∃(q:Value) (c:List lU),Hid (df D base A Cb q s r L c K (al++[true]) (pl++[p]) (n+1) (N+1) O)/\Hid (c=bh/\i<bh.length\/c=bh++[fK]/\i=bh.length)/\Hid (q.ownBlock=bv.ownBlock\/∃b,q.ownBlock=some b/\G.heap.size<=b)/\Hid (ax (fun k=>k=A\/bv.ownBlock=some k) G D))
   case first=>
    go_wp2_with fail
    go_loopw [] (fun wr=>∃(q:Value) (c:List lU),Hid (df wr base A Cb q s r L c K (al++[true]) (pl++[p]) (n+1) (N+1) O)/\Hid (c=bh/\q=bv/\wr=G\/c=bh++[fK]/\i=bh.length)/\Hid (q.ownBlock=bv.ownBlock\/∃b,q.ownBlock=some b/\G.heap.size<=b)/\Hid (ax (fun k=>k=A\/bv.ownBlock=some k) G wr)) (fun wr=>i+1-zh A wr)
    case atStart=>exact⟨bv,bh,au,.inl ⟨rfl,rfl,rfl⟩,.inl rfl,ax.refl _ _⟩
    case round=>
     have⟨q,c,E,V,aG,az⟩:=hrel;obtain⟨av,cG,aM,-,dX,-⟩:=Rd.aJ (enc:=dW) E.o.gN;obtain⟨-,br,-⟩:=E.o.cell;by_cases aN:i<c.length
     .have b3:Hid (c=bh/\i<bh.length\/c=bh++[fK]/\i=bh.length):=by
       rcases V.o with⟨h1,-⟩|h1
       .exact .inl ⟨h1,h1▸aN⟩
       .exact .inr h1
      have cI:decide (c.length<=i)=false:=aH;rw[aM]at br
      go_wp2_with fail
      go_meet;exact⟨q,c,E,b3,aG,az⟩
     .obtain⟨rfl,rfl,rfl⟩:c=bh/\q=bv/\wr=G:=by
       rcases V.o with h1|⟨h1,Y⟩
       .exact h1
       .rw[h1]at aN;simp at aN;omega
      have c2:i=c.length:=by have:=b4.o;omega
      subst c2;have cI:decide (c.length<=c.length)=true:=ay;have Q:=E.o.gN;have dt:Hid (wr.heap[A]? =some (Obj.cells #[.pointer (some ⟨Cb,0,none⟩),q,s,r,.int .i64 (n+1)] 207 (0,0))):=E.o.blk;have b5:Hid (∀C,wr.grownBy C q.ownBlock->C.heap[A]? =some (Obj.cells #[.pointer (some ⟨Cb,0,none⟩),q,s,r,.int .i64 (n+1)] 207 (0,0))):=fun C ab=>bq ((ax.refl (fun k=>q.ownBlock=some k) wr).grown ab (fun k m=>.inl m)) E.o.blk (fun e=>bn E.o.gN E.o.blk ai _ e rfl);have cY:base<=wr.heap.size:=by have:=ac.o.size;omega
      subst aM
      go_wp2_with (at_builtin;go_loud (refine bZ KS base Q [.slice none 0 0] rfl (by simp[Value.oneCell']) rfl _ _ rfl rfl _ rfl dJ aa cY ?_;intro em C bP ab cX;obtain⟨cP,cH,rfl,d6,d7,d8,d9⟩:=aV bP aa;have bX:=b5.o C ab;have bY:C.cell? ⟨A,1,none⟩=some (.slice av c.length cG):=(aD bX);have dp:C.frozen? ⟨A,1,none⟩=false:=(aD bX)))
      have dc:C.ownsRow base 209 1 (.slice (some ⟨cP,0,none⟩) (c.length+1) cH) (c++[fK]).length ((c++[fK]).map dW):=by
       rw[bS,bM];exact bP
      have an:=gI cX;have ao:=E.o.Qg ab dc (an.imp (fun h=>h) .inr);go_roundw
      case rel=>
       refine⟨_,c++[fK],ao,.inr ⟨rfl,by first|rfl|trivial⟩,an,(az.o.grown ab (fun k m=>.inl (.inr m))).set (a:=⟨A,1,none⟩) _ (.inl (.inl rfl))⟩
      case measure=>
       rw[ao.zh,E.o.zh];simp
   case rest=>
    have⟨q,c,E,V,aG,az⟩:=hcut;obtain⟨C,cN⟩:∃C:World,C=wc:=⟨_,rfl⟩;subst cN;have eb:i<c.length:=by
     rcases V.o with⟨h1,Y⟩|⟨h1,Y⟩
     .rw[h1];exact Y
     .rw[h1];simp;omega
    have ec:c.length<=14:=by
     rcases V.o with⟨h1,Y⟩|⟨h1,Y⟩
     .rw[h1];omega
     .rw[h1];simp;omega
    obtain⟨f,ad,aM,dZ,d5,-,-⟩:=aV E.o.gN aa;subst aM;have b6:Hid (df C base A Cb (.slice (some ⟨f,0,none⟩) c.length ad) s r L (Dl c 0) K (al++[true]) (pl++[p]) (n+1) (N+1) O):=E.o;have ea:(0:Int)<=(i:Int):=aa
    go_upto_block 2 with fail
    go_cut []from 106 to 115 (fun D=>Hid (df D base A Cb (.slice (some ⟨f,0,none⟩) c.length ad) s r L (Dl c i) K (al++[true]) (pl++[p]) (n+1) (N+1) O)/\Hid (ax (fun k=>k=f) C D))
    case first=>
     go_wp2_with fail
     go_loopw [106] (fun a9 wr=>∃k:Nat,a9=.int .i64 k/\k<=i/\Hid (df wr base A Cb (.slice (some ⟨f,0,none⟩) c.length ad) s r L (Dl c k) K (al++[true]) (pl++[p]) (n+1) (N+1) O)/\Hid (ax (fun k=>k=f) C wr)) (fun a9 _=>i-(intOf a9).toNat)
     case atStart=>exact⟨0,rfl,bD _,b6,ax.refl _ _⟩
     case round=>
      obtain⟨k,rfl,ed,aw,bg⟩:=hrel;by_cases aN:k<i
      .have Q:=aw.o.gN;have ae:(Dl c k).length=c.length:=FK aa;rw[ae]at Q;have ar:=Q.cellAt k aa;rw[cB (show k<((Dl c k).map dW).length by rw[bR];omega)]at ar;generalize((Dl c k).map dW)[k]'(by rw[bR];omega)=zv at ar;have dH:=Q.frozenAt k;obtain⟨-,br,-⟩:=aw.o.cell;have cw:Hid (df (wr.setCell ⟨f,k,none⟩ (.slice none 0 0)) base A Cb (.slice (some ⟨f,0,none⟩) c.length ad) s r L (Dl c (k+1)) K (al++[true]) (pl++[p]) (n+1) (N+1) O):=by
        have h9:=aw.o.Vp ae.symm k fK;rw[RZ aa]at h9;exact h9
       have c8:(k:Int)<(c.length:Int):=aa
       go_wp2_with fail
       go_roundw
       case rel=>exact⟨k+1,by go_num,aa,cw,bg.o.set (a:=⟨f,k,none⟩) _ (.inl rfl)⟩
       case measure=>exact eT
      .obtain rfl:k=i:=aa
       go_wp2_with fail
       go_meet;exact⟨aw,bg⟩
    case rest=>
     have⟨be,cf⟩:=hcut;obtain⟨U,cO⟩:∃U:World,U=wc:=⟨_,rfl⟩;subst cO;generalize cT:eU (ch.map (·.2.1)) i++[(id,(al.length:Int))]=I at*;have cd:=ag cT;have aX:Hid (ax (fun k=>k=A\/bv.ownBlock=some k) G U):=by
      refine ax.strip ((az.o.mono (fun k h=>.inl h)).trans (cf.o.mono (fun k h=>?_)));rcases aG.o with h9|⟨b,h9,P⟩
      .exact .inl (.inr (by rw[<-h9,h];rfl))
      .have cR:f=b:=by injection h9
       exact .inr aa
     have a0:U.ownsRow w6.heap.size 204 2 ba I.length (I.flatMap iN):=aR aC.o aX.o (fun d e=>by
      rintro(h9|h9)
      .exact bn aC.o au.o.blk ai d e h9.symm
      .exact bB au.o.gN aC.o ai d h9 e)
     have dk:w6.heap.size<=U.heap.size:=bA ac.o.size aX.o.size;obtain⟨v,B,cK,-,cZ,-⟩:=Mm.aJ a0;subst cK;have b7:=ag cZ;have ST:=ag (xH (w:=U.drew) (base:=w6.heap.size) rfl (by have:=cx.o;omega) (a0.bu 1) dk);have cz:Calls prog 133 #[.slice v I.length B] U.drew fun e J=>∃(l':List ji) (z:Value),e=.returned (.slice v I.length B)/\Hid (l'.Perm I)/\Hid (l'.Pairwise (fun x y=>x.1<=y.1))/\Hid (Mm J v l')/\
       Hid (df J base A Cb (.slice (some ⟨f,0,none⟩) c.length ad) s r L (Dl c i) K (al++[true]) (pl++[p]) (n+1) (N+1) O)/\Hid (ax (fun k=>Value.ownBlock (.slice v I.length B)=some k) U J)/\
       J.cell? ⟨A,1,none⟩=some (.slice (some ⟨f,0,none⟩) c.length ad)/\J.cell? ⟨f,i,none⟩=some z/\J.frozen? ⟨f,i,none⟩=false:=by
      refine ST.o.mono ?_;rintro e J ⟨rfl,l',hp,di,da,ab⟩;have ao:=(be.o.below (aI _ _).drew).WE (a0.bu 1) ab;have Q:=ao.gN;have ae:(Dl c i).length=c.length:=FK aa;rw[ae]at Q;have ar:=Q.cellAt i aa;rw[cB (show i<((Dl c i).map dW).length by rw[bR];omega)]at ar;have db:J.ownsRow w6.heap.size 204 2 (.slice v I.length B) l'.length (l'.flatMap iN):=by rw[hp.length_eq];exact da
      obtain⟨dv,dB,a5,-,dg⟩:=Mm.aJ db;injection a5 with a5 _ _;subst a5;exact⟨l',_,rfl,hp,di,dg.2,ao,((ax.refl _ U).drew).grown ab (fun k m=>.inl m),ao.cell.2.1,ar,Q.frozenAt i⟩
     have c8:(i:Int)<(c.length:Int):=aa;obtain⟨-,el,-⟩:=be.o.cell
     go_upto_region 20 with fail
     go_region_with (go_at_call 133;(with_reducible refine cz.mono ?_);rintro e J ⟨l',z,rfl,aW,ct,cq,bc,ce,bY,eo,f10⟩)
     all_goals go_wp2_with fail
     all_goals go_ret
     all_goals
      have c6:Value.slice v I.length B=dW (v,l',B):=by unfold dW;simp only;rw[aW.o.length_eq]
      rw[c6];have ae:(Dl c i).length=c.length:=FK aa;have bH:bv.ownBlock=some f\/G.heap.size<=f:=by
       rcases aG.o with h9|⟨b,h9,P⟩
       .exact .inl h9.symm
       .have cR:f=b:=by injection h9
        exact .inr aa
      have dR:W.heap.size<=G.heap.size:=bA bz ac.o.size;have bU:∀k,Value.ownBlock (.slice v I.length B)=some k->w6.heap.size<=k:=fun k h=>(aC.o.lt k h).1;have bo:ax (fun k=>(k=A\/bv.ownBlock=some k)\/Value.ownBlock (.slice v I.length B)=some k) G (J.setCell ⟨f,i,none⟩ (dW (v,l',B))):=
       ((aX.o.mono (fun k h=>.inl h)).trans (ce.o.mono (fun k h=>.inr h))).set (a:=⟨f,i,none⟩) _ (by
        rcases bH with h9|h9
        .exact .inl (.inl (.inr h9))
        .exact .inr h9)
      have bm:ax (fun k=>((k=Cb\/cv.ownBlock=some k)\/(k=A\/bv.ownBlock=some k))\/w6.heap.size<=k) w6 (J.setCell ⟨f,i,none⟩ (dW (v,l',B))):=
       (ac.o.mono (fun k h=>.inl (.inl h))).trans (bo.mono (fun k h=>by
        rcases h with h|h
        .exact .inl (.inr h)
        .exact .inr (bU k h)))
      have ap:∀h:i<(ch.map (·.2.1)).length,(ch.map (·.2.1))[i]=[]:=fun h=>by
       have:=ca.o (aQ h);simpa using this
      refine⟨.slice (some ⟨f,0,none⟩) c.length ad,s,r,L,(Dl c i).set i (v,l',B),K,O,rfl,(bc.o.Vp ae.symm i (v,l',B)).rep ?_ ?_,?_,?_,?_,?_,?_,cm.o⟩
      .intro h aq;rcases Lr V.o aq with rfl|rfl|h1
       .obtain⟨X,c1⟩:=Ag (k:=c.length) (by have h9:=bc.o.gN;rw[ae]at h9;exact h9);exact⟨cq.o.kept fun b X fr F=>aF (dY c1 F ai),by show l'.length<=B;rw[aW.o.length_eq];exact b7.o⟩
       .exact⟨.inl rfl,aB _⟩
       .refine⟨(R.o.bE h h1).1.kept fun b X fr F=>R.o.core.fq (T:=fun k=>w6.heap.size<=k) (bm.mono (fun k h=>?_)) b X fr F (by have:=(aY.1 F).1;omega),(R.o.bE h h1).2⟩;rcases h with((h|h)|(h|h))|h
        .exact .inl (.inr (.inl h))
        .exact .inl (.inr (.inr (.inr (.inr (.inr h)))))
        .exact .inl (.inl h)
        .exact .inl (.inr (.inr (.inl h)))
        .exact .inr h
      .refine cr.o _ fun b X fr F aO=>au.o.fq (T:=fun k=>Value.ownBlock (.slice v I.length B)=some k) (bo.mono (fun k h=>?_)) b X fr F aO;rcases h with(h|h)|h
       .exact .inl (.inl h)
       .exact .inl (.inr (.inr (.inl h)))
       .exact .inr h
      .rw[bi.o,R3 V.o];refine OH aj.o id p bL dj i (aQ hi) (fun j bI c3=>?_) ap l' (by rw[cd.o];exact aW.o) ct.o;have:=ck.o j (aQ bI) c3;simpa using this
      .rw[bi.o];exact tX _ i _ ap
      .rintro k (h|h|h|h|h|h)
       .exact .inl (.inl h)
       .exact .inl (.inr (.inl h))
       .rcases bH with h9|h9
        .exact .inl (.inr (.inr (.inl (h9.trans h))))
        .have P:f=k:=by injection h
         exact .inr aa
       .rcases cp.o with h9|⟨b,h9,P⟩
        .exact .inl (.inr (.inr (.inr (.inl (h9.symm.trans h)))))
        .have bs:b=k:=by rw[h9]at h;injection h
         exact .inr aa
       .rcases cg.o with h9|⟨b,h9,P⟩
        .exact .inl (.inr (.inr (.inr (.inr (.inl (h9.symm.trans h))))))
        .have bs:b=k:=by rw[h9]at h;injection h
         exact .inr aa
       .rcases b9.o with h9|⟨b,h9,P⟩
        .exact .inl (.inr (.inr (.inr (.inr (.inr (h9.symm.trans h))))))
        .have bs:b=k:=by rw[h9]at h;injection h
         exact .inr aa
      .refine ax.strip ((bl.o.mono (fun k h=>.inl h)).trans (bm.mono (fun k h=>?_)));rcases h with((h|h)|(h|h))|h
       .exact .inl (.inr (.inl h))
       .exact .inl (.inr (.inr (.inr (.inr (.inr h)))))
       .exact .inl (.inl h)
       .exact .inl (.inr (.inr (.inl h)))
       .exact .inr aa
      .intro h aq;rcases Lr V.o aq with rfl|rfl|h1
       .exact .inr fun a a8=>by
         have:=bU a.block (by rw[show v=some a from a8];rfl);omega
       .exact .inr fun a a8=>by cases a8
       .exact .inl h1
end
section
variable {W:World} {base A Cb:Nat} {bv pv lv cv:Value} {bh ch:List lU} {al:List Bool} {pl:List Int} {n N wk:Int}
def ku (al:List Bool) (CB:List (List ji)) (m:Nat):List ji:=((CB.drop m).reverse.flatten).filter (dG al)
theorem Nq (al:List Bool) (CB:List (List ji)):ku al CB CB.length=[]:=by unfold ku;rw[List.drop_length];rfl
theorem Km (al:List Bool) (CB:List (List ji)) (k:Nat) (h:k<CB.length):ku al CB k=ku al CB (k+1)++CB[k].filter (dG al):=by
 unfold ku;rw[mJ h,AX,ll,mK];simp
theorem Nr (al:List Bool) (CB:List (List ji)) (m:Nat):(ku al CB m).length<=CB.flatten.length:=by
 unfold ku;refine bA (fO _ _) ?_;rw[((uQ (CB.drop m)).flatten).length_eq];have a:(CB.take m).flatten++(CB.drop m).flatten=CB.flatten:=by rw[<-ll,jJ]
 have:=congrArg List.length a;rw[bS]at this;omega
def Kn (VD VQ:List lU):Prop:=VD.length<=VQ.length/\∀(j:Nat) (h:j<VD.length) (h':j<VQ.length),VD[j].2.1.Perm VQ[j].2.1/\VD[j].2.1.Pairwise (fun x y=>x.1<=y.1)
theorem Kn.step {a b:List lU} (h:Kn a b) {hd:lU} (hi:a.length<b.length) (hp:hd.2.1.Perm b[a.length].2.1) (g:hd.2.1.Pairwise (fun x y=>x.1<=y.1)):Kn (a++[hd]) b:=by
 refine⟨aH,fun j d e=>?_⟩;by_cases c:j<a.length
 .rw[qJ c];exact h.2 j c e
 .have f:j=a.length:=by simp at d;omega
  subst f;rw[wu aa];simp only[iR,nE];exact⟨hp,g⟩
theorem Kn.done {a b:List lU} (h:Kn a b) (g:a.length=b.length):GM (a.map (·.2.1)) (b.map (·.2.1))/\∀l∈a.map (·.2.1),l.Pairwise fun p q=>p.1<=q.1:=by
 refine⟨⟨aQ g,fun i c d=>?_⟩,fun l k=>?_⟩
 .rw[fP,fP];exact(h.2 i (aQ c) (aQ d)).1
 .obtain⟨hd,e,rfl⟩:=dA.1 k;obtain⟨j,f,rfl⟩:=jo e;exact(h.2 j f aa).2
def Vq (W:World) (base A Cb:Nat) (bv pv lv cv:Value) (ch:List lU) (al:List Bool) (pl:List Int) (n:Int) (e:Ending) (w':World):Prop:=
 ∃(SB CW:Value) (bh' qV:List lU) (N' KI:Int),e=.returned (.tuple #[])/\dU w' base A Cb SB pv lv CW bh' qV al pl n N' KI/\q9 (qV.map (·.2.1)) (bh'.map (·.2.1)) al pl n N'/\
  (∀id p,jk (qV.map (·.2.1)).flatten al pl id p↔jk (ch.map (·.2.1)).flatten al pl id p)/\(∀k,oz A Cb SB pv lv CW k->oz A Cb bv pv lv cv k\/W.heap.size<=k)/\ax (oz A Cb bv pv lv cv) W w'/\Nw W.heap.size [] bh'/\Nw W.heap.size [] qV
theorem Dm:eY 210:=bO func210 aM rfl
theorem Dn:eY 133:=bO func133 aM rfl
theorem R5 (h:dU W base A Cb bv pv lv cv bh ch al pl n N wk) (dv:base<=W.heap.size) (R:xc (ch.map (·.2.1)) (bh.map (·.2.1)) al pl n N):
  Calls prog 138 #[.pointer (some ⟨A,0,none⟩)] W (Vq W base A Cb bv pv lv cv ch al pl n):=by
 have H:=ag h;have aK:=ag R;have b2:=R.Tz;have dB:ch.length<=13:=by have:=R.levels.1;simpa using this
 have Z:Hid (∀m,(ku al (ch.map (·.2.1)) m).length<=5000):=fun m=>bA (Nr _ _ _) b2.2.2.2;have I:=ag (BQ h.fJ aa);have dw:=R.bound;obtain⟨aW,-⟩:=h.cell;clear h R b2;go_enter func138,ntmps138
 go_wp2_with fail
 refine I.o.mono ?_;rintro e w2 ⟨rfl,ae⟩;have aM:=ag (H.o.below ae);have c9:=ae.size;have cp:=ag ae;clear aW I ae
 go_upto_block 0 with fail
 go_cut [2,3,5]from 13 to 40 (fun U z dp cj=>∃lw:Value,lw=U/\Hid (cj.ownsRow w2.heap.size 204 2 lw (ku al (ch.map (·.2.1)) 0).length ((ku al (ch.map (·.2.1)) 0).flatMap iN))/\Hid (Below w2.heap.size w2 cj))
 case first=>
  go_wp2_with fail
  go_loopw [3,2] (fun z U wr=>∃(m:Nat) (lw:Value),z=.int .i64 ((m:Int)-1)/\lw=U/\m<=ch.length/\Hid (wr.ownsRow w2.heap.size 204 2 lw (ku al (ch.map (·.2.1)) m).length ((ku al (ch.map (·.2.1)) m).flatMap iN))/\Below w2.heap.size w2 wr) (fun z _ _=>(intOf z+1).toNat)
  case atStart=>exact⟨ch.length,_,by go_num,rfl,aB _,by have:=Nq al (ch.map (·.2.1));rw[bR]at this;rw[this];exact dx _ _ _ _,aI _ _⟩
  case round=>
   obtain⟨m,lw,rfl,rfl,dT,HO,g⟩:=hrel;rcases qO m with zS|zS
   .subst zS;have dD:¬(0:Int)<=((0:Nat):Int)-1:=aa;have ar:=ag g
    go_wp2_with fail
    go_meet;exact⟨_,rfl,HO,ar⟩
   .obtain⟨k,rfl⟩:∃k,m=k+1:=⟨m-1,aa⟩;have c5:(((k+1:Nat):Int)-1)=(k:Int):=aa;rw[c5];have dL:(0:Int)<=(k:Int):=aa;have c4:k<(ch.map (·.2.1)).length:=by rw[bR];omega
    have bx:=ag (Km al (ch.map (·.2.1)) k c4);have aU:=ag (aM.o.below g);obtain⟨aW,-⟩:=aU.o.cell;have a7:k<ch.length:=aa;have d1:ch[k].2.1.length<=5000:=by
     have:=aK.o.Tz.2.2.2;have C:=qC (l:=ch[k].2.1) (CB:=ch.map (·.2.1)) (dA.2 ⟨_,bF a7,rfl⟩);omega
    have cA:Hid (∀x∈ch[k].2.1,∃k:Nat,x.2=(k:Int)/\k<al.length):=fun x dc=>aK.o.vL x (pJ.2 ⟨_,dA.2 ⟨_,bF a7,rfl⟩,dc⟩);have CB:=ag (BR aU.o.fJ aU.o.cE aa k a7 aa);have cN:Hid (ku al (ch.map (·.2.1)) k=ku al (ch.map (·.2.1)) (k+1)++ch[k].2.1.filter (dG al)):=by
     have:=bx.o;rw[fP]at this;exact this
    clear bx;generalize ch[k].2.1=lk at*;have dQ:=Z.o (k+1);have dj:=ag (Z.o k);generalize ku al (ch.map (·.2.1)) (k+1)=L at*;obtain⟨aq,cX⟩:∃aq:World,aq=wr:=⟨_,rfl⟩;subst cX;have ar:=ag g;have cd:=g.size;clear g
    go_wp2_with fail
    refine CB.o.mono ?_;rintro e w3 ⟨di,rfl,D,af⟩;have da:=af.size;have E:Hid (Below w2.heap.size w2 w3):=ar.o.trans (af.mono cd);have cC:=ag (az HO.o af);have cL:Hid (∀f,di.ownBlock=some f->lw.ownBlock≠some f):=fun f e F=>by
     have h1:=(D.lt f e).1;have C:=(HO.o.lt f F).2;omega
    have cD:=ag D;obtain⟨bH,P,aZ,-,-,-⟩:=Mm.aJ D;subst aZ;clear D af aW;have dP:lk.length<=9223372036854775807:=aa;have dz:w2.heap.size<=w3.heap.size:=aa;clear CB
    go_wp2_with fail
    go_loopw [24,2] (fun ba U wr=>∃(j:Nat) (ap:Value),ba=.int .i64 j/\ap=U/\j<=lk.length/\Hid (wr.ownsRow w2.heap.size 204 2 ap (L++(lk.take j).filter (dG al)).length ((L++(lk.take j).filter (dG al)).flatMap iN))/\Hid (wr.ownsRow aq.heap.size 204 2 (.slice bH lk.length P) lk.length (lk.flatMap iN))/\Hid (∀f,Value.ownBlock (.slice bH lk.length P)=some f->ap.ownBlock≠some f)/\Below w2.heap.size w2 wr) (fun ba _ _=>lk.length-(intOf ba).toNat)
    case atStart=>exact⟨0,_,rfl,rfl,bD _,by rw[lQ,ED,iP];exact cC,cD,cL,E.o⟩
    case round=>
     obtain⟨j,ap,rfl,rfl,dF,aw,aA,aE,ah⟩:=hrel;have db:=ah.size;by_cases ak:j<lk.length
     .obtain⟨dm,dn,aY,-,-,b9⟩:=Mm.aJ aA.o;injection aY with aY _ aZ;subst aY aZ;obtain⟨aV,bb,bI,dy,a4⟩:=b9.NH.get aa;have ck:=a4 j ak 0 aa;have x1:=a4 j ak 1 aa;simp only[iN,fZ,dC,dK]at ck x1;obtain⟨q,ao,b7⟩:=cA.o lk[j] (bF ak);have aS:=aM.o.below ah;obtain⟨d4,lc,bK,-,-,b8⟩:=Rd.aJ aS.dO;obtain⟨lb,lo,bJ,dN,b1⟩:=b8.get aa;have cl:=b1 q b7;obtain⟨-,-,-,cm,-⟩:=aS.cell;have O:Hid (L++(lk.take (j+1)).filter (dG al)=(L++(lk.take j).filter (dG al))++(if al[q]=true then[lk[j]]else[])):=by
       show _=_;rw[ic ak,mK,<-ed];congr 1;unfold dG;rw[l7,ao];simp only[gY,cB b7];cases al[q]<;>simp
      have dI:(L++(lk.take j).filter (dG al)).length<=5000+5000:=by
       rw[bS];have h1:=fO (dG al) (lk.take j);have C:(lk.take j).length<=lk.length:=by rw[eH];omega
       omega
      have cg:(lk[j]).2=(q:Int):=ao;rw[ao]at x1;have bi:=ag bI;have bj:=ag bJ;have bk:=ag bK;have aL:=ag cg;have dk:Hid (lk.length=lk.length):=ag rfl;clear a4 bI b1 bJ bK ao cg b8 b9 aS;generalize cY:L++(lk.take j).filter (dG al)=dl at*;generalize c1:al[q]=cS at*;generalize lk[j]=x at*;obtain⟨r,ef⟩:=x;simp only at ck x1 O aL;obtain rfl:=aL.o;obtain rfl:=bi.o;obtain rfl:=bj.o;obtain rfl:=bk.o;clear bi bj bk aL c1 cY;have dH:(j:Int)<(lk.length:Int):=aa;have dV:(q:Int)<(al.length:Int):=aa;have X:Below wr.heap.size wr (wr.alloc (.cells #[.int .u32 r,.int .i64 (q:Int)] 204)):=(aI _ _).alloc (aB _) _;have bc:(wr.alloc (.cells #[.int .u32 r,.int .i64 (q:Int)] 204)).cell? ⟨wr.heap.size,0,none⟩=some (.int .u32 r):=by rw[eF _ _ _ _ rfl];rfl
      have de:(wr.alloc (.cells #[.int .u32 r,.int .i64 (q:Int)] 204)).cell? ⟨wr.heap.size,1,none⟩=some (.int .i64 (q:Int)):=by rw[eF _ _ _ _ rfl];rfl
      have eg:=(X.cell (p:=⟨lb,lo+q,none⟩) (gW wr _ cl)).trans cl;have eh:=(X.cell (p:=⟨A,3,none⟩) (gW wr _ cm)).trans cm;have aC:=ag ((aw.o.alloc (.cells #[.int .u32 r,.int .i64 (q:Int)] 204)).bu 1);have bt:=ag ((aA.o.alloc (.cells #[.int .u32 r,.int .i64 (q:Int)] 204)).bu 1);have bl:=ag ((ah.alloc db (.cells #[.int .u32 r,.int .i64 (q:Int)] 204)).drew);cases cS
      .rw[aN ai,iP]at O;clear X;go_wp2;go_region
       all_goals
        go_wp2;go_roundw
        case rel=>exact⟨j+1,_,by go_num,rfl,aa,by rw[O.o];exact aC,bt,aE,bl.o⟩
        case measure=>exact eT
      .rw[aO rfl]at O;clear X;go_wp2;go_region;have eb:((wr.alloc (.cells #[.int .u32 r,.int .i64 (q:Int)] 204)).drew).cell? ⟨wr.heap.size,0,none⟩=some (.int .u32 r):=bc;have ec:((wr.alloc (.cells #[.int .u32 r,.int .i64 (q:Int)] 204)).drew).cell? ⟨wr.heap.size,1,none⟩=some (.int .i64 (q:Int)):=de
       go_wp2_with (at_builtin;refine bZ GJ w2.heap.size aC.o [.int .u32 r,.int .i64 q] rfl (by simp[Value.oneCell']) rfl _ _ rfl rfl _ (by show Value.slice (some ⟨wr.heap.size+1,0,none⟩) 1 1=_;simp) dJ aa aH ?_;intro dg w6 c7 b0 c2)
       have cR:Below w2.heap.size w2 w6:=bl.o.grown b0 aH (fun b e=>(aC.o.lt b e).1);have cF:Hid (w6.ownsRow aq.heap.size 204 2 (.slice (some ⟨aV,bb,none⟩) lk.length P) lk.length (lk.flatMap iN)):=by
        refine bt.o.kept b0 ?_;rcases II (Value.ownBlock (.slice (some ⟨aV,bb,none⟩) lk.length P))with h9|⟨f,h9⟩
        .exact .inl h9
        .exact .inr (fun e=>aE.o f h9 (e.symm.trans h9))
       have cM:Hid (∀f,Value.ownBlock (.slice (some ⟨aV,bb,none⟩) lk.length P)=some f->dg.ownBlock≠some f):=fun f e F=>by
        have h1:=(aA.o.lt f e).2;rcases gI c2 with h9|⟨b,h9,ad⟩
        .exact aE.o f e (h9.symm.trans F)
        .rw[h9]at F;injection F with F;simp at ad;omega
       go_roundw
       case rel=>exact⟨j+1,_,by go_num,rfl,aa,by rw[O.o,bS,gX];exact c7,cF,cM,cR⟩
       case measure=>exact eT
     .obtain rfl:j=lk.length:=aa;rw[jO,<-cN.o]at aw;go_wp2;go_roundw
      case rel=>exact⟨k,_,by go_num,rfl,aa,aw,ah⟩
      case measure=>simp[intOf]
 case rest=>
  obtain⟨lw,rfl,bp,au⟩:=hcut;obtain⟨w3,cW⟩:∃w3:World,w3=wc:=⟨_,rfl⟩;subst cW;have aP:=ag (aM.o.below au.o);have E:=ag (cp.o.trans (au.o.mono c9));have dM:=Z.o 0;obtain⟨cQ,cT,cU,-,bQ,ca⟩:=Mm.aJ bp.o;subst cU;have bg:=ag (Q6 aP.o.fJ (by have:=E.o.size;omega) cQ (ku al (ch.map (·.2.1)) 0) cT ca bQ aa);obtain⟨ci,-⟩:=aP.o.cell;have bq:Hid (ku al (ch.map (·.2.1)) 0=((ch.map (·.2.1)).reverse.flatten).filter (dG al)):=ag (by unfold ku;rw[kF]);generalize ku al (ch.map (·.2.1)) 0=L at*;clear ca bQ au Z bp
  go_wp2_with fail
  refine bg.o.mono ?_;rintro e w4 ⟨aX,d,bf,rfl,bV,cc,an,a5,a0,b3,-⟩;have J:=ag (aP.o.core.add (a0.mono (fun k h=>.inl h)) bV (.inr a5));have bw:=ag cc;have cz:=ag b3;have br:=ag an;have cP:=ag a5;have av:=ag a0;have dt:d.length<=14:=by
   have h1:=congrArg List.length an;rw[eG,bR]at h1;have C:=eO (a:=L.length) (b:=5000) aa ai;have dq:Lib.bitLen 5000<=14:=ai;omega
  have bB:Hid (∀h∈d,h.2.1.length<=5000):=fun h Q=>by
   have h1:=qC (l:=h.2.1) (CB:=d.map (·.2.1)) (dA.2 ⟨_,Q,rfl⟩);rw[an]at h1;have C:L.length<2^Lib.bitLen L.length:=by
    by_cases bL:L.length=0
    .rw[bL];decide
    .exact(bz _ aa bL).2.2
   rw[(kR _ L C).length_eq]at h1;omega
  obtain⟨-,dd,-⟩:=J.o.cell;have f1:=J.o.frozen 1;clear bV cc an a5 a0 ci bg b3;have Y:Hid (df (w4.setCell ⟨A,1,none⟩ (.slice none 0 0)) base A Cb (.slice none 0 0) pv lv aX [] d al pl n L.length bf):=J.o.Qg (bh':=[]) (bN (aI _ _)|>fun h=>⟨h.os,h.tape,h.output,h.size,fun k G _=>rfl⟩) (dx _ _ _ _) (.inr (.inl rfl));have bm:Hid (ax (fun k=>k=A) w4 (w4.setCell ⟨A,1,none⟩ (.slice none 0 0))):=(ax.refl (fun k=>k=A) w4).set (a:=⟨A,1,none⟩) _ (.inl rfl);have I:=ag (BQ Y.o.fJ aa);obtain⟨bc,-⟩:=Y.o.cell
  go_wp2_with fail
  generalize w4.setCell ⟨A,1,none⟩ (.slice none 0 0)=ee at*;refine I.o.mono ?_;rintro e w6 ⟨rfl,a1⟩;have cs:=ag (Y.o.below a1);have cy:Hid (ax (fun k=>k=A) w4 w6):=bm.o.below a1;clear bc dd f1 I a1 Y bm
  go_wp2_with fail
  go_loopw [55] (fun z wr=>∃(s:Value) (c:List lU),z=.int .i64 c.length/\Hid (df wr base A Cb s pv lv aX c d al pl n L.length bf)/\Hid (Kn c d)/\Hid (Nw W.heap.size [] c)/\Hid (jX wr c)/\Hid (s.ownBlock=none\/∃b,s.ownBlock=some b/\w4.heap.size<=b)/\Hid (ax (fun k=>k=A) w4 wr)) (fun z _=>d.length-(intOf z).toNat)
  case atStart=>exact⟨.slice none 0 0,[],rfl,cs,⟨bD _,fun j h=>absurd h (kE _)⟩,Nw.Ta (k:=0),(fun h Q=>absurd Q iC),.inl rfl,cy⟩
  case round=>
   obtain⟨s,c,rfl,i,aF,bs,aD,aG,K⟩:=hrel;by_cases am:c.length<d.length
   .have cI:Hid (jX wr d):=bw.o.kept fun b v fr g=>J.o.fq (T:=fun _=>False) (K.o.mono fun k h=>.inl (.inl h)) b v fr g (fun h=>h);have cn:=ag (BR (W:=wr.drew) (i.o.below (aI _ _).drew).fJ (cI.o.kept fun b v fr g=>rfl) aa c.length am (bA (bB.o _ (bF am)) ai));have cO:Hid (∀hd:lU,hd.2.1.Perm d[c.length].2.1->hd.2.1.Pairwise (fun x y=>x.1<=y.1)->Kn (c++[hd]) d):=fun hd h1 C=>aF.o.step am h1 C;have d0:=bB.o _ (bF am);generalize d[c.length].2.1=lb at*;obtain⟨ci,d2,-⟩:=i.o.cell;have d3:∀o,wr.frozen? ⟨A,o,none⟩=false:=i.o.frozen;have bO:=i.o.lt;have dR:(c.length:Int)<(d.length:Int):=aa;have dY:=K.o.size;have du:W.heap.size<=w4.heap.size:=bA E.o.size av.o.size;have c6:Hid (s.ownBlock≠some A):=fun e=>bn i.o.gN i.o.blk ai _ e rfl
    go_wp2_with fail
    go_region_law (first
     |(refine aT (vals:=#[.pointer (some ⟨Cb,0,none⟩),.int .i64 c.length]) Dm rfl _ _ rfl rfl cn.o ?_
       rintro e bd ⟨dh,rfl,b5,a2⟩;refine⟨_,rfl,?_⟩;have cf:=a2.size;have dr:A<bd.heap.size:=(by(have h9:wr.heap.size<=bd.heap.size:=cf);omega);obtain⟨d7,d8⟩:=cu ((ax.refl (fun _=>False) wr.drew).below a2) (b:=A) bO (fun h=>h))
     |(refine aT (vals:=#[dh]) Dn rfl _ _ rfl rfl (xH (w:=bd) (base:=wr.heap.size) rfl aa b5 cf) ?_
       rintro e V ⟨rfl,l',b6,ce,a8,c3⟩;refine⟨_,rfl,?_⟩;have cH:=ag b6;have cK:=ag ce;have ab:ax (fun _=>False) wr V:=ax.strip (((ax.refl _ wr).drew.below a2).grown c3 (fun k G=>.inl (.inr (b5.lt k G).1)));have M:=ag ab;obtain⟨d9,ea⟩:=cu ab (b:=A) bO (fun h=>h);have dX:=ab.size;have ds:A<V.heap.size:=aa;obtain⟨t,u,cV,-,bU,cb⟩:=Mm.aJ a8;have ct:=ag bU;have cJ:=ag cb;subst cV;have co:Hid (∀a,t=some a->W.heap.size<=a.block):=fun a c0=>(by have h1:=(a8.lt a.block (by rw[c0];rfl)).1;omega);clear b6 ce ab a8 bU cb)
     |(refine bC KS base (aR (S:=fun _=>False) i.o.gN (M.o.alloc _) (fun _ _ h=>h)) [.slice t l'.length u] rfl (by simp[Value.oneCell']) rfl (.tmp 62) (.tmp 70) rfl rfl _ rfl (by first|exact bW _ _|exact jr _ _) dJ aa aH ?_
       intro B ac be D a6 bP dS;have cG:=ag D;have cr:=ag bP;obtain⟨d5,d6⟩:=cu ((ax.refl (fun k=>s.ownBlock=some k) _).grown a6 (fun k G=>.inl G)) (b:=A) (by first|(simp;done)|(simp;omega)) (fun e=>c6.o e);clear D bP))
    all_goals
     have aj:=i.o.below (M.o.toBelow (aB _) (fun k h=>h.elim));have bX:=aj.below ((aI _ _).alloc (aB _) (.cells #[.slice t l'.length u] 209));have b4:be.ownsRow base 209 1 (.slice (some ⟨B,0,none⟩) (c.length+1) ac) (c++[(t,l',u)]).length ((c++[(t,l',u)]).map dW):=by
      rw[bS,bM];exact cG.o
     have a3:Value.ownBlock (.slice (some ⟨B,0,none⟩) (c.length+1) ac)=s.ownBlock\/(V.alloc (.cells #[.slice t l'.length u] 209)).heap.size<=B:=by
      rcases cr.o with h9|h9
      .exact .inl h9.symm
      .exact .inr (by rw[h9];first|exact aB _|simp)
     have cw:=ag (bX.Qg a6 b4 (a3.imp (fun h=>h) (fun h=>.inr ⟨B,rfl,h⟩)));have cq:=ag a3;have bE:ax (fun k=>k=A\/s.ownBlock=some k) V (be.setCell ⟨A,1,none⟩ (.slice (some ⟨B,0,none⟩) (c.length+1) ac)):=(((ax.refl _ V).alloc _).grown a6 (fun k G=>.inl (.inr G))).set (a:=⟨A,1,none⟩) _ (.inl (.inl rfl));have bo:=ag bE;clear aj bX b4 a3 bE;go_wp2;go_roundw
     case rel=>
      have aj:=i.o.below (M.o.toBelow (aB _) (fun k h=>h.elim));have dZ:=M.o.size;have bG:ax (fun k=>k=A\/s.ownBlock=some k) wr (be.setCell ⟨A,1,none⟩ (.slice (some ⟨B,0,none⟩) (c.length+1) ac)):=(M.o.mono (fun k h=>h.elim)).trans bo.o;refine⟨_,c++[(t,l',u)],ay,cw.o,cO.o (t,l',u) cH.o cK.o,bs.o.snoc co.o,?_,?_,?_⟩
      .intro h Q;rcases bT.1 Q with h1|h1
       .exact⟨(aD.o h h1).1.kept fun b v fr g=>i.o.fq (T:=fun _=>False) (bG.mono fun k h=>.inl (h.imp id (fun h=>.inr (.inl h)))) b v fr g (fun h=>h),(aD.o h h1).2⟩
       .obtain rfl:h=(t,l',u):=aQ h1;exact⟨cJ.o.kept fun b v fr g=>aj.fq (T:=fun _=>False) (bo.o.mono fun k h=>.inl (h.imp id (fun h=>.inr (.inl h)))) b v fr g (fun h=>h),ct.o⟩
      .rcases cq.o with h9|h9
       .rw[h9];exact aG.o
       .exact .inr ⟨B,rfl,by simp at h9;omega⟩
      .refine ax.strip ((K.o.mono (fun k h=>.inl h)).trans (bG.mono (fun k h=>?_)));rcases h with h|h
       .exact .inl h
       .rcases aG.o with h9|⟨b,h9,ad⟩
        .rw[h9]at h;cases h
        .rw[h9]at h;injection h with h;exact .inr aa
     case measure=>exact eT
   .have bY:c.length=d.length:=by have:=aF.o.1;omega
    have hd:decide ((c.length:Int)<(d.length:Int))=false:=aH;have dE:¬(c.length:Int)<(d.length:Int):=aa;have cx:=ag bY;clear bY;go_wp2
    go_end0
    have cZ:jX wr d:=bw.o.kept fun b v fr g=>J.o.fq (T:=fun _=>False) (K.o.mono fun k h=>.inl (.inl h)) b v fr g (fun h=>h);obtain⟨hp,c8⟩:=aF.o.done cx.o;have a9:=KV aK.o (NB':=c.map (·.2.1)) (by rw[<-bq.o,<-br.o];exact hp) c8;rw[<-bq.o,<-br.o]at a9;have cd:=E.o.size;have da:=av.o.size;refine⟨s,aX,c,d,_,bf,rfl,i.o.rep aD.o cZ,a9.1,a9.2,?_,?_,bs.o,Nw.refl.trans cz.o aa⟩
    .rintro k (h|h|h|h|h|h)
     .exact .inl (.inl h)
     .exact .inl (.inr (.inl h))
     .rcases aG.o with h9|⟨b,h9,ad⟩
      .rw[h9]at h;cases h
      .rw[h9]at h;injection h with h;exact .inr aa
     .exact .inl (.inr (.inr (.inr (.inl h))))
     .exact .inl (.inr (.inr (.inr (.inr (.inl h)))))
     .rcases cP.o with h9|⟨b,h9,ad⟩
      .rw[h9]at h;cases h
      .rw[h9]at h;injection h with h;exact .inr aa
    .exact(((ax.refl (oz A Cb bv pv lv cv) W).below E.o).trans (av.o.mono (fun k h=>.inr (.inl h)))).trans (K.o.mono (fun k h=>.inl h))
end
section
variable {W:World} {base A Cb:Nat} {bv pv lv cv:Value} {bh ch:List lU} {al:List Bool} {pl:List Int} {n N wk:Int}
def Qh (t:TypeId):Bool:=t==207||t==290||t==209||t==3||t==4
theorem zi (a:dU W base A Cb bv pv lv cv bh ch al pl n N wk):∀k,oz A Cb bv pv lv cv k->∃cs t fr,W.heap[k]? =some (Obj.cells cs t fr)/\Qh t=true:=by
 have d:∀{e:TypeId} {sz:Nat} {v:Value} {n:Nat} {xs:List Value} {k:Nat},W.ownsRow base e sz v n xs->v.ownBlock=some k->∃b,W.heap[k]? =some (Obj.cells b e (0,0)):=by
  intro e sz v n xs k a f;rcases a.2 with⟨rfl,_⟩|⟨g,l,b,rfl,_,i,_⟩
  .cases f
  .simp only[Value.ownBlock,jq]at f;subst f;exact⟨b,i⟩
 intro k j;rcases j with h|h|h|h|h|h
 .exact⟨_,_,_,h▸a.blk,ai⟩
 .exact⟨_,_,_,h▸a.fJ.blk,ai⟩
 .obtain⟨b,c⟩:=d a.gN h;exact⟨_,_,_,c,ai⟩
 .obtain⟨b,c⟩:=d a.iL h;exact⟨_,_,_,c,ai⟩
 .obtain⟨b,c⟩:=d a.dO h;exact⟨_,_,_,c,ai⟩
 .obtain⟨b,c⟩:=d a.fJ.row h;exact⟨_,_,_,c,ai⟩
theorem Ko (h:dU W base A Cb bv pv lv cv bh ch al pl n N wk) (f:q9 (ch.map (·.2.1)) (bh.map (·.2.1)) al pl n N) (id:Int) (F:∀p,¬jk (ch.map (·.2.1)).flatten al pl id p):
  Calls prog 58 #[.pointer (some ⟨A,0,none⟩),.int .u32 id] W fun e w'=>e=.returned (.tuple #[.int .i64 0,.bool false])/\Below W.heap.size W w':=by
 have r:=ag (GL h);have H:=ag h;have i:=f.Tz;have u:=ag (fun W' (a:Below W.heap.size W W')=>sJ A id W' _ bh bv base ((h.below a).cell.2.1) (h.below a).gN rfl (h.below a).bE f.sorted (by have:=i.1;simp at this;omega) (fun l D=>by have:=i.2.2.1 l D;omega));have c:=ag f;go_enter func58,ntmps58
 go_wp2_with fail
 refine r.o.mono ?_;rintro e w2 ⟨rfl,d⟩
 go_wp2_with fail
 refine(u.o w2 d).mono ?_;rintro e w3 ⟨k,t,rfl,ht,C,z⟩;have b:=d.trans (z.mono d.size);obtain⟨-,-,-,O,-⟩:=(H.o.below b).cell;rcases C with⟨y,g,w,rfl⟩|⟨rfl,-⟩
 .rw[ib c.o.perm]at g;have⟨m,j,q⟩:=c.o.vL y g;obtain⟨K,L,rfl,-,-,G⟩:=Rd.aJ (H.o.below b).dO;obtain⟨J,M,v,-,x⟩:=G.get aa;have I:=x m q;have B:al[m]=false:=by
   cases a:al[m]with
   |false=>rfl
   |true=>
    have E:m<pl.length:=by have:=c.o.len;omega
    exact absurd ⟨m,by rw[<-w,<-j];exact g,by rw[cB q,a],cB E⟩ (F pl[m])
  rw[B]at I;have s:=ag v;rw[j];obtain rfl:=s.o;have Q:(m:Int)<(al.length:Int):=aa;have P:decide ((m:Int)<0)=false:=ay;go_wp2;go_ret2;exact⟨rfl,b⟩
 .go_wp2;go_ret2;exact⟨rfl,b⟩
def Ui (W:World) (base A Cb:Nat) (bv pv lv cv:Value) (bh ch:List lU) (al:List Bool) (pl:List Int) (n:Int) (k:Nat) (p:Int) (e:Ending) (w':World):Prop:=
 ∃(SB CW:Value) (bh' qV:List lU) (N' KI:Int),e=.returned (.tuple #[.int .i64 p,.bool true])/\dU w' base A Cb SB pv lv CW bh' qV (al.set k false) pl (n-1) N' KI/\q9 (qV.map (·.2.1)) (bh'.map (·.2.1)) (al.set k false) pl (n-1) N'/\
  (∀id p,jk (qV.map (·.2.1)).flatten (al.set k false) pl id p↔jk (ch.map (·.2.1)).flatten (al.set k false) pl id p)/\(∀k,oz A Cb SB pv lv CW k->oz A Cb bv pv lv cv k\/W.heap.size<=k)/\ax (oz A Cb bv pv lv cv) W w'/\Nw W.heap.size bh bh'/\Nw W.heap.size ch qV
theorem Ig (h:dU W base A Cb bv pv lv cv bh ch al pl n N wk) (a5:base<=W.heap.size) (r:q9 (ch.map (·.2.1)) (bh.map (·.2.1)) al pl n N) (id p:Int) (m:Nat) (V:(id,(m:Int))∈(ch.map (·.2.1)).flatten) (B:al[m]? =some true) (hp:pl[m]? =some p):
  Calls prog 58 #[.pointer (some ⟨A,0,none⟩),.int .u32 id] W (Ui W base A Cb bv pv lv cv bh ch al pl n m p):=by
 have ai:=ag (GL h);have H:=ag h;have U:=r.Tz;have ak:=ag (fun W' (G:Below W.heap.size W W')=>sJ A id W' _ bh bv base ((h.below G).cell.2.1) (h.below G).gN rfl (h.below G).bE r.sorted (by have:=U.1;simp at this;omega) (fun l aP=>by have:=U.2.2.1 l aP;omega));have E:=ag r;have be:1<=n/\n<=5000:=by
  have Q:=r.cnt;have S:al.count true<=al.length:=IW;have a3:=r.bound;have⟨X,aS⟩:=fH.1 B;have a6:0<al.count true:=List.count_pos_iff.2 (aS▸bF X);omega
 have M:=ag (KU r m B);go_enter func58,ntmps58
 go_wp2_with fail
 refine ai.o.mono ?_;rintro e w2 ⟨rfl,I⟩
 go_wp2_with fail
 refine(ak.o w2 I).mono ?_;rintro e w3 ⟨k,t,rfl,ht,u,aL⟩;have K:=ag (I.trans (aL.mono I.size));have s:=ag (H.o.below K.o);have⟨aC,aY,aD,aZ,aE⟩:=s.o.cell;have aO:k=(m:Int):=by
  rcases u with⟨y,Z,Q,S⟩|⟨-,aU⟩
  .rw[ib E.o.perm]at Z;have:=oZ E.o.ids Z V (aQ Q);rw[<-S,this]
  .exact absurd rfl (aU _ ((ib E.o.perm _).2 V))
 subst aO;obtain⟨X,-⟩:=fH.1 B;obtain⟨bd,-⟩:=fH.1 hp;obtain⟨b,f,aF,a7,a8,-,-⟩:=aV s.o.dO aa;subst aF;have ac:=s.o.dO.cellAt m aa;rw[iB,B]at ac;simp only[fT]at ac;have a1:=s.o.dO.frozenAt m;have F:=ag (s.o.Tx rfl m false);have⟨d0,d1,d2,d3,d4⟩:=F.o.cell;have f4:=F.o.frozen 4;have z:=ag (F.o.Tw (n-1));have ap:Hid (ax (oz A Cb bv pv (.slice (some ⟨b,0,none⟩) al.length f) cv) W ((w3.setCell ⟨b,m,none⟩ (.bool false)).setCell ⟨A,4,none⟩ (.int .i64 (n-1)))):=
  (((ax.refl _ W).below K.o).set (a:=⟨b,m,none⟩) _ (.inl (.inr (.inr (.inr (.inr (.inl rfl))))))).set (a:=⟨A,4,none⟩) _ (.inl (.inl rfl))
 have bb:(m:Int)<(al.length:Int):=aa;have bc:(m:Int)<(pl.length:Int):=aa;have a0:decide ((m:Int)<0)=false:=ay;have Y:(-9223372036854775808:Int)<=n-1/\n-1<=9223372036854775807:=aa;have aw:=ag hp
 go_upto_region 8 with fail
 generalize(w3.setCell ⟨b,m,none⟩ (.bool false)).setCell ⟨A,4,none⟩ (.int .i64 (n-1))=J at*
 go_cut [51]from 41 to 50 (fun tv w=>tv=.bool (decide (2*(n-1)<N))/\Hid (dU w base A Cb bv pv (.slice (some ⟨b,0,none⟩) al.length f) cv bh ch (al.set m false) pl (n-1) N wk)/\Hid (ax (oz A Cb bv pv (.slice (some ⟨b,0,none⟩) al.length f) cv) W w))
 case first=>
  obtain⟨aC,-,-,-,aE⟩:=z.o.cell;have af:=ag (Q5 (z.o.below (aI _ _).drew).fJ);have a4:(-9223372036854775808:Int)<=2*(n-1)/\2*(n-1)<=9223372036854775807:=aa;have ah:Hid (Calls prog 137 #[.pointer (some ⟨Cb,0,none⟩)] J.drew fun e d=>e=.returned (.int .i64 N)/\Hid (Below J.drew.heap.size J.drew d)/\d.cell? ⟨A,0,none⟩=some (.pointer (some ⟨Cb,0,none⟩))/\d.cell? ⟨A,4,none⟩=some (.int .i64 (n-1))):=ag (by
   refine af.o.mono ?_;rintro e d ⟨rfl,T⟩;obtain⟨O,-,-,-,P⟩:=((z.o.below (aI _ _).drew).below T).cell;exact⟨rfl,T,O,P⟩)
  go_region_with (go_at_call 137;(with_reducible refine ah.o.mono ?_);rintro e d ⟨rfl,L,O,P⟩)
  all_goals
   have x:=ag ((z.o.below (aI _ _).drew).below L.o)
   go_wp2_with fail
   go_meet;exact⟨by rw[show IntKind.i64.wrap (2*(n-1))=2*(n-1)from iQ _ aa],x,(ap.o.drew).below L.o⟩
 case rest=>
 obtain⟨rfl,x,g⟩:=hcut;obtain⟨d,aH⟩:∃d:World,d=wc:=⟨_,rfl⟩;subst aH;generalize aM:decide (2*(n-1)<N)=dg;have aj:=ag aM
 go_upto_if 51 with fail
 go_cut []from 51 to 53 (fun w=>∃(j q:Value) (bh' c:List lU) (i v:Int),Hid (dU w base A Cb j pv (.slice (some ⟨b,0,none⟩) al.length f) q bh' c (al.set m false) pl (n-1) i v)/\Hid (q9 (c.map (·.2.1)) (bh'.map (·.2.1)) (al.set m false) pl (n-1) i)/\
  Hid (∀id p,jk (c.map (·.2.1)).flatten (al.set m false) pl id p↔jk (ch.map (·.2.1)).flatten (al.set m false) pl id p)/\Hid (∀k,oz A Cb j pv (.slice (some ⟨b,0,none⟩) al.length f) q k->oz A Cb bv pv (.slice (some ⟨b,0,none⟩) al.length f) cv k\/W.heap.size<=k)/\Hid (ax (oz A Cb bv pv (.slice (some ⟨b,0,none⟩) al.length f) cv) W w)/\Hid (Nw W.heap.size bh bh')/\Hid (Nw W.heap.size ch c))
 case first=>
  cases dg
  .have au:Hid (N<=2*(n-1)):=ag (by have:=aj.o;simp at this;omega)
   go_wp2_with fail
   go_meet;exact⟨bv,cv,bh,ch,N,wk,x,⟨M.o,au.o⟩,fun _ _=>Iff.rfl,fun k u=>.inl u,g,Nw.refl,Nw.refl⟩
  .have ae:=ag (R5 x.o (by have:=g.o.size;omega) M.o)
   go_wp2_with fail
   refine ae.o.mono ?_;rintro e bg ⟨j,q,bh',c,i,v,rfl,aW,aX,aN,aR,aK,Y,aT⟩;have C:=ag Y;have D:=ag aT;have az:=ag aW;have aB:=ag aX;have am:=ag aN;have ar:=ag aR;have aq:=ag aK
   go_wp2_with fail
   go_meet;exact⟨j,q,bh',c,i,v,az,aB,am,fun k u=>(ar.o k u).imp (fun h=>h) (fun h=>by have:=g.o.size;omega),g.o.trans aq.o,Nw.nil C.o g.o.size,Nw.nil D.o g.o.size⟩
 case rest=>
  have⟨j,q,bh',c,i,v,R,aA,an,av,ao,C,D⟩:=hcut;obtain⟨ab,aJ⟩:∃ab:World,ab=wc:=⟨_,rfl⟩;subst aJ;obtain⟨-,-,aD,-,-⟩:=R.o.cell;obtain⟨a2,bf,aG,a9,ba,-,-⟩:=aV R.o.iL aa;subst aG;have ad:=R.o.iL.cellAt m aa;rw[iB,aw.o]at ad;simp only[fT]at ad;go_wp2;go_ret2;exact⟨j,q,bh',c,i,v,rfl,R.o,aA.o,an.o,av.o,ao.o,C.o,D.o⟩
end
end
section
open Go.RowKit Go.Maps
def Uj (S:Nat->Prop) (ch:List lU):Prop:=∀h∈ch,h.2.1≠[]->∀a,h.1=some a->S a.block
theorem Uj.nw {S:Nat->Prop} {n:Nat} {ch b:List lU} (h:Uj S ch) (d:Nw n ch b):Uj (fun k=>S k\/n<=k) b:=fun x f e a c=>(d x f).elim (fun g=>.inl (h x g e a c)) fun g=>.inr (g a c)
def kL (W:World) (base A:Nat) (S:Nat->Prop) (m:Nat) (D:List (Int×Int)):Prop:=
 ∃(Cb:Nat) (bv pv lv cv:Value) (bh ch:List lU) (al:List Bool) (pl:List Int) (n N wk:Int),dU W base A Cb bv pv lv cv bh ch al pl n N wk/\q9 (ch.map (·.2.1)) (bh.map (·.2.1)) al pl n N/\DV (ch.map (·.2.1)) al pl D/\al.length<=m/\(∀k,oz A Cb bv pv lv cv k->S k)/\Uj S bh/\Uj S ch
section
variable {W:World} {base A:Nat} {S:Nat->Prop} {m:Nat} {D:List (Int×Int)}
theorem kL.mono {S':Nat->Prop} {e:Nat} (h:kL W base A S m D) (hS:∀k,S k->S' k) (p:m<=e):kL W base A S' e D:=by
 have⟨Cb,bv,pv,lv,cv,bh,ch,al,pl,n,N,wk,l,o,hd,q,f,g,i⟩:=h;exact⟨Cb,bv,pv,lv,cv,bh,ch,al,pl,n,N,wk,l,o,hd,aa,fun k j=>hS k (f k j),fun h c d a b=>hS _ (g h c d a b),fun h c d a b=>hS _ (i h c d a b)⟩
theorem kL.clip (h:kL W base A S m D):kL W base A (fun k=>S k/\k<W.heap.size) m D:=by
 have⟨Cb,bv,pv,lv,cv,bh,ch,al,pl,n,N,wk,d,w,hd,v,hS,s,u⟩:=h;have j:∀{e:List lU},jX W e->Uj S e->Uj (fun k=>S k/\k<W.heap.size) e:=fun{e} q hi x l i a f=>by
  refine⟨hi x l i a f,?_⟩;rcases(q x l).1 with p|⟨b,off,y,fr,c,r,-⟩
  .exact absurd p i
  .rw[f]at c;injection c with c;rw[c];exact(aY.1 r).1
 refine⟨Cb,bv,pv,lv,cv,bh,ch,al,pl,n,N,wk,d,w,hd,v,fun k g=>⟨hS k g,?_⟩,j d.bE s,j d.cE u⟩;obtain⟨cs,t,fr,o,-⟩:=zi d k g;exact(aY.1 o).1
theorem kL.kept {W':World} (h:kL W base A S m D) {T:Nat->Prop} (K:ax T W W') (hd:∀k,S k->¬T k):kL W' base A S m D:=by
 have⟨Cb,bv,pv,lv,cv,bh,ch,al,pl,n,N,wk,a,i,f,g,hS,c,d⟩:=h;exact⟨Cb,bv,pv,lv,cv,bh,ch,al,pl,n,N,wk,⟨a.hb,bq K a.blk (hd _ (hS _ (.inl rfl))),⟨a.fJ.hb,a.fJ.ds,bq K a.fJ.blk (hd _ (hS _ (.inr (.inl rfl)))),aR a.fJ.row K fun b e=>hd _ (hS _ (.inr (.inr (.inr (.inr (.inr e))))))⟩,aR a.gN K fun b e=>hd _ (hS _ (.inr (.inr (.inl e)))),aR a.iL K fun b e=>hd _ (hS _ (.inr (.inr (.inr (.inl e))))),aR a.dO K fun b e=>hd _ (hS _ (.inr (.inr (.inr (.inr (.inl e)))))),a.bE.NY c K hd,a.cE.NY d K hd,a.sep⟩,i,f,g,hS,c,d⟩
theorem V9 (W:World):aK 54 #[] W fun e w'=>e=.returned (aj (W.heap.size+1))/\kL w' W.heap.size (W.heap.size+1) (fun k=>W.heap.size<=k) 0 []/\Below W.heap.size W w':=by
 refine(Tv W).mono ?_;rintro e w' ⟨c,d,b⟩;refine⟨c,⟨W.heap.size,aL,aL,aL,aL,[],[],[],[],0,0,0,d,OE,DV.new,aB _,?_,(fun h a=>absurd a iC),fun h a=>absurd a iC⟩,b⟩;rintro k (h|h|h|h|h|h)
 .show _<=k;omega
 .show _<=k;omega
 all_goals cases h
theorem Kq (h:kL W base A S m D) (id p c:Int) (hid:(id,c)∈D):aK 56 #[aj A,ak id,ae p] W (fw W (ae 2)):=by
 have⟨Cb,bv,pv,lv,cv,bh,ch,al,pl,n,N,wk,e,a,hd,i,hS,f,g⟩:=h;have b:=a.Tz;exact Fa e a (by have:=b.1;simp at this;omega) (fun l d=>by have:=b.2.2.1 l d;omega) id p c ((hd.iff _ _).1 hid)
def Ls (S:Nat->Prop) (W w':World):Prop:=∃T:Nat->Prop,ax T W w'/\∀k,T k->S k/\∃cs t fr,W.heap[k]? =some (Obj.cells cs t fr)/\Qh t=true
theorem Ls.Uk {w':World} (h:Ls S W w'):ax S W w':=by
 have⟨T,K,a⟩:=h;exact K.mono fun k b=>(a k b).1
def Vr (W:World) (base A:Nat) (S:Nat->Prop) (m:Nat) (D:List (Int×Int)) (id p:Int) (e:Ending) (w':World):Prop:=
 e=.returned (ae 0)/\kL w' base A (fun k=>S k\/W.heap.size<=k) (m+1) (D++[(id,p)])/\Ls S W w'
theorem Qi (h:kL W base A S m D) (M:base<=W.heap.size) (af:m<5000) (id p:Int) (hid:∀q,(id,q)∉D):aK 56 #[aj A,ak id,ae p] W (Vr W base A S m D id p):=by
 have⟨Cb,bv,pv,lv,cv,bh,ch,al,pl,n,N,wk,u,c,hd,ad,hS,z,B⟩:=h;have F:∀k,oz A Cb bv pv lv cv k->∃cs t fr,W.heap[k]? =some (Obj.cells cs t fr)/\Qh t=true:=zi u;have G:=c.Tz;by_cases d:∃x∈(ch.map (·.2.1)).flatten,x.1=id
 .obtain⟨x,d,X⟩:=d;have⟨k,b,C⟩:=c.vL x d;have f:(id,(k:Int))∈(ch.map (·.2.1)).flatten:=by rw[<-X,<-b];exact d
  have j:al[k]? =some false:=by
   rw[cB C];cases L:al[k]with
   |false=>rfl
   |true=>
    obtain⟨q,U,-⟩:=hd.val c.toxc f (by rw[cB C,L]);exact absurd U (hid q)
  have Q:0<=n/\n<=100000:=by
   have w:=c.cnt;have y:al.count true<=al.length:=IW;have ac:=c.bound;omega
  refine(Fb u c (by have:=G.1;simp at this;omega) (fun l O=>by have:=G.2.2.1 l O;omega) id p k f j Q).mono ?_;rintro e w' ⟨o,v,g⟩;have K:ax (oz A Cb bv pv lv cv) W w':=g.mono fun k b=>by
   rcases b with h|h|h
   .exact .inl h
   .exact .inr (.inr (.inr (.inl h)))
   .exact .inr (.inr (.inr (.inr (.inl h))))
  exact⟨o,⟨Cb,bv,pv,lv,cv,bh,ch,_,_,_,N,wk,v,Q7 c k p id f j,hd.again c.toxc f j,aH,fun k b=>.inl (hS k b),(fun h r s a i=>.inl (z h r s a i)),fun h r s a i=>.inl (B h r s a i)⟩,⟨_,K,fun k b=>⟨hS k b,F k b⟩⟩⟩
 .have E:∀x∈(ch.map (·.2.1)).flatten,x.1≠id:=fun x w y=>d ⟨x,w,y⟩;refine(Kl u M c aa id p E).mono ?_;rintro e w' ⟨H,Z,Y,J,bh',I,ab,o,v,V,hP,P,g,R,T⟩;exact⟨o,⟨Cb,H,Z,Y,J,bh',I,_,_,_,_,ab,v,V,hd.put c.toxc E hP,aH,fun k b=>(P k b).imp (hS k) (fun h=>h),z.nw R,B.nw T⟩,⟨_,g,fun k b=>⟨hS k b,F k b⟩⟩⟩
theorem Qj (h:kL W base A S m D) (id:Int) (hid:∀q,(id,q)∉D):aK 58 #[aj A,ak id] W (fw W (.tuple #[ae 0,.bool false])):=by
 have⟨Cb,bv,pv,lv,cv,bh,ch,al,pl,n,N,wk,b,c,hd,f,hS,d,e⟩:=h;exact Ko b c id (fun q a=>hid q ((hd.iff _ _).2 a))
def Ul (W:World) (base A:Nat) (S:Nat->Prop) (m:Nat) (D:List (Int×Int)) (id p:Int) (e:Ending) (w':World):Prop:=
 e=.returned (.tuple #[ae p,.bool true])/\kL w' base A (fun k=>S k\/W.heap.size<=k) m (D.filter fun x=>decide (x.1≠id))/\Ls S W w'
theorem Ns (h:kL W base A S m D) (s:base<=W.heap.size) (id p:Int) (hid:(id,p)∈D):aK 58 #[aj A,ak id] W (Ul W base A S m D id p):=by
 have⟨Cb,bv,pv,lv,cv,bh,ch,al,pl,n,N,wk,d,f,hd,x,hS,u,v⟩:=h;have E:=zi d;have⟨k,b,c,o⟩:=(hd.iff _ _).1 hid;have q:=hd.drop f.toxc b c;refine(Ig d s f id p k b c o).mono ?_;rintro e w' ⟨i,l,bh',j,g,G,t,C,F,w,y,r,z,B⟩;exact⟨t,⟨Cb,i,pv,lv,l,bh',j,_,_,_,g,G,C,F,q.turn w,aQ x,fun k a=>(y k a).imp (hS k) (fun h=>h),u.nw z,v.nw B⟩,⟨_,r,fun k a=>⟨hS k a,E k a⟩⟩⟩
end
def Own (W:World) (base A m:Nat) (D:List (Int×Int)):Prop:=kL W base A (fun k=>base<=k) m D
end
section
open Go.RowKit Go.Sort Go.Shelf Go.Lib Go.Maps
attribute [local irreducible] wpQuiet
attribute [local go_sem] Oper.fB
structure Ih (w:World) (Pb Hb Ab base:Nat) (av:Value) (GH SD:Nat->Prop) (m:Nat) (A:List eX) (D:List (Int×Int)) (ALL:List Pt) (N wk eB:Int):Prop where
 blk:w.heap[Pb]? =some (Obj.cells #[aj Hb,aj Ab,av,ae eB] xG (0,0))
 row:w.ownsRow 0 29 3 av ALL.length (ALL.flatMap dw)
 half:jd w Hb GH m A N wk
 dir:kL w base Ab SD m D
 hb:base<=w.heap.size
 few:ALL.length<=m
 fwd:∀id q,(id,q)∈D->∃(k:Nat) (c:eX),q=k/\c∈A/\ALL[k]? =some c.1/\c.1.2.2=id
 bwd:∀c∈A,∃q,(c.1.2.2,q)∈D
 rq:(∀k,GH k->¬SD k/\k≠Pb/\av.ownBlock≠some k/\k<w.heap.size)/\(∀k,SD k->k≠Pb/\av.ownBlock≠some k/\k<w.heap.size)/\av.ownBlock≠some Pb
def dN (w:World) (Pb:Nat) (G:Nat->Prop) (m:Nat) (now:List Pt) (N wk eB:Int):Prop:=
 ∃(Hb Ab base:Nat) (av:Value) (GH SD:Nat->Prop) (A:List eX) (D:List (Int×Int)) (ALL:List Pt),Ih w Pb Hb Ab base av GH SD m A D ALL N wk eB/\A.map (·.1)=now/\∀k,GH k\/SD k\/k=Pb\/av.ownBlock=some k->G k
theorem jd.clip {w:World} {Hb m:Nat} {G:Nat->Prop} {A:List eX} {N wk:Int} (h:jd w Hb G m A N wk):jd w Hb (fun k=>G k/\k<w.heap.size) m A N wk:=by
 have⟨X,F,Cb,mb,cv,tv,av,lv,ch,T,al,eQ,d,e,f,c,g,j,b,l,n⟩:=h;exact⟨X,F,Cb,mb,cv,tv,av,lv,ch,T,al,eQ,d,e,f,c,g,j,fun k a=>⟨(b k a).1,(b k a).2,(b k a).1⟩,fun i k a=>⟨l i k a,c.lt i k a⟩,n⟩
section
variable {w w':World} {Pb Hb Ab base m:Nat} {av:Value} {G GH SD S:Nat->Prop} {A:List eX} {D:List (Int×Int)} {ALL now:List Pt} {N wk eB R6:Int}
theorem Ih.kept (h:Ih w Pb Hb Ab base av GH SD m A D ALL N wk eB) (K:ax S w w') (hS:∀k,GH k\/SD k\/k=Pb\/av.ownBlock=some k->¬S k):Ih w' Pb Hb Ab base av GH SD m A D ALL N wk eB:=
 ⟨bq K h.blk (hS _ (.inr (.inr (.inl rfl)))),aR h.row K fun b e=>hS _ (.inr (.inr (.inr e))),h.half.kept K fun k a=>hS k (.inl a),h.dir.kept K fun k a=>hS k (.inr (.inl a)),bA h.hb K.size,h.few,h.fwd,h.bwd,⟨fun k a=>⟨(h.rq.1 k a).1,(h.rq.1 k a).2.1,(h.rq.1 k a).2.2.1,bX (h.rq.1 k a).2.2.2 K.size⟩,fun k a=>⟨(h.rq.2.1 k a).1,(h.rq.2.1 k a).2.1,bX (h.rq.2.1 k a).2.2 K.size⟩,h.rq.2.2⟩⟩
theorem Ih.Qk (h:Ih w Pb Hb Ab base av GH SD m A D ALL N wk eB) (K:ax (fun k=>k=Pb) w w') (hb:w'.heap[Pb]? =some (Obj.cells #[aj Hb,aj Ab,av,ae R6] xG (0,0))):Ih w' Pb Hb Ab base av GH SD m A D ALL N wk R6:=
 ⟨hb,aR h.row K fun c e b=>h.rq.2.2 (by rw[e,b]),h.half.kept K fun k a=>(h.rq.1 k a).2.1,h.dir.kept K fun k a=>(h.rq.2.1 k a).1,bA h.hb K.size,h.few,h.fwd,h.bwd,⟨fun k a=>⟨(h.rq.1 k a).1,(h.rq.1 k a).2.1,(h.rq.1 k a).2.2.1,bX (h.rq.1 k a).2.2.2 K.size⟩,fun k a=>⟨(h.rq.2.1 k a).1,(h.rq.2.1 k a).2.1,bX (h.rq.2.1 k a).2.2 K.size⟩,h.rq.2.2⟩⟩
theorem dN.kept (h:dN w Pb G m now N wk eB) (K:ax S w w') (hS:∀k,G k->¬S k):dN w' Pb G m now N wk eB:=by
 have⟨Hb,Ab,base,av,GH,SD,A,D,ALL,b,c,a⟩:=h;exact⟨Hb,Ab,base,av,GH,SD,A,D,ALL,b.kept K fun k d=>hS k (a k d),c,a⟩
theorem dN.below (h:dN w Pb G m now N wk eB) (a:Below w.heap.size w w'):dN w' Pb G m now N wk eB:=h.kept (S:=fun _=>False) ((ax.refl _ _).below a) fun _ _ h=>h
theorem dN.more {a:Nat->Prop} (h:dN w Pb G m now N wk eB) (e:∀k,G k->a k):dN w Pb a m now N wk eB:=by
 have⟨Hb,Ab,base,av,GH,SD,A,D,ALL,b,c,d⟩:=h;exact⟨Hb,Ab,base,av,GH,SD,A,D,ALL,b,c,fun k f=>e k (d k f)⟩
theorem dN.facts (h:dN w Pb G m now N wk eB):(now.length:Int)<=N/\N<=2*now.length/\N<=m/\(ids now).Nodup/\(∀p∈now,FX p)/\0<=wk/\(∀L,m<2^L->wk<=(L*m:Nat))/\G Pb:=by
 obtain⟨Hb,Ab,base,av,GH,SD,A,D,ALL,a,rfl,b⟩:=h;obtain⟨f1,f2,f3,f4,f5,f6,f7,-⟩:=a.half.facts;rw[bR];exact⟨f1,f2,f3,f4,fun p hp=>by obtain⟨c,d,rfl⟩:=dA.1 hp;exact f5 c d,f6,f7,b _ (.inr (.inr (.inl rfl)))⟩
theorem SC (w:World):aK 11 #[] w fun e w'=>∃Pb,e=.returned (aj Pb)/\dN w' Pb (fun k=>w.heap.size<=k/\k<w'.heap.size) 0 [] 0 0 0/\Below w.heap.size w w':=by
 have g:=ag (Vj w);go_enter func11,ntmps11
 go_wp2_with fail
 refine g.o.mono ?_;rintro e w1 ⟨rfl,m,n⟩;have c:=ag m.clip;have b:=ag n;have f:=ag (V9 w1)
 go_wp2_with fail
 refine f.o.mono ?_;rintro e w2 ⟨rfl,l,p⟩;have i:=ag l.clip;have a:=ag p;go_wp2;go_ret;have q:=b.o.size;have t:=a.o.size;have d:ax (fun _=>False) w2 (w2.alloc (.cells #[aj (w.heap.size+2),aj (w1.heap.size+1),aL,ae 0] xG)):=(ax.refl _ w2).alloc _;have r:ax (fun _=>False) w1 w2:=(ax.refl _ w1).below a.o;have s:=c.o.facts;refine⟨w2.heap.size,rfl,⟨w.heap.size+2,w1.heap.size+1,w1.heap.size,aL,_,_,[],[],[],⟨bW w2 _,dx _ _ _ _,(c.o.kept r (fun _ _ h=>h)).kept d (fun _ _ h=>h),i.o.kept d (fun _ _ h=>h),aH,bD _,fun _ _ h=>absurd h iC,fun _ h=>absurd h iC,⟨fun k hk=>⟨fun j=>by have:=j.1;have:=hk.2;omega,by have:=hk.2;omega,by simp[Value.ownBlock],by have:=hk.2;simp;omega⟩,fun k hk=>⟨by have:=hk.2;omega,by simp[Value.ownBlock],by have:=hk.2;simp;omega⟩,by simp[Value.ownBlock]⟩⟩,rfl,fun k hk=>?_⟩,?_⟩
 .rcases hk with hk|hk|hk|hk
  .exact⟨hk.1,by have:=hk.2;simp;omega⟩
  .exact⟨by have:=hk.1;omega,by have:=hk.2;simp;omega⟩
  .exact⟨aa,aH⟩
  .cases hk
 .exact b.o.trans ((a.o.mono q).alloc aa _)
theorem SE (h:dN w Pb G m now N wk eB):aK 14 #[aj Pb] w fun e w'=>e=.returned (ae now.length)/\w'=w:=by
 obtain⟨Hb,Ab,base,av,GH,SD,A,D,ALL,c,rfl,j⟩:=h;have f:=ag (ko c.blk);have d:=ag (Vh c.half);have i:w.cell? (af Pb 0)=some (aj Hb):=aD c.blk;have g:(A.map (·.1)).length=A.length:=bR _;rw[g];go_enter func14,ntmps14
 go_wp2_with (first|(go_at_call 55;refine f.o.mono ?_;rintro e w1 ⟨rfl,a⟩;have b:=a.symm;clear a;subst b)|(refine d.o.mono ?_;rintro e w1 ⟨rfl,a⟩;have b:=a.symm;clear a;subst b))
 go_ret;exact⟨rfl,rfl⟩
end
end
end Go.Proofs.YtkjdbndekceffaaGreat
