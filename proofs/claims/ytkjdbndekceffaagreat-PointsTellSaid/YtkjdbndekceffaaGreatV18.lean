/- Made small by a program. -/
import Derived.Test.YtkjdbndekceffaaGreatV17
set_option linter.unusedSimpArgs false
set_option linter.unusedVariables false
set_option maxRecDepth 100000
set_option maxHeartbeats 16000000
namespace Go.Proofs.YtkjdbndekceffaaGreat
open Tryz
section
open Go.RowKit Go.Maps
attribute [local irreducible] wpQuiet
section
variable {W:World} {base A Cb:Nat} {bv pv lv cv:Value} {bh ch:List l8} {al:List Bool} {pl:List Int} {n N wk:Int}
theorem dR.rows {W':World} {l j:Value} {al':List Bool} {pl':List Int} (h:dR W base A Cb bv pv lv cv bh ch al pl n N wk) (K:aB (fun k=>k=A\/pv.ownBlock=some k\/lv.ownBlock=some k) W W')
  (hb:W'.heap[A]? =some (Obj.cells #[.pointer (some ⟨Cb,0,none⟩),bv,l,j,.int .i64 n] 207 (0,0)))
  (hp:W'.ownsRow base 3 1 l pl'.length (pl'.map (Value.int .i64))) (q:W'.ownsRow base 4 1 j al'.length (al'.map Value.bool)):dR W' base A Cb bv l j cv bh ch al' pl' n N wk:=by
 have c:∀{b:Nat} {cs:Array Value} {t:TypeId} {fr:Nat×Nat},W.heap[b]? =some (Obj.cells cs t fr)->t≠207->t≠3->t≠4->¬(b=A\/pv.ownBlock=some b\/lv.ownBlock=some b):=by
  rintro b cs t fr hb d f i (h9|h9|h9)
  .exact eD hb h.blk d h9
  .exact bz h.iP hb f _ h9 rfl
  .exact bz h.dP hb i _ h9 rfl
 have p:∀{e:TypeId} {sz:Nat} {v:Value} {n:Nat} {xs:List Value},W.ownsRow base e sz v n xs->e≠207->e≠3->e≠4->W'.ownsRow base e sz v n xs:=fun o d f i=>
  aU o K fun u e=>by
   rcases o.2 with⟨rfl,_⟩|⟨g,s,m,rfl,_,r,_⟩
   .cases e
   .simp only[Value.ownBlock,jH]at e;subst e;exact c r d f i
 exact⟨h.hb,hb,⟨h.gp.hb,h.gp.ds,bu K h.gp.blk (c h.gp.blk ai ai ai),p h.gp.row ai ai ai⟩,p h.ik ai ai ai,hp,q,
  h.bE.kept fun b m fr a=>K.block b (bg.1 a).1 (c a ai ai ai),h.cE.kept fun b m fr a=>K.block b (bg.1 a).1 (c a ai ai ai),h.sep⟩
theorem uz {w:World} {A i:Nat} {cs a:Array Value} {t:TypeId} {v:Value} (h:w.heap[A]? =some (Obj.cells cs t (0,0))) (e:a=cs.setIfInBounds i v):(w.setCell ⟨A,i,none⟩ v).heap[A]? =some (Obj.cells a t (0,0)):=by
 rw[dC w A i _ _ _ h,e]
structure dA (W:World) (base A Cb:Nat) (bv pv lv cv:Value) (bh ch:List l8) (al:List Bool) (pl:List Int) (n N wk:Int):Prop where
 hb:base<=A
 blk:W.heap[A]? =some (Obj.cells #[.pointer (some ⟨Cb,0,none⟩),bv,pv,lv,.int .i64 n] 207 (0,0))
 gp:jr W base Cb cv ch N wk
 ik:W.ownsRow base 209 1 bv bh.length (bh.map eu)
 iP:W.ownsRow base 3 1 pv pl.length (pl.map (Value.int .i64))
 dP:W.ownsRow base 4 1 lv al.length (al.map Value.bool)
 sep:bv.ownBlock=none\/bv.ownBlock≠cv.ownBlock
theorem dR.core (h:dR W base A Cb bv pv lv cv bh ch al pl n N wk):dA W base A Cb bv pv lv cv bh ch al pl n N wk:=⟨h.hb,h.blk,h.gp,h.ik,h.iP,h.dP,h.sep⟩
theorem dA.rep (h:dA W base A Cb bv pv lv cv bh ch al pl n N wk) (hb:kK W bh) (a:kK W ch):dR W base A Cb bv pv lv cv bh ch al pl n N wk:=⟨h.hb,h.blk,h.gp,h.ik,h.iP,h.dP,hb,a,h.sep⟩
theorem dA.cell (h:dA W base A Cb bv pv lv cv bh ch al pl n N wk):
  W.cell? ⟨A,0,none⟩=some (.pointer (some ⟨Cb,0,none⟩))/\W.cell? ⟨A,1,none⟩=some bv/\W.cell? ⟨A,2,none⟩=some pv/\W.cell? ⟨A,3,none⟩=some lv/\W.cell? ⟨A,4,none⟩=some (.int .i64 n):=by
 have:=h.blk;refine⟨?_,?_,?_,?_,?_⟩<;>simp[World.cell?,this]
theorem dA.frozen (h:dA W base A Cb bv pv lv cv bh ch al pl n N wk) (j:Nat):W.frozen? ⟨A,j,none⟩=false:=by
 have:=h.blk;simp[World.frozen?,this]
theorem dA.lt (h:dA W base A Cb bv pv lv cv bh ch al pl n N wk):A<W.heap.size:=(bg.1 h.blk).1
theorem dA.below {W':World} (h:dA W base A Cb bv pv lv cv bh ch al pl n N wk) (hb:Below W.heap.size W W'):dA W' base A Cb bv pv lv cv bh ch al pl n N wk:=
 ⟨h.hb,(aP hb h.blk).trans h.blk,h.gp.below hb,az h.ik hb,az h.iP hb,az h.dP hb,h.sep⟩
def o6 (A Cb:Nat) (bv pv lv cv:Value) (k:Nat):Prop:=k=A\/k=Cb\/bv.ownBlock=some k\/pv.ownBlock=some k\/lv.ownBlock=some k\/cv.ownBlock=some k
theorem dA.add {W':World} {c:Value} {i:List l8} {g l:Int} (h:dA W base A Cb bv pv lv cv bh ch al pl n N wk) (K:aB (fun k=>k=Cb\/cv.ownBlock=some k) W W') (q:jr W' base Cb c i g l) (r:c.ownBlock=cv.ownBlock\/c.ownBlock=none\/∃b,c.ownBlock=some b/\W.heap.size<=b):
  dA W' base A Cb bv pv lv c bh i al pl n g l:=by
 have f:∀{e:TypeId} {sz:Nat} {v:Value} {n:Nat} {xs:List Value},W.ownsRow base e sz v n xs->e≠290->(∀a,v.ownBlock=some a->cv.ownBlock≠some a)->W'.ownsRow base e sz v n xs:=fun j o p=>
  aU j K fun a e=>by
   rintro(h9|h9)
   .exact bz j h.gp.blk (jk o) a e h9.symm
   .exact p a e h9
 refine⟨h.hb,bu K h.blk ?_,q,f h.ik ai ?_,f h.iP ai (bB h.iP h.gp.row ai),f h.dP ai (bB h.dP h.gp.row ai),?_⟩
 .rintro(h9|h9)
  .exact eD h.blk h.gp.blk ai h9
  .exact bz h.gp.row h.blk ai _ h9 rfl
 .intro a e m;rcases h.sep with h9|h9
  .rw[h9]at e;cases e
  .exact h9 (e.trans m.symm)
 .rcases r with h9|h9|⟨b,h9,s⟩
  .rw[h9];exact h.sep
  .rw[h9];rcases JD bv.ownBlock with d|⟨x,d⟩
   .exact .inl d
   .exact .inr (by rw[d];simp)
  .rw[h9];right;intro e;have:=(h.ik.lt b e).2;omega
theorem dA.Wv {g k c:Nat} (h:dA W base A Cb (.slice (some ⟨g,0,none⟩) k c) pv lv cv bh ch al pl n N wk) (f:k=bh.length) (m:Nat) (x:l8):dA (W.setCell ⟨g,m,none⟩ (eu x)) base A Cb (.slice (some ⟨g,0,none⟩) k c) pv lv cv (bh.set m x) ch al pl n N wk:=by
 subst f;have⟨i,b⟩:=Bf h.ik;have d:∀a,cv.ownBlock=some a->g≠a:=by
  rintro a e rfl;rcases h.sep with h9|h9
  .cases h9
  .exact h9 e.symm
 refine⟨h.hb,(aG (eD b h.blk ai)).trans h.blk,⟨h.gp.hb,h.gp.ds,(aG (eD b h.gp.blk ai)).trans h.gp.blk,bn h.gp.row fun a e=>aG (d a e)⟩,?_,bn h.iP fun a e=>aG (bz h.iP b ai a e),bn h.dP fun a e=>aG (bz h.dP b ai a e),h.sep⟩;rw[nu,jg];exact(h.ik.stored m (eu x)).1
theorem dA.Q7 {W':World} {c:Value} {bh':List l8} (h:dA W base A Cb bv pv lv cv bh ch al pl n N wk) (j:W.grownBy W' bv.ownBlock) (i:W'.ownsRow base 209 1 c bh'.length (bh'.map eu)) (m:c.ownBlock=bv.ownBlock\/c.ownBlock=none\/∃b,c.ownBlock=some b/\W.heap.size<=b):
  dA (W'.setCell ⟨A,1,none⟩ c) base A Cb c pv lv cv bh' ch al pl n N wk:=by
 have K:aB (fun k=>bv.ownBlock=some k) W W':=(aB.refl _ W).grown j (fun k l=>.inl l);have f:W'.heap[A]? =some (Obj.cells #[.pointer (some ⟨Cb,0,none⟩),bv,pv,lv,.int .i64 n] 207 (0,0)):=bu K h.blk fun e=>bz h.ik h.blk ai _ e rfl;have g:W'.ownsRow base 209 1 cv ch.length (ch.map eu):=aU h.gp.row K fun a e d=>by
  rcases h.sep with h9|h9
  .rw[h9]at d;cases d
  .exact h9 (d.trans e.symm)
 have o:c.ownBlock=none\/c.ownBlock≠cv.ownBlock:=by
  rcases m with h9|h9|⟨b,h9,p⟩
  .rw[h9];exact h.sep
  .exact .inl h9
  .rw[h9];right;intro e;have:=(h.gp.row.lt b e.symm).2;omega
 refine⟨h.hb,uz f rfl,⟨h.gp.hb,h.gp.ds,(aG (eD h.blk h.gp.blk ai)).trans (bu K h.gp.blk fun e=>bz h.ik h.gp.blk ai _ e rfl),bn g fun a e=>aG (bz g f ai a e)⟩,
  bn i fun a e=>aG (bz i f ai a e),?_,?_,o⟩
 .have:=aU h.iP K fun a e d=>bB h.iP h.ik ai a e d;exact bn this fun a e=>aG (bz this f ai a e)
 .have:=aU h.dP K fun a e d=>bB h.dP h.ik ai a e d;exact bn this fun a e=>aG (bz this f ai a e)
end
section
variable {W:World} {base A Cb:Nat} {bv pv lv cv:Value} {bh ch:List l8} {al:List Bool} {pl:List Int} {n N wk:Int}
theorem dA.XP {W':World} {d k:Nat} {v:Value} {xs:List Value} (h:dA W base A Cb bv pv lv cv bh ch al pl n N wk) (c:W.ownsRow d 204 2 v k xs) (f:W.grownBy W' v.ownBlock):dA W' base A Cb bv pv lv cv bh ch al pl n N wk:=by
 have K:aB (fun k=>v.ownBlock=some k) W W':=(aB.refl _ W).grown f (fun k g=>.inl g);exact⟨h.hb,bu K h.blk fun e=>bz c h.blk ai _ e rfl,⟨h.gp.hb,h.gp.ds,bu K h.gp.blk fun e=>bz c h.gp.blk ai _ e rfl,aU h.gp.row K fun b e a=>bB h.gp.row c ai b e a⟩,
  aU h.ik K fun b e a=>bB h.ik c ai b e a,aU h.iP K fun b e a=>bB h.iP c ai b e a,aU h.dP K fun b e a=>bB h.dP c ai b e a,h.sep⟩
theorem dA.fG {W':World} (h:dA W base A Cb bv pv lv cv bh ch al pl n N wk) {T:Nat->Prop} (K:aB (fun k=>o6 A Cb bv pv lv cv k\/T k) W W') (b:Nat) (a:Array Value) (fr:Nat×Nat) (hb:W.heap[b]? =some (Obj.cells a 204 fr)) (c:¬T b):W'.heap[b]? =W.heap[b]? :=by
 refine K.block b (bg.1 hb).1 ?_;rintro((h9|h9|h9|h9|h9|h9)|h9)
 .exact eD hb h.blk ai h9
 .exact eD hb h.gp.blk ai h9
 .exact bz h.ik hb ai _ h9 rfl
 .exact bz h.iP hb ai _ h9 rfl
 .exact bz h.dP hb ai _ h9 rfl
 .exact bz h.gp.row hb ai _ h9 rfl
 .exact c h9
def Aa (A:Nat) (w:World):Nat:=match w.cell? ⟨A,1,none⟩with|some (.slice _ n _)=>n|_=>0
theorem dA.Aa (h:dA W base A Cb bv pv lv cv bh ch al pl n N wk):Aa A W=bh.length:=by
 obtain⟨av,a,rfl,-,-,-⟩:=Rd.aD (enc:=eu) h.ik;unfold Proofs.YtkjdbndekceffaaGreat.Aa;rw[h.cell.2.1]
end
def Ed (bh:List l8) (k:Nat):List l8:=List.replicate k fZ++bh.drop k
theorem GJ {bh:List l8} {k:Nat} (a:k<=bh.length):(Ed bh k).length=bh.length:=by simp[Ed];omega
theorem Tq {bh:List l8} {k:Nat} (a:k<bh.length):(Ed bh k).set k fZ=Ed bh (k+1):=by
 unfold Ed;rw[su _ _ ax,iM,jh,ky a,pz,sJ,dW];rfl
theorem Tt {bh a:List l8} {i:Nat} (h:a=bh/\i<bh.length\/a=bh++[fZ]/\i=bh.length) (hd:l8):((Ed a i).set i hd).map (·.2.1)=List.replicate i []++hd.2.1::(bh.map (·.2.1)).drop (i+1):=by
 have c:i<a.length:=by rcases h with⟨rfl,h⟩|⟨rfl,h⟩<;>first|omega|(simp;omega)
 have b:(a.drop (i+1)).map (·.2.1)=(bh.map (·.2.1)).drop (i+1):=by
  rcases h with⟨rfl,h⟩|⟨rfl,h⟩
  .rw[y7]
  .rw[o8 aH,o8 aH];rfl
 unfold Ed;rw[su _ _ ax,iM,jh,ky c,pz,bJ,mG,b,FB]
theorem Mv {bh a:List l8} {i:Nat} (c:a=bh/\i<bh.length\/a=bh++[fZ]/\i=bh.length) {hd h:l8} (d:h∈(Ed a i).set i hd):h=hd\/h=fZ\/h∈bh:=by
 rcases Fe d with h1|h1
 .unfold Ed at h1;rw[bW]at h1;rcases h1 with h1|h1
  .exact .inr (.inl (BD.1 h1).2)
  .have b:=JK h1;rcases c with⟨rfl,-⟩|⟨rfl,-⟩
   .exact .inr (.inr b)
   .rcases bW.1 b with h3|h3
    .exact .inr (.inr h3)
    .exact .inr (.inl (aQ h3))
 .exact .inl h1
theorem yA {w:World} {base n:Nat} {v:Value} {l:List jv} (a:l.length=n) (j:n<4611686018427387904) (h:w.ownsRow base 204 2 v n (l.flatMap iZ)) (p:base<=w.heap.size):
  Calls prog 133 #[v] w fun e w'=>e=.returned v/\∃l':List jv,l'.Perm l/\l'.Pairwise (fun x y=>x.1<=y.1)/\w'.ownsRow base 204 2 v n (l'.flatMap iZ)/\w.grownBy w' v.ownBlock:=by
 rcases h.2 with⟨rfl,b⟩|⟨g,k,m,rfl,q,_⟩
 .subst b;obtain rfl:l=[]:=iC a;have d:=af h;go_enter func133,ntmps133
  go_wp2_with fail
  refine(Gg none 0 _ w).mono ?_;rintro e w' ⟨rfl,rfl⟩;go_wp2;go_ret;exact⟨rfl,[],qE _,List.Pairwise.nil,d.o,⟨rfl,rfl,rfl,aA _,fun _ _ _=>rfl⟩⟩
 .have C:=af (Sb a j h);go_enter func133,ntmps133
  go_wp2_with fail
  refine C.o.mono ?_;rintro e w' ⟨rfl,l',hp,i,f,c⟩;go_wp2;go_ret;exact⟨rfl,l',hp,i,f,c⟩
section
variable {W:World} {base A Cb:Nat} {bv pv lv cv:Value} {bh ch:List l8} {al:List Bool} {pl:List Int} {n N wk:Int}
def Tu (W:World) (base A Cb:Nat) (bv pv lv cv:Value) (bh ch:List l8) (al:List Bool) (pl:List Int) (n N id p:Int) (e:Ending) (w':World):Prop:=
 ∃(TY XB XA DT:Value) (bh' rR:List l8) (LC:Int),e=.returned (.int .i64 0)/\dR w' base A Cb TY XB XA DT bh' rR (al++[true]) (pl++[p]) (n+1) (N+1) LC/\qa (rR.map (·.2.1)) (bh'.map (·.2.1)) (al++[true]) (pl++[p]) (n+1) (N+1)/\
  (rR.map (·.2.1)).flatten.Perm ((id,(al.length:Int))::(ch.map (·.2.1)).flatten)/\(∀k,o6 A Cb TY XB XA DT k->o6 A Cb bv pv lv cv k\/W.heap.size<=k)/\aB (o6 A Cb bv pv lv cv) W w'/\Nw W.heap.size bh bh'/\Nw W.heap.size ch rR
theorem Ld (h:dR W base A Cb bv pv lv cv bh ch al pl n N wk) (dU:base<=W.heap.size) (aP:qa (ch.map (·.2.1)) (bh.map (·.2.1)) al pl n N) (dj:al.length<5000) (id p:Int) (bN:∀x∈(ch.map (·.2.1)).flatten,x.1≠id):
  Calls prog 56 #[.pointer (some ⟨A,0,none⟩),.int .u32 id,.int .i64 p] W (Tu W base A Cb bv pv lv cv bh ch al pl n N id p):=by
 have b2:=af (EG h);have H:=af h;have ag:=aP.TQ;have cc:=af (fun W' (F:Below W.heap.size W W')=>p9 A id W' _ bh bv base ((h.below F).cell.2.1) (h.below F).ik rfl (h.below F).bE aP.sorted (by have:=ag.1;simp at this;omega) (fun l c5=>by have:=ag.2.2.1 l c5;omega));have ed:0<=n/\n<=5000:=by
  have h1:=aP.cnt;have Y:al.count true<=al.length:=Fq;omega
 have aj:=af aP;go_enter func56,ntmps56
 go_wp2_with fail
 refine b2.o.mono ?_;rintro e w2 ⟨rfl,an⟩
 go_wp2_with fail
 refine(cc.o w2 an).mono ?_;rintro e w3 ⟨k,t,rfl,ht,m,cW⟩;have aR:=an.trans (cW.mono an.size);have a2:=af (H.o.below aR);have⟨dw,dx,dy,dz,dB⟩:=a2.o.cell;have c4:k=-1:=by
  rcases m with⟨y,bV,h1,Y⟩|⟨rfl,-⟩
  .rw[gB aj.o.perm]at bV;exact absurd h1 (bN _ bV)
  .rfl
 subst c4;have f4:=a2.o.frozen 4;have a4:=a2.o.UG (n+1);have ci:=af aj.o.len;have ee:pl.length<5000:=by have:=ci.o;omega
 have u:=af (a4.below ((aJ _ _).alloc (aA _) (.cells #[.int .u32 id,.int .i64 (al.length:Int)] 204)));have bm:Hid (aB (fun k=>k=A) W ((w3.setCell ⟨A,4,none⟩ (.int .i64 (n+1))).alloc (.cells #[.int .u32 id,.int .i64 (al.length:Int)] 204))):=((((aB.refl (fun k=>k=A) W).below aR).set (a:=⟨A,4,none⟩) _ (.inl rfl)).alloc _);have ds:((w3.setCell ⟨A,4,none⟩ (.int .i64 (n+1))).alloc (.cells #[.int .u32 id,.int .i64 (al.length:Int)] 204)).cell? ⟨w3.heap.size,0,none⟩=some (.int .u32 id):=by rw[eX _ _ _ _ ax];rfl
 have x1:((w3.setCell ⟨A,4,none⟩ (.int .i64 (n+1))).alloc (.cells #[.int .u32 id,.int .i64 (al.length:Int)] 204)).cell? ⟨w3.heap.size,1,none⟩=some (.int .i64 (al.length:Int)):=by rw[eX _ _ _ _ ax];rfl
 have bT:w3.heap.size<((w3.setCell ⟨A,4,none⟩ (.int .i64 (n+1))).alloc (.cells #[.int .u32 id,.int .i64 (al.length:Int)] 204)).heap.size:=ax;have dS:W.heap.size<=w3.heap.size:=aR.size;have cz:=af ds;have cA:=af x1;have⟨d0,d1,d2,d3,d4⟩:=a4.cell;obtain⟨dn,dm,c9,-,-,-⟩:=Rd.aD a4.dP;subst c9
 go_upto_region 11 with fail
 generalize((w3.setCell ⟨A,4,none⟩ (.int .i64 (n+1))).alloc (.cells #[.int .u32 id,.int .i64 (al.length:Int)] 204))=ah at*;generalize Value.slice dn al.length dm=M at*
 go_cut []from 61 to 79 (fun D=>∃s r,Hid (dR D base A Cb bv s r cv bh ch (al++[true]) (pl++[p]) (n+1) N wk)/\Hid (s.ownBlock=pv.ownBlock\/∃b,s.ownBlock=some b/\W.heap.size<=b)/\Hid (r.ownBlock=M.ownBlock\/∃b,r.ownBlock=some b/\W.heap.size<=b)/\Hid (aB (fun k=>k=A\/pv.ownBlock=some k\/M.ownBlock=some k) ah D))
 case first=>
  obtain⟨-,bX,dp,ef,-⟩:=u.o.cell;have dI:∀j,ah.frozen? ⟨A,j,none⟩=false:=u.o.frozen;have dK:=u.o.lt;have dO:=H.o.lt;have dd:∀d,pv.ownBlock=some d->d<ah.heap.size/\d≠A:=fun d e=>⟨(u.o.iP.lt d e).2,fun a7=>bz u.o.iP u.o.blk ai d e a7.symm⟩;have c7:∀d,M.ownBlock=some d->d<ah.heap.size/\d≠A:=fun d e=>⟨(u.o.dP.lt d e).2,fun a7=>bz u.o.dP u.o.blk ai d e a7.symm⟩;have de:∀d,pv.ownBlock=some d->M.ownBlock≠some d:=fun d e e2=>by
   rcases u.o.dP.2 with⟨rfl,_⟩|⟨g,dD,X,rfl,_,aq,_⟩
   .cases e2
   .simp only[Value.ownBlock,jH]at e2;subst e2;exact bz u.o.iP aq ai _ e rfl
  have aE:=af dd;have az:=af c7;have bl:=af de;have dV:base<=ah.heap.size:=by have:=bm.o.size;omega
  have cQ:=u.o.blk
  go_region_law (first
   |(refine bF zk base (aU (S:=fun _=>False) u.o.dP (by repeat(first|exact aB.refl _ _|refine aB.drew ?_|refine aB.alloc ?_ _)) (fun _ _ h=>h)) [.bool true] rfl (by simp[Value.oneCell']) rfl (.tmp 66) (.tmp 67) rfl rfl _ rfl (by first|exact lU _ _|exact xn _ _ _|exact xq _ _ _) dE aa (by first|(simp;done)|(simp;omega)) ?_
     intro ak cC b0 cS Z bt dM;have⟨eg,eh⟩:=di ((aB.refl (fun k=>M.ownBlock=some k) _).grown Z (fun k m=>.inl m)) (b:=A) (by first|(simp;done)|(simp;omega)) (fun e=>(az.o _ e).2 rfl);have dN:A<b0.heap.size:=by(have:=Z.size;simp at this;omega)
     have aV:Hid (ak≠A/\pv.ownBlock≠some ak/\(M.ownBlock=some ak\/W.heap.size<=ak)):=(by
      rcases bt with h9|h9
      .exact⟨(az.o _ h9).2,fun e=>bl.o _ e h9,.inl h9⟩
      .simp at h9;exact⟨aa,fun e=>by(have:=(aE.o _ e).1;omega),.inr aa⟩)
     clear bt)
   |(refine bF nX base (aU (S:=fun k=>M.ownBlock=some k) u.o.iP (by repeat(first|exact aB.refl _ _|refine aB.drew ?_|refine aB.alloc ?_ _|refine aB.grown ?_ Z (fun k m=>.inl m))) (fun d e e2=>bl.o d e e2)) [.int .i64 p] rfl (by simp[Value.oneCell']) rfl (.tmp 72) (.tmp 74) rfl rfl _ rfl (by first|exact bY _ _|(refine(Z.block _ (by first|(simp;done)|(simp;omega)) (fun e=>by have:=(az.o _ e.symm).1;omega)).trans ?_;first|exact lU _ _|exact xn _ _ _|exact xq _ _ _)) dE aa (by have:=Z.size;simp at this |-;omega) ?_
     intro am cD wp cV a8 bx dQ;have⟨ei,ej⟩:=di ((aB.refl (fun k=>pv.ownBlock=some k) _).grown a8 (fun k m=>.inl m)) (b:=A) (by have:=Z.size;simp at this |-;omega) (fun e=>(aE.o _ e).2 rfl);have bi:Hid (am≠A/\(pv.ownBlock=some am\/W.heap.size<=am)):=(by
      rcases bx with h9|h9
      .exact⟨(aE.o _ h9).2,.inl h9⟩
      .have P:=Z.size;simp at h9 P;exact⟨aa,.inr aa⟩)
     clear bx))
  all_goals go_wp2_with fail
  all_goals go_meet
  all_goals
   have a0:aB (fun k=>pv.ownBlock=some k\/M.ownBlock=some k) ah wp:=(by repeat(first|exact aB.refl _ _|with_reducible refine aB.drew ?_|with_reducible refine aB.alloc ?_ _|refine aB.grown ?_ a8 (fun k m=>.inl (.inl m))|refine aB.grown ?_ Z (fun k m=>.inl (.inr m))));have cx:aB (fun k=>k=A\/pv.ownBlock=some k) b0 wp:=(by repeat(first|exact aB.refl _ _|with_reducible refine aB.drew ?_|with_reducible refine aB.alloc ?_ _|refine aB.grown ?_ a8 (fun k m=>.inl (.inr m))));have F:=bu a0 cQ (fun e=>e.elim (fun e=>(aE.o _ e).2 rfl) (fun e=>(az.o _ e).2 rfl));refine⟨.slice (some ⟨am,0,none⟩) (pl.length+1) cD,.slice (some ⟨ak,0,none⟩) (al.length+1) cC,u.o.rows (al':=al++[true]) (pl':=pl++[p]) ?_ ?_ ?_ ?_,?_,?_,?_⟩
   .exact((a0.mono (fun k h=>.inr h)).set _ (.inl (.inl rfl))).set _ (.inl (.inl rfl))
   .first|exact uz (uz F rfl) rfl|exact uz (uz F rfl) rfl
   .rw[bQ,bJ];exact aU (S:=fun k=>k=A) cV (((aB.refl (fun k=>k=A) wp).set (a:=⟨A,_,none⟩) _ (.inl rfl)).set (a:=⟨A,_,none⟩) _ (.inl rfl)) (fun d e e2=>by
     have aL:am=d:=by injection e
     exact bi.o.1 (aL.trans e2))
   .rw[bQ,bJ];exact aU (S:=fun k=>k=A\/pv.ownBlock=some k) cS ((cx.set _ (.inl (.inl rfl))).set _ (.inl (.inl rfl))) (fun d e e2=>by
     injection e with e;subst e;rcases e2 with e2|e2
     .exact aV.o.1 e2
     .exact aV.o.2.1 e2)
   .rcases bi.o.2 with h9|h9
    .exact .inl h9.symm
    .exact .inr ⟨am,rfl,h9⟩
   .rcases aV.o.2.2 with h9|h9
    .exact .inl h9.symm
    .exact .inr ⟨ak,rfl,h9⟩
   .exact((a0.mono (fun k h=>.inr h)).set _ (.inl (.inl rfl))).set _ (.inl (.inl rfl))
 case rest=>
  have⟨s,r,R,cp,cg,aW⟩:=hcut;obtain⟨w6,cL⟩:∃w6:World,w6=wc:=⟨_,rfl⟩;subst cL;have dL:=H.o.lt;have bM:¬(w3.heap.size=A\/pv.ownBlock=some w3.heap.size\/M.ownBlock=some w3.heap.size):=by
   rintro(h9|h9|h9)
   .omega
   .have:=(H.o.iP.lt _ h9).2;omega
   .have:=(H.o.dP.lt _ h9).2;omega
  have em:=((di aW.o bT bM).1 0).trans cz.o;have y1:=((di aW.o bT bM).1 1).trans cA.o;have bn:Hid (aB (o6 A Cb bv pv M cv) W w6):=by
   refine(bm.o.mono (fun k h=>.inl h)).trans (W:=W) (w1:=ah) (w2:=w6) ?_;exact aW.o.mono (fun k h=>by
    rcases h with h|h|h
    .exact .inl h
    .exact .inr (.inr (.inr (.inl h)))
    .exact .inr (.inr (.inr (.inr (.inl h)))))
  have bC:=bn.o.size;have⟨dF,dG,e2,aL,dH⟩:=R.o.cell;have a3:Hid (dR w6.drew base A Cb bv s r cv bh ch (al++[true]) (pl++[p]) (n+1) N wk):=R.o.below (aJ _ _).drew;have cU:0<=N/\N<=100000:=by
   have h1:=aj.o.stored;have Y:=ag.2.2.2;omega
  have c0:ch.length<=1000:=by
   have h1:=aj.o.levels.1;simp at h1;omega
  have b1:=af (Sc a3.o.gp (by have:=bC;simp;omega) a3.o.cE id (al.length:Int) cU c0 (by have:=ag.2.2.2;omega))
  go_upto_region 12 with fail
  go_cut [10,11]from 80 to 88 (fun dl dq D=>∃(i:Nat) (bc a5:Value) (aK:List l8) (dr:Int),dl=.int .i64 i/\bc=dq/\i<=ch.length/\Hid (∀j (bI:j<ch.length),j<i->ch[j].2.1≠[])/\Hid (∀hi:i<ch.length,ch[i].2.1=[])/\
   Hid (dA D base A Cb bv s r a5 bh aK (al++[true]) (pl++[p]) (n+1) (N+1) dr)/\Hid (∀bq:World,(∀(b:Nat) X fr,D.heap[b]? =some (Obj.cells X 204 fr)->bc.ownBlock≠some b->bq.heap[b]? =D.heap[b]?)->kK bq aK)/\Hid (aK.map (·.2.1)=kT (ch.map (·.2.1)) i (id,(al.length:Int)))/\
   Hid (D.ownsRow w6.heap.size 204 2 bc (fw (ch.map (·.2.1)) i++[(id,(al.length:Int))]).length ((fw (ch.map (·.2.1)) i++[(id,(al.length:Int))]).flatMap iZ))/\
   Hid (a5.ownBlock=cv.ownBlock\/∃b,a5.ownBlock=some b/\W.heap.size<=b)/\Hid (aB (fun k=>k=Cb\/cv.ownBlock=some k) w6 D)/\Hid (Nw W.heap.size ch aK))
  case first=>
   go_region_with (go_at_call 132;(with_reducible refine b1.o.mono ?_);rintro e G ⟨i,bb,L,K,O,rfl,hi,aO,ap,bD,⟨dg,bS⟩,bL,bP,bG,bw,bO,-⟩;have cn:=af bO;have cl:=af aO;have cb:=af ap;have b8:=af bD;have cs:=af bS;have cj:=af bL;have co:=af bP;have be:=af bG;have ac:=af bw;clear aO ap bD dg bS bL bP bG bw bO)
   all_goals go_wp2_with fail
   all_goals go_meet
   all_goals
    refine⟨i,bb,L,K,O,rfl,rfl,hi,cl,cb,?_,cs,cj,co,?_,?_,Nw.refl.trans cn.o aH⟩
    .exact a3.o.core.add ac.o b8.o (be.o.imp (fun h=>h) .inr)
    .rcases be.o with h9|⟨b,h9,P⟩
     .exact .inl h9
     .exact .inr ⟨b,h9,by simp at P;omega⟩
    .exact((aB.refl _ w6).drew).trans ac.o
  case rest=>
   obtain⟨i,bb,L,K,O,rfl,rfl,hi,ck,ca,au,cr,bk,aC,b9,ac,cm⟩:=hcut;obtain⟨G,cM⟩:∃G:World,G=wc:=⟨_,rfl⟩;subst cM;have b4:Hid (bh.length=ch.length):=af (by have:=aj.o.perm.1;simpa using this);have dW:bh.length<=13:=by have:=ag.1;simpa using this
   have cw:Hid ((fw (ch.map (·.2.1)) i++[(id,(al.length:Int))]).length<=5001):=by
    show _<=_;rw[bQ,(jW _ i).length_eq];have aL:((ch.map (·.2.1)).take i).flatten++((ch.map (·.2.1)).drop i).flatten=(ch.map (·.2.1)).flatten:=by rw[<-lN,jd]
    have cI:=congrArg List.length aL;rw[bQ]at cI;have:=ag.2.2.2;simp only[eH,fE];omega
   have du:=af ag
   go_upto_block 0 with fail
   go_cut []from 89 to 104 (fun D=>∃(q:Value) (c:List l8),Hid (dA D base A Cb q s r L c K (al++[true]) (pl++[p]) (n+1) (N+1) O)/\Hid (c=bh/\i<bh.length\/c=bh++[fZ]/\i=bh.length)/\Hid (q.ownBlock=bv.ownBlock\/∃b,q.ownBlock=some b/\G.heap.size<=b)/\Hid (aB (fun k=>k=A\/bv.ownBlock=some k) G D))
   case first=>
    go_wp2_with fail
    go_loopw [] (fun wr=>∃(q:Value) (c:List l8),Hid (dA wr base A Cb q s r L c K (al++[true]) (pl++[p]) (n+1) (N+1) O)/\Hid (c=bh/\q=bv/\wr=G\/c=bh++[fZ]/\i=bh.length)/\Hid (q.ownBlock=bv.ownBlock\/∃b,q.ownBlock=some b/\G.heap.size<=b)/\Hid (aB (fun k=>k=A\/bv.ownBlock=some k) G wr)) (fun wr=>i+1-Aa A wr)
    case atStart=>exact⟨bv,bh,au,.inl ⟨rfl,rfl,rfl⟩,.inl rfl,aB.refl _ _⟩
    case round=>
     have⟨q,c,E,V,aF,ay⟩:=hrel;obtain⟨av,cF,aM,-,dX,-⟩:=Rd.aD (enc:=eu) E.o.ik;obtain⟨-,br,-⟩:=E.o.cell;by_cases aN:i<c.length
     .have b3:Hid (c=bh/\i<bh.length\/c=bh++[fZ]/\i=bh.length):=by
       rcases V.o with⟨h1,-⟩|h1
       .exact .inl ⟨h1,h1▸aN⟩
       .exact .inr h1
      have cH:decide (c.length<=i)=false:=aH;rw[aM]at br
      go_wp2_with fail
      go_meet;exact⟨q,c,E,b3,aF,ay⟩
     .obtain⟨rfl,rfl,rfl⟩:c=bh/\q=bv/\wr=G:=by
       rcases V.o with h1|⟨h1,Y⟩
       .exact h1
       .rw[h1]at aN;simp at aN;omega
      have c2:i=c.length:=by have:=b4.o;omega
      subst c2;have cH:decide (c.length<=c.length)=true:=ax;have Q:=E.o.ik;have dt:Hid (wr.heap[A]? =some (Obj.cells #[.pointer (some ⟨Cb,0,none⟩),q,s,r,.int .i64 (n+1)] 207 (0,0))):=E.o.blk;have b5:Hid (∀C,wr.grownBy C q.ownBlock->C.heap[A]? =some (Obj.cells #[.pointer (some ⟨Cb,0,none⟩),q,s,r,.int .i64 (n+1)] 207 (0,0))):=fun C ab=>bu ((aB.refl (fun k=>q.ownBlock=some k) wr).grown ab (fun k m=>.inl m)) E.o.blk (fun e=>bz E.o.ik E.o.blk ai _ e rfl);have cY:base<=wr.heap.size:=by have:=ac.o.size;omega
      subst aM
      go_wp2_with (at_builtin;go_loud (refine cB LP base Q [.slice none 0 0] rfl (by simp[Value.oneCell']) rfl _ _ rfl rfl _ rfl dE aa cY ?_;intro el C bR ab cX;obtain⟨cP,cG,rfl,d5,d6,d7,d8⟩:=aS bR aa;have bW:=b5.o C ab;have bX:C.cell? ⟨A,1,none⟩=some (.slice av c.length cF):=(aI bW);have dp:C.frozen? ⟨A,1,none⟩=false:=(aI bW)))
      have dc:C.ownsRow base 209 1 (.slice (some ⟨cP,0,none⟩) (c.length+1) cG) (c++[fZ]).length ((c++[fZ]).map eu):=by
       rw[bQ,bJ];exact bR
      have an:=gy cX;have ao:=E.o.Q7 ab dc (an.imp (fun h=>h) .inr);go_roundw
      case rel=>
       refine⟨_,c++[fZ],ao,.inr ⟨rfl,by first|rfl|trivial⟩,an,(ay.o.grown ab (fun k m=>.inl (.inr m))).set (a:=⟨A,1,none⟩) _ (.inl (.inl rfl))⟩
      case measure=>
       rw[ao.Aa,E.o.Aa];simp
   case rest=>
    have⟨q,c,E,V,aF,ay⟩:=hcut;obtain⟨C,cN⟩:∃C:World,C=wc:=⟨_,rfl⟩;subst cN;have ea:i<c.length:=by
     rcases V.o with⟨h1,Y⟩|⟨h1,Y⟩
     .rw[h1];exact Y
     .rw[h1];simp;omega
    have eb:c.length<=14:=by
     rcases V.o with⟨h1,Y⟩|⟨h1,Y⟩
     .rw[h1];omega
     .rw[h1];simp;omega
    obtain⟨f,ad,aM,dY,dZ,-,-⟩:=aS E.o.ik aa;subst aM;have b6:Hid (dA C base A Cb (.slice (some ⟨f,0,none⟩) c.length ad) s r L (Ed c 0) K (al++[true]) (pl++[p]) (n+1) (N+1) O):=E.o;have d9:(0:Int)<=(i:Int):=aa
    go_upto_block 2 with fail
    go_cut []from 106 to 115 (fun D=>Hid (dA D base A Cb (.slice (some ⟨f,0,none⟩) c.length ad) s r L (Ed c i) K (al++[true]) (pl++[p]) (n+1) (N+1) O)/\Hid (aB (fun k=>k=f) C D))
    case first=>
     go_wp2_with fail
     go_loopw [106] (fun ba wr=>∃k:Nat,ba=.int .i64 k/\k<=i/\Hid (dA wr base A Cb (.slice (some ⟨f,0,none⟩) c.length ad) s r L (Ed c k) K (al++[true]) (pl++[p]) (n+1) (N+1) O)/\Hid (aB (fun k=>k=f) C wr)) (fun ba _=>i-(intOf ba).toNat)
     case atStart=>exact⟨0,rfl,aT _,b6,aB.refl _ _⟩
     case round=>
      obtain⟨k,rfl,ec,aw,bj⟩:=hrel;by_cases aN:k<i
      .have Q:=aw.o.ik;have ae:(Ed c k).length=c.length:=GJ aa;rw[ae]at Q;have ar:=Q.cellAt k aa;rw[cK (show k<((Ed c k).map eu).length by rw[bK];omega)]at ar;generalize((Ed c k).map eu)[k]'(by rw[bK];omega)=zv at ar;have dJ:=Q.frozenAt k;obtain⟨-,br,-⟩:=aw.o.cell;have cu:Hid (dA (wr.setCell ⟨f,k,none⟩ (.slice none 0 0)) base A Cb (.slice (some ⟨f,0,none⟩) c.length ad) s r L (Ed c (k+1)) K (al++[true]) (pl++[p]) (n+1) (N+1) O):=by
        have h9:=aw.o.Wv ae.symm k fZ;rw[Tq aa]at h9;exact h9
       have c8:(k:Int)<(c.length:Int):=aa
       go_wp2_with fail
       go_roundw
       case rel=>exact⟨k+1,by go_num,aa,cu,bj.o.set (a:=⟨f,k,none⟩) _ (.inl rfl)⟩
       case measure=>exact bZ
      .obtain rfl:k=i:=aa
       go_wp2_with fail
       go_meet;exact⟨aw,bj⟩
    case rest=>
     have⟨bf,cf⟩:=hcut;obtain⟨U,cO⟩:∃U:World,U=wc:=⟨_,rfl⟩;subst cO;generalize cT:fw (ch.map (·.2.1)) i++[(id,(al.length:Int))]=I at*;have cd:=af cT;have aZ:Hid (aB (fun k=>k=A\/bv.ownBlock=some k) G U):=by
      refine aB.strip ((ay.o.mono (fun k h=>.inl h)).trans (cf.o.mono (fun k h=>?_)));rcases aF.o with h9|⟨b,h9,P⟩
      .exact .inl (.inr (by rw[<-h9,h];rfl))
      .have cR:f=b:=by injection h9
       exact .inr aa
     have a1:U.ownsRow w6.heap.size 204 2 bb I.length (I.flatMap iZ):=aU aC.o aZ.o (fun d e=>by
      rintro(h9|h9)
      .exact bz aC.o au.o.blk ai d e h9.symm
      .exact bB au.o.ik aC.o ai d h9 e)
     have dk:w6.heap.size<=U.heap.size:=bA ac.o.size aZ.o.size;obtain⟨v,B,cJ,-,cZ,-⟩:=Nj.aD a1;subst cJ;have b7:=af cZ;have ST:=af (yA (w:=U.drew) (base:=w6.heap.size) rfl (by have:=cw.o;omega) (a1.aX 1) dk);have cy:Calls prog 133 #[.slice v I.length B] U.drew fun e J=>∃(l':List jv) (z:Value),e=.returned (.slice v I.length B)/\Hid (l'.Perm I)/\Hid (l'.Pairwise (fun x y=>x.1<=y.1))/\Hid (Nj J v l')/\
       Hid (dA J base A Cb (.slice (some ⟨f,0,none⟩) c.length ad) s r L (Ed c i) K (al++[true]) (pl++[p]) (n+1) (N+1) O)/\Hid (aB (fun k=>Value.ownBlock (.slice v I.length B)=some k) U J)/\
       J.cell? ⟨A,1,none⟩=some (.slice (some ⟨f,0,none⟩) c.length ad)/\J.cell? ⟨f,i,none⟩=some z/\J.frozen? ⟨f,i,none⟩=false:=by
      refine ST.o.mono ?_;rintro e J ⟨rfl,l',hp,dh,da,ab⟩;have ao:=(bf.o.below (aJ _ _).drew).XP (a1.aX 1) ab;have Q:=ao.ik;have ae:(Ed c i).length=c.length:=GJ aa;rw[ae]at Q;have ar:=Q.cellAt i aa;rw[cK (show i<((Ed c i).map eu).length by rw[bK];omega)]at ar;have db:J.ownsRow w6.heap.size 204 2 (.slice v I.length B) l'.length (l'.flatMap iZ):=by rw[hp.length_eq];exact da
      obtain⟨dv,dC,a6,-,df⟩:=Nj.aD db;injection a6 with a6 _ _;subst a6;exact⟨l',_,rfl,hp,dh,df.2,ao,((aB.refl _ U).drew).grown ab (fun k m=>.inl m),ao.cell.2.1,ar,Q.frozenAt i⟩
     have c8:(i:Int)<(c.length:Int):=aa;obtain⟨-,ek,-⟩:=bf.o.cell
     go_upto_region 20 with fail
     go_region_with (go_at_call 133;(with_reducible refine cy.mono ?_);rintro e J ⟨l',z,rfl,aY,ct,cq,bd,ce,bX,en,f10⟩)
     all_goals go_wp2_with fail
     all_goals go_ret
     all_goals
      have c6:Value.slice v I.length B=eu (v,l',B):=by unfold eu;simp only;rw[aY.o.length_eq]
      rw[c6];have ae:(Ed c i).length=c.length:=GJ aa;have bH:bv.ownBlock=some f\/G.heap.size<=f:=by
       rcases aF.o with h9|⟨b,h9,P⟩
       .exact .inl h9.symm
       .have cR:f=b:=by injection h9
        exact .inr aa
      have dT:W.heap.size<=G.heap.size:=bA bC ac.o.size;have bU:∀k,Value.ownBlock (.slice v I.length B)=some k->w6.heap.size<=k:=fun k h=>(aC.o.lt k h).1;have bp:aB (fun k=>(k=A\/bv.ownBlock=some k)\/Value.ownBlock (.slice v I.length B)=some k) G (J.setCell ⟨f,i,none⟩ (eu (v,l',B))):=
       ((aZ.o.mono (fun k h=>.inl h)).trans (ce.o.mono (fun k h=>.inr h))).set (a:=⟨f,i,none⟩) _ (by
        rcases bH with h9|h9
        .exact .inl (.inl (.inr h9))
        .exact .inr h9)
      have bo:aB (fun k=>((k=Cb\/cv.ownBlock=some k)\/(k=A\/bv.ownBlock=some k))\/w6.heap.size<=k) w6 (J.setCell ⟨f,i,none⟩ (eu (v,l',B))):=
       (ac.o.mono (fun k h=>.inl (.inl h))).trans (bp.mono (fun k h=>by
        rcases h with h|h
        .exact .inl (.inr h)
        .exact .inr (bU k h)))
      have ap:∀h:i<(ch.map (·.2.1)).length,(ch.map (·.2.1))[i]=[]:=fun h=>by
       have:=ca.o (aQ h);simpa using this
      refine⟨.slice (some ⟨f,0,none⟩) c.length ad,s,r,L,(Ed c i).set i (v,l',B),K,O,rfl,(bd.o.Wv ae.symm i (v,l',B)).rep ?_ ?_,?_,?_,?_,?_,?_,cm.o⟩
      .intro h aq;rcases Mv V.o aq with rfl|rfl|h1
       .obtain⟨X,c1⟩:=Bf (k:=c.length) (by have h9:=bd.o.ik;rw[ae]at h9;exact h9);exact⟨cq.o.kept fun b X fr F=>aG (eD c1 F ai),by show l'.length<=B;rw[aY.o.length_eq];exact b7.o⟩
       .exact⟨.inl rfl,aA _⟩
       .refine⟨(R.o.bE h h1).1.kept fun b X fr F=>R.o.core.fG (T:=fun k=>w6.heap.size<=k) (bo.mono (fun k h=>?_)) b X fr F (by have:=(bg.1 F).1;omega),(R.o.bE h h1).2⟩;rcases h with((h|h)|(h|h))|h
        .exact .inl (.inr (.inl h))
        .exact .inl (.inr (.inr (.inr (.inr (.inr h)))))
        .exact .inl (.inl h)
        .exact .inl (.inr (.inr (.inl h)))
        .exact .inr h
      .refine cr.o _ fun b X fr F aO=>au.o.fG (T:=fun k=>Value.ownBlock (.slice v I.length B)=some k) (bp.mono (fun k h=>?_)) b X fr F aO;rcases h with(h|h)|h
       .exact .inl (.inl h)
       .exact .inl (.inr (.inr (.inl h)))
       .exact .inr h
      .rw[bk.o,Tt V.o];refine PQ aj.o id p bN dj i (aQ hi) (fun j bI c3=>?_) ap l' (by rw[cd.o];exact aY.o) ct.o;have:=ck.o j (aQ bI) c3;simpa using this
      .rw[bk.o];exact uN _ i _ ap
      .rintro k (h|h|h|h|h|h)
       .exact .inl (.inl h)
       .exact .inl (.inr (.inl h))
       .rcases bH with h9|h9
        .exact .inl (.inr (.inr (.inl (h9.trans h))))
        .have P:f=k:=by injection h
         exact .inr aa
       .rcases cp.o with h9|⟨b,h9,P⟩
        .exact .inl (.inr (.inr (.inr (.inl (h9.symm.trans h)))))
        .have bs:b=k:=by rw[h9]at h;injection h
         exact .inr aa
       .rcases cg.o with h9|⟨b,h9,P⟩
        .exact .inl (.inr (.inr (.inr (.inr (.inl (h9.symm.trans h))))))
        .have bs:b=k:=by rw[h9]at h;injection h
         exact .inr aa
       .rcases b9.o with h9|⟨b,h9,P⟩
        .exact .inl (.inr (.inr (.inr (.inr (.inr (h9.symm.trans h))))))
        .have bs:b=k:=by rw[h9]at h;injection h
         exact .inr aa
      .refine aB.strip ((bn.o.mono (fun k h=>.inl h)).trans (bo.mono (fun k h=>?_)));rcases h with((h|h)|(h|h))|h
       .exact .inl (.inr (.inl h))
       .exact .inl (.inr (.inr (.inr (.inr (.inr h)))))
       .exact .inl (.inl h)
       .exact .inl (.inr (.inr (.inl h)))
       .exact .inr aa
      .intro h aq;rcases Mv V.o aq with rfl|rfl|h1
       .exact .inr fun a a9=>by
         have:=bU a.block (by rw[show v=some a from a9];rfl);omega
       .exact .inr fun a a9=>by cases a9
       .exact .inl h1
end
section
variable {W:World} {base A Cb:Nat} {bv pv lv cv:Value} {bh ch:List l8} {al:List Bool} {pl:List Int} {n N wk:Int}
def kQ (al:List Bool) (CB:List (List jv)) (m:Nat):List jv:=((CB.drop m).reverse.flatten).filter (dL al)
theorem Ow (al:List Bool) (CB:List (List jv)):kQ al CB CB.length=[]:=by unfold kQ;rw[List.drop_length];rfl
theorem Le (al:List Bool) (CB:List (List jv)) (k:Nat) (h:k<CB.length):kQ al CB k=kQ al CB (k+1)++CB[k].filter (dL al):=by
 unfold kQ;rw[ky h,BM,lN,kW];simp
theorem Ox (al:List Bool) (CB:List (List jv)) (m:Nat):(kQ al CB m).length<=CB.flatten.length:=by
 unfold kQ;refine bA (fq _ _) ?_;rw[((vP (CB.drop m)).flatten).length_eq];have a:(CB.take m).flatten++(CB.drop m).flatten=CB.flatten:=by rw[<-lN,jd]
 have:=congrArg List.length a;rw[bQ]at this;omega
def Lf (WO Xb:List l8):Prop:=WO.length<=Xb.length/\∀(j:Nat) (h:j<WO.length) (h':j<Xb.length),WO[j].2.1.Perm Xb[j].2.1/\WO[j].2.1.Pairwise (fun x y=>x.1<=y.1)
theorem Lf.step {a b:List l8} (h:Lf a b) {hd:l8} (hi:a.length<b.length) (hp:hd.2.1.Perm b[a.length].2.1) (g:hd.2.1.Pairwise (fun x y=>x.1<=y.1)):Lf (a++[hd]) b:=by
 refine⟨aH,fun j d e=>?_⟩;by_cases c:j<a.length
 .rw[rJ c];exact h.2 j c e
 .have f:j=a.length:=by simp at d;omega
  subst f;rw[uZ aa];simp only[jh,ni];exact⟨hp,g⟩
theorem Lf.done {a b:List l8} (h:Lf a b) (g:a.length=b.length):EH (a.map (·.2.1)) (b.map (·.2.1))/\∀l∈a.map (·.2.1),l.Pairwise fun p q=>p.1<=q.1:=by
 refine⟨⟨aQ g,fun i c d=>?_⟩,fun l k=>?_⟩
 .rw[gq,gq];exact(h.2 i (aQ c) (aQ d)).1
 .obtain⟨hd,e,rfl⟩:=dD.1 k;obtain⟨j,f,rfl⟩:=iN e;exact(h.2 j f aa).2
def Ww (W:World) (base A Cb:Nat) (bv pv lv cv:Value) (ch:List l8) (al:List Bool) (pl:List Int) (n:Int) (e:Ending) (w':World):Prop:=
 ∃(TY DT:Value) (bh' rR:List l8) (N' LC:Int),e=.returned (.tuple #[])/\dR w' base A Cb TY pv lv DT bh' rR al pl n N' LC/\qa (rR.map (·.2.1)) (bh'.map (·.2.1)) al pl n N'/\
  (∀id p,iA (rR.map (·.2.1)).flatten al pl id p↔iA (ch.map (·.2.1)).flatten al pl id p)/\(∀k,o6 A Cb TY pv lv DT k->o6 A Cb bv pv lv cv k\/W.heap.size<=k)/\aB (o6 A Cb bv pv lv cv) W w'/\Nw W.heap.size [] bh'/\Nw W.heap.size [] rR
theorem Ee:eU 210:=bP func210 aL rfl
theorem Ef:eU 133:=bP func133 aL rfl
theorem Tv (h:dR W base A Cb bv pv lv cv bh ch al pl n N wk) (dx:base<=W.heap.size) (R:xY (ch.map (·.2.1)) (bh.map (·.2.1)) al pl n N):
  Calls prog 138 #[.pointer (some ⟨A,0,none⟩)] W (Ww W base A Cb bv pv lv cv ch al pl n):=by
 have H:=af h;have aK:=af R;have b2:=R.TQ;have dC:ch.length<=13:=by have:=R.levels.1;simpa using this
 have Z:Hid (∀m,(kQ al (ch.map (·.2.1)) m).length<=5000):=fun m=>bA (Ox _ _ _) b2.2.2.2;have I:=af (CU h.gp aa);have dy:=R.bound;obtain⟨aW,-⟩:=h.cell;clear h R b2;go_enter func138,ntmps138
 go_wp2_with fail
 refine I.o.mono ?_;rintro e w2 ⟨rfl,ae⟩;have aM:=af (H.o.below ae);have da:=ae.size;have cp:=af ae;clear aW I ae
 go_upto_block 0 with fail
 go_cut [2,3,5]from 13 to 40 (fun U z dr cj=>∃lw:Value,lw=U/\Hid (cj.ownsRow w2.heap.size 204 2 lw (kQ al (ch.map (·.2.1)) 0).length ((kQ al (ch.map (·.2.1)) 0).flatMap iZ))/\Hid (Below w2.heap.size w2 cj))
 case first=>
  go_wp2_with fail
  go_loopw [3,2] (fun z U wr=>∃(m:Nat) (lw:Value),z=.int .i64 ((m:Int)-1)/\lw=U/\m<=ch.length/\Hid (wr.ownsRow w2.heap.size 204 2 lw (kQ al (ch.map (·.2.1)) m).length ((kQ al (ch.map (·.2.1)) m).flatMap iZ))/\Below w2.heap.size w2 wr) (fun z _ _=>(intOf z+1).toNat)
  case atStart=>exact⟨ch.length,_,by go_num,rfl,aA _,by have:=Ow al (ch.map (·.2.1));rw[bK]at this;rw[this];exact cZ _ _ _ _,aJ _ _⟩
  case round=>
   obtain⟨m,lw,rfl,rfl,dV,HO,g⟩:=hrel;rcases nW m with AQ|AQ
   .subst AQ;have dF:¬(0:Int)<=((0:Nat):Int)-1:=aa;have ar:=af g
    go_wp2_with fail
    go_meet;exact⟨_,rfl,HO,ar⟩
   .obtain⟨k,rfl⟩:∃k,m=k+1:=⟨m-1,aa⟩;have c6:(((k+1:Nat):Int)-1)=(k:Int):=aa;rw[c6];have dK:(0:Int)<=(k:Int):=aa;have c5:k<(ch.map (·.2.1)).length:=by rw[bK];omega
    have bx:=af (Le al (ch.map (·.2.1)) k c5);have aS:=af (aM.o.below g);obtain⟨aW,-⟩:=aS.o.cell;have a9:k<ch.length:=aa;have d2:ch[k].2.1.length<=5000:=by
     have:=aK.o.TQ.2.2.2;have C:=rz (l:=ch[k].2.1) (CB:=ch.map (·.2.1)) (dD.2 ⟨_,bC a9,rfl⟩);omega
    have cz:Hid (∀x∈ch[k].2.1,∃k:Nat,x.2=(k:Int)/\k<al.length):=fun x dd=>aK.o.uX x (qz.2 ⟨_,dD.2 ⟨_,bC a9,rfl⟩,dd⟩);have CB:=af (CV aS.o.gp aS.o.cE aa k a9 aa);have cN:Hid (kQ al (ch.map (·.2.1)) k=kQ al (ch.map (·.2.1)) (k+1)++ch[k].2.1.filter (dL al)):=by
     have:=bx.o;rw[gq]at this;exact this
    clear bx;generalize ch[k].2.1=lk at*;have dS:=Z.o (k+1);have dl:=af (Z.o k);generalize kQ al (ch.map (·.2.1)) (k+1)=L at*;obtain⟨aq,cX⟩:∃aq:World,aq=wr:=⟨_,rfl⟩;subst cX;have ar:=af g;have cd:=g.size;clear g
    go_wp2_with fail
    refine CB.o.mono ?_;rintro e w3 ⟨dk,rfl,D,ag⟩;have db:=ag.size;have E:Hid (Below w2.heap.size w2 w3):=ar.o.trans (ag.mono cd);have cA:=af (az HO.o ag);have cL:Hid (∀f,dk.ownBlock=some f->lw.ownBlock≠some f):=fun f e F=>by
     have h1:=(D.lt f e).1;have C:=(HO.o.lt f F).2;omega
    have cC:=af D;obtain⟨bH,P,a1,-,-,-⟩:=Nj.aD D;subst a1;clear D ag aW;have dQ:lk.length<=9223372036854775807:=aa;have dB:w2.heap.size<=w3.heap.size:=aa;clear CB
    go_wp2_with fail
    go_loopw [24,2] (fun bc U wr=>∃(j:Nat) (ap:Value),bc=.int .i64 j/\ap=U/\j<=lk.length/\Hid (wr.ownsRow w2.heap.size 204 2 ap (L++(lk.take j).filter (dL al)).length ((L++(lk.take j).filter (dL al)).flatMap iZ))/\Hid (wr.ownsRow aq.heap.size 204 2 (.slice bH lk.length P) lk.length (lk.flatMap iZ))/\Hid (∀f,Value.ownBlock (.slice bH lk.length P)=some f->ap.ownBlock≠some f)/\Below w2.heap.size w2 wr) (fun bc _ _=>lk.length-(intOf bc).toNat)
    case atStart=>exact⟨0,_,rfl,rfl,aT _,by rw[lh,FO,je];exact cA,cC,cL,E.o⟩
    case round=>
     obtain⟨j,ap,rfl,rfl,dH,aw,ay,aF,ah⟩:=hrel;have dc:=ah.size;by_cases ak:j<lk.length
     .obtain⟨dp,dq,a0,-,-,b9⟩:=Nj.aD ay.o;injection a0 with a0 _ a1;subst a0 a1;obtain⟨aV,bd,bI,dz,a6⟩:=b9.OP.get aa;have ck:=a6 j ak 0 aa;have x1:=a6 j ak 1 aa;simp only[iZ,eG,eQ,df]at ck x1;obtain⟨q,ao,b7⟩:=cz.o lk[j] (bC ak);have aR:=aM.o.below ah;obtain⟨la,lc,bM,-,-,b8⟩:=Rd.aD aR.dP;obtain⟨lb,lo,bL,dN,b1⟩:=b8.get aa;have cl:=b1 q b7;obtain⟨-,-,-,cm,-⟩:=aR.cell;have O:Hid (L++(lk.take (j+1)).filter (dL al)=(L++(lk.take j).filter (dL al))++(if al[q]=true then[lk[j]]else[])):=by
       show _=_;rw[gT ak,kW,<-dW];congr 1;unfold dL;rw[lT,ao];simp only[iD,cK b7];cases al[q]<;>simp
      have dJ:(L++(lk.take j).filter (dL al)).length<=5000+5000:=by
       rw[bQ];have h1:=fq (dL al) (lk.take j);have C:(lk.take j).length<=lk.length:=by rw[dO];omega
       omega
      have cg:(lk[j]).2=(q:Int):=ao;rw[ao]at x1;have bk:=af bI;have bl:=af bL;have bm:=af bM;have aL:=af cg;have dm:Hid (lk.length=lk.length):=af rfl;clear a6 bI b1 bL bM ao cg b8 b9 aR;generalize cY:L++(lk.take j).filter (dL al)=dn at*;generalize c2:al[q]=cS at*;generalize lk[j]=x at*;obtain⟨r,ee⟩:=x;simp only at ck x1 O aL;obtain rfl:=aL.o;obtain rfl:=bk.o;obtain rfl:=bl.o;obtain rfl:=bm.o;clear bk bl bm aL c2 cY;have dI:(j:Int)<(lk.length:Int):=aa;have dX:(q:Int)<(al.length:Int):=aa;have X:Below wr.heap.size wr (wr.alloc (.cells #[.int .u32 r,.int .i64 (q:Int)] 204)):=(aJ _ _).alloc (aA _) _;have be:(wr.alloc (.cells #[.int .u32 r,.int .i64 (q:Int)] 204)).cell? ⟨wr.heap.size,0,none⟩=some (.int .u32 r):=by rw[eX _ _ _ _ rfl];rfl
      have dg:(wr.alloc (.cells #[.int .u32 r,.int .i64 (q:Int)] 204)).cell? ⟨wr.heap.size,1,none⟩=some (.int .i64 (q:Int)):=by rw[eX _ _ _ _ rfl];rfl
      have ef:=(X.cell (p:=⟨lb,lo+q,none⟩) (iF wr _ cl)).trans cl;have eg:=(X.cell (p:=⟨A,3,none⟩) (iF wr _ cm)).trans cm;have aC:=af ((aw.o.alloc (.cells #[.int .u32 r,.int .i64 (q:Int)] 204)).aX 1);have bu:=af ((ay.o.alloc (.cells #[.int .u32 r,.int .i64 (q:Int)] 204)).aX 1);have bn:=af ((ah.alloc dc (.cells #[.int .u32 r,.int .i64 (q:Int)] 204)).drew);cases cS
      .rw[aN ai,je]at O;clear X;go_wp2;go_region
       all_goals
        go_wp2;go_roundw
        case rel=>exact⟨j+1,_,by go_num,rfl,aa,by rw[O.o];exact aC,bu,aF,bn.o⟩
        case measure=>exact bZ
      .rw[aO rfl]at O;clear X;go_wp2;go_region;have eb:((wr.alloc (.cells #[.int .u32 r,.int .i64 (q:Int)] 204)).drew).cell? ⟨wr.heap.size,0,none⟩=some (.int .u32 r):=be;have ec:((wr.alloc (.cells #[.int .u32 r,.int .i64 (q:Int)] 204)).drew).cell? ⟨wr.heap.size,1,none⟩=some (.int .i64 (q:Int)):=dg
       go_wp2_with (at_builtin;refine cB Ih w2.heap.size aC.o [.int .u32 r,.int .i64 q] rfl (by simp[Value.oneCell']) rfl _ _ rfl rfl _ (by show Value.slice (some ⟨wr.heap.size+1,0,none⟩) 1 1=_;simp) dE aa aH ?_;intro dh w6 c8 b0 c3)
       have cR:Below w2.heap.size w2 w6:=bn.o.grown b0 aH (fun b e=>(aC.o.lt b e).1);have cD:Hid (w6.ownsRow aq.heap.size 204 2 (.slice (some ⟨aV,bd,none⟩) lk.length P) lk.length (lk.flatMap iZ)):=by
        refine bu.o.kept b0 ?_;rcases JD (Value.ownBlock (.slice (some ⟨aV,bd,none⟩) lk.length P))with h9|⟨f,h9⟩
        .exact .inl h9
        .exact .inr (fun e=>aF.o f h9 (e.symm.trans h9))
       have cM:Hid (∀f,Value.ownBlock (.slice (some ⟨aV,bd,none⟩) lk.length P)=some f->dh.ownBlock≠some f):=fun f e F=>by
        have h1:=(ay.o.lt f e).2;rcases gy c3 with h9|⟨b,h9,ad⟩
        .exact aF.o f e (h9.symm.trans F)
        .rw[h9]at F;injection F with F;simp at ad;omega
       go_roundw
       case rel=>exact⟨j+1,_,by go_num,rfl,aa,by rw[O.o,bQ,gZ];exact c8,cD,cM,cR⟩
       case measure=>exact bZ
     .obtain rfl:j=lk.length:=aa;rw[iE,<-cN.o]at aw;go_wp2;go_roundw
      case rel=>exact⟨k,_,by go_num,rfl,aa,aw,ah⟩
      case measure=>simp[intOf]
 case rest=>
  obtain⟨lw,rfl,bq,au⟩:=hcut;obtain⟨w3,cW⟩:∃w3:World,w3=wc:=⟨_,rfl⟩;subst cW;have aP:=af (aM.o.below au.o);have E:=af (cp.o.trans (au.o.mono da));have dM:=Z.o 0;obtain⟨cQ,cT,cU,-,bR,ca⟩:=Nj.aD bq.o;subst cU;have bj:=af (Si aP.o.gp (by have:=E.o.size;omega) cQ (kQ al (ch.map (·.2.1)) 0) cT ca bR aa);obtain⟨ci,-⟩:=aP.o.cell;have br:Hid (kQ al (ch.map (·.2.1)) 0=((ch.map (·.2.1)).reverse.flatten).filter (dL al)):=af (by unfold kQ;rw[jY]);generalize kQ al (ch.map (·.2.1)) 0=L at*;clear ca bR au Z bq
  go_wp2_with fail
  refine bj.o.mono ?_;rintro e w4 ⟨aZ,d,bi,rfl,bU,cc,an,a7,a2,b3,-⟩;have J:=af (aP.o.core.add (a2.mono (fun k h=>.inl h)) bU (.inr a7));have bw:=af cc;have cy:=af b3;have bs:=af an;have cP:=af a7;have av:=af a2;have dv:d.length<=14:=by
   have h1:=congrArg List.length an;rw[fo,bK]at h1;have C:=fP (a:=L.length) (b:=5000) aa ai;have ds:Lib.bitLen 5000<=14:=ai;omega
  have bB:Hid (∀h∈d,h.2.1.length<=5000):=fun h Q=>by
   have h1:=rz (l:=h.2.1) (CB:=d.map (·.2.1)) (dD.2 ⟨_,Q,rfl⟩);rw[an]at h1;have C:L.length<2^Lib.bitLen L.length:=by
    by_cases bN:L.length=0
    .rw[bN];decide
    .exact(bD _ aa bN).2.2
   rw[(lu _ L C).length_eq]at h1;omega
  obtain⟨-,de,-⟩:=J.o.cell;have f1:=J.o.frozen 1;clear bU cc an a7 a2 ci bj b3;have Y:Hid (dA (w4.setCell ⟨A,1,none⟩ (.slice none 0 0)) base A Cb (.slice none 0 0) pv lv aZ [] d al pl n L.length bi):=J.o.Q7 (bh':=[]) (bT (aJ _ _)|>fun h=>⟨h.os,h.tape,h.output,h.size,fun k G _=>rfl⟩) (cZ _ _ _ _) (.inr (.inl rfl));have bo:Hid (aB (fun k=>k=A) w4 (w4.setCell ⟨A,1,none⟩ (.slice none 0 0))):=(aB.refl (fun k=>k=A) w4).set (a:=⟨A,1,none⟩) _ (.inl rfl);have I:=af (CU Y.o.gp aa);obtain⟨be,-⟩:=Y.o.cell
  go_wp2_with fail
  generalize w4.setCell ⟨A,1,none⟩ (.slice none 0 0)=ed at*;refine I.o.mono ?_;rintro e w6 ⟨rfl,a3⟩;have cs:=af (Y.o.below a3);have cx:Hid (aB (fun k=>k=A) w4 w6):=bo.o.below a3;clear be de f1 I a3 Y bo
  go_wp2_with fail
  go_loopw [55] (fun z wr=>∃(s:Value) (c:List l8),z=.int .i64 c.length/\Hid (dA wr base A Cb s pv lv aZ c d al pl n L.length bi)/\Hid (Lf c d)/\Hid (Nw W.heap.size [] c)/\Hid (kK wr c)/\Hid (s.ownBlock=none\/∃b,s.ownBlock=some b/\w4.heap.size<=b)/\Hid (aB (fun k=>k=A) w4 wr)) (fun z _=>d.length-(intOf z).toNat)
  case atStart=>exact⟨.slice none 0 0,[],rfl,cs,⟨aT _,fun j h=>absurd h (kz _)⟩,Nw.Uq (k:=0),(fun h Q=>absurd Q iO),.inl rfl,cx⟩
  case round=>
   obtain⟨s,c,rfl,i,aG,bt,aE,aI,K⟩:=hrel;by_cases am:c.length<d.length
   .have cH:Hid (kK wr d):=bw.o.kept fun b v fr g=>J.o.fG (T:=fun _=>False) (K.o.mono fun k h=>.inl (.inl h)) b v fr g (fun h=>h);have cn:=af (CV (W:=wr.drew) (i.o.below (aJ _ _).drew).gp (cH.o.kept fun b v fr g=>rfl) aa c.length am (bA (bB.o _ (bC am)) ai));have cO:Hid (∀hd:l8,hd.2.1.Perm d[c.length].2.1->hd.2.1.Pairwise (fun x y=>x.1<=y.1)->Lf (c++[hd]) d):=fun hd h1 C=>aG.o.step am h1 C;have d1:=bB.o _ (bC am);generalize d[c.length].2.1=lb at*;obtain⟨ci,d3,-⟩:=i.o.cell;have d4:∀o,wr.frozen? ⟨A,o,none⟩=false:=i.o.frozen;have bO:=i.o.lt;have dT:(c.length:Int)<(d.length:Int):=aa;have dZ:=K.o.size;have dw:W.heap.size<=w4.heap.size:=bA E.o.size av.o.size;have c7:Hid (s.ownBlock≠some A):=fun e=>bz i.o.ik i.o.blk ai _ e rfl
    go_wp2_with fail
    go_region_law (first
     |(refine aY (vals:=#[.pointer (some ⟨Cb,0,none⟩),.int .i64 c.length]) Ee rfl _ _ rfl rfl cn.o ?_
       rintro e bf ⟨dj,rfl,b5,a4⟩;refine⟨_,rfl,?_⟩;have cf:=a4.size;have dt:A<bf.heap.size:=(by(have h9:wr.heap.size<=bf.heap.size:=cf);omega);obtain⟨d7,d8⟩:=di ((aB.refl (fun _=>False) wr.drew).below a4) (b:=A) bO (fun h=>h))
     |(refine aY (vals:=#[dj]) Ef rfl _ _ rfl rfl (yA (w:=bf) (base:=wr.heap.size) rfl aa b5 cf) ?_
       rintro e V ⟨rfl,l',b6,ce,ba,c4⟩;refine⟨_,rfl,?_⟩;have cG:=af b6;have cJ:=af ce;have ab:aB (fun _=>False) wr V:=aB.strip (((aB.refl _ wr).drew.below a4).grown c4 (fun k G=>.inl (.inr (b5.lt k G).1)));have M:=af ab;obtain⟨d9,ea⟩:=di ab (b:=A) bO (fun h=>h);have dY:=ab.size;have du:A<V.heap.size:=aa;obtain⟨t,u,cV,-,bS,cb⟩:=Nj.aD ba;have ct:=af bS;have cI:=af cb;subst cV;have co:Hid (∀a,t=some a->W.heap.size<=a.block):=fun a c1=>(by have h1:=(ba.lt a.block (by rw[c1];rfl)).1;omega);clear b6 ce ab ba bS cb)
     |(refine bF LP base (aU (S:=fun _=>False) i.o.ik (M.o.alloc _) (fun _ _ h=>h)) [.slice t l'.length u] rfl (by simp[Value.oneCell']) rfl (.tmp 62) (.tmp 70) rfl rfl _ rfl (by first|exact bY _ _|exact lU _ _) dE aa aH ?_
       intro B ac bg D a8 bP dU;have cF:=af D;have cr:=af bP;obtain⟨d5,d6⟩:=di ((aB.refl (fun k=>s.ownBlock=some k) _).grown a8 (fun k G=>.inl G)) (b:=A) (by first|(simp;done)|(simp;omega)) (fun e=>c7.o e);clear D bP))
    all_goals
     have aj:=i.o.below (M.o.toBelow (aA _) (fun k h=>h.elim));have bV:=aj.below ((aJ _ _).alloc (aA _) (.cells #[.slice t l'.length u] 209));have b4:bg.ownsRow base 209 1 (.slice (some ⟨B,0,none⟩) (c.length+1) ac) (c++[(t,l',u)]).length ((c++[(t,l',u)]).map eu):=by
      rw[bQ,bJ];exact cF.o
     have a5:Value.ownBlock (.slice (some ⟨B,0,none⟩) (c.length+1) ac)=s.ownBlock\/(V.alloc (.cells #[.slice t l'.length u] 209)).heap.size<=B:=by
      rcases cr.o with h9|h9
      .exact .inl h9.symm
      .exact .inr (by rw[h9];first|exact aA _|simp)
     have cu:=af (bV.Q7 a8 b4 (a5.imp (fun h=>h) (fun h=>.inr ⟨B,rfl,h⟩)));have cq:=af a5;have bE:aB (fun k=>k=A\/s.ownBlock=some k) V (bg.setCell ⟨A,1,none⟩ (.slice (some ⟨B,0,none⟩) (c.length+1) ac)):=(((aB.refl _ V).alloc _).grown a8 (fun k G=>.inl (.inr G))).set (a:=⟨A,1,none⟩) _ (.inl (.inl rfl));have bp:=af bE;clear aj bV b4 a5 bE;go_wp2;go_roundw
     case rel=>
      have aj:=i.o.below (M.o.toBelow (aA _) (fun k h=>h.elim));have d0:=M.o.size;have bG:aB (fun k=>k=A\/s.ownBlock=some k) wr (bg.setCell ⟨A,1,none⟩ (.slice (some ⟨B,0,none⟩) (c.length+1) ac)):=(M.o.mono (fun k h=>h.elim)).trans bp.o;refine⟨_,c++[(t,l',u)],ax,cu.o,cO.o (t,l',u) cG.o cJ.o,bt.o.snoc co.o,?_,?_,?_⟩
      .intro h Q;rcases bW.1 Q with h1|h1
       .exact⟨(aE.o h h1).1.kept fun b v fr g=>i.o.fG (T:=fun _=>False) (bG.mono fun k h=>.inl (h.imp id (fun h=>.inr (.inl h)))) b v fr g (fun h=>h),(aE.o h h1).2⟩
       .obtain rfl:h=(t,l',u):=aQ h1;exact⟨cI.o.kept fun b v fr g=>aj.fG (T:=fun _=>False) (bp.o.mono fun k h=>.inl (h.imp id (fun h=>.inr (.inl h)))) b v fr g (fun h=>h),ct.o⟩
      .rcases cq.o with h9|h9
       .rw[h9];exact aI.o
       .exact .inr ⟨B,rfl,by simp at h9;omega⟩
      .refine aB.strip ((K.o.mono (fun k h=>.inl h)).trans (bG.mono (fun k h=>?_)));rcases h with h|h
       .exact .inl h
       .rcases aI.o with h9|⟨b,h9,ad⟩
        .rw[h9]at h;cases h
        .rw[h9]at h;injection h with h;exact .inr aa
     case measure=>exact bZ
   .have bX:c.length=d.length:=by have:=aG.o.1;omega
    have hd:decide ((c.length:Int)<(d.length:Int))=false:=aH;have dG:¬(c.length:Int)<(d.length:Int):=aa;have cw:=af bX;clear bX;go_wp2
    go_end0
    have c0:kK wr d:=bw.o.kept fun b v fr g=>J.o.fG (T:=fun _=>False) (K.o.mono fun k h=>.inl (.inl h)) b v fr g (fun h=>h);obtain⟨hp,c9⟩:=aG.o.done cw.o;have bb:=LV aK.o (NB':=c.map (·.2.1)) (by rw[<-br.o,<-bs.o];exact hp) c9;rw[<-br.o,<-bs.o]at bb;have cd:=E.o.size;have db:=av.o.size;refine⟨s,aZ,c,d,_,bi,rfl,i.o.rep aE.o c0,bb.1,bb.2,?_,?_,bt.o,Nw.refl.trans cy.o aa⟩
    .rintro k (h|h|h|h|h|h)
     .exact .inl (.inl h)
     .exact .inl (.inr (.inl h))
     .rcases aI.o with h9|⟨b,h9,ad⟩
      .rw[h9]at h;cases h
      .rw[h9]at h;injection h with h;exact .inr aa
     .exact .inl (.inr (.inr (.inr (.inl h))))
     .exact .inl (.inr (.inr (.inr (.inr (.inl h)))))
     .rcases cP.o with h9|⟨b,h9,ad⟩
      .rw[h9]at h;cases h
      .rw[h9]at h;injection h with h;exact .inr aa
    .exact(((aB.refl (o6 A Cb bv pv lv cv) W).below E.o).trans (av.o.mono (fun k h=>.inr (.inl h)))).trans (K.o.mono (fun k h=>.inl h))
end
section
variable {W:World} {base A Cb:Nat} {bv pv lv cv:Value} {bh ch:List l8} {al:List Bool} {pl:List Int} {n N wk:Int}
def Q8 (t:TypeId):Bool:=t==207||t==290||t==209||t==3||t==4
theorem Ac (a:dR W base A Cb bv pv lv cv bh ch al pl n N wk):∀k,o6 A Cb bv pv lv cv k->∃cs t fr,W.heap[k]? =some (Obj.cells cs t fr)/\Q8 t=true:=by
 have d:∀{e:TypeId} {sz:Nat} {v:Value} {n:Nat} {xs:List Value} {k:Nat},W.ownsRow base e sz v n xs->v.ownBlock=some k->∃b,W.heap[k]? =some (Obj.cells b e (0,0)):=by
  intro e sz v n xs k a f;rcases a.2 with⟨rfl,_⟩|⟨g,l,b,rfl,_,i,_⟩
  .cases f
  .simp only[Value.ownBlock,jH]at f;subst f;exact⟨b,i⟩
 intro k j;rcases j with h|h|h|h|h|h
 .exact⟨_,_,_,h▸a.blk,ai⟩
 .exact⟨_,_,_,h▸a.gp.blk,ai⟩
 .obtain⟨b,c⟩:=d a.ik h;exact⟨_,_,_,c,ai⟩
 .obtain⟨b,c⟩:=d a.iP h;exact⟨_,_,_,c,ai⟩
 .obtain⟨b,c⟩:=d a.dP h;exact⟨_,_,_,c,ai⟩
 .obtain⟨b,c⟩:=d a.gp.row h;exact⟨_,_,_,c,ai⟩
theorem Lg (h:dR W base A Cb bv pv lv cv bh ch al pl n N wk) (f:qa (ch.map (·.2.1)) (bh.map (·.2.1)) al pl n N) (id:Int) (F:∀p,¬iA (ch.map (·.2.1)).flatten al pl id p):
  Calls prog 58 #[.pointer (some ⟨A,0,none⟩),.int .u32 id] W fun e w'=>e=.returned (.tuple #[.int .i64 0,.bool false])/\Below W.heap.size W w':=by
 have r:=af (EG h);have H:=af h;have i:=f.TQ;have u:=af (fun W' (a:Below W.heap.size W W')=>p9 A id W' _ bh bv base ((h.below a).cell.2.1) (h.below a).ik rfl (h.below a).bE f.sorted (by have:=i.1;simp at this;omega) (fun l D=>by have:=i.2.2.1 l D;omega));have c:=af f;go_enter func58,ntmps58
 go_wp2_with fail
 refine r.o.mono ?_;rintro e w2 ⟨rfl,d⟩
 go_wp2_with fail
 refine(u.o w2 d).mono ?_;rintro e w3 ⟨k,t,rfl,ht,C,z⟩;have b:=d.trans (z.mono d.size);obtain⟨-,-,-,O,-⟩:=(H.o.below b).cell;rcases C with⟨y,g,w,rfl⟩|⟨rfl,-⟩
 .rw[gB c.o.perm]at g;have⟨m,j,q⟩:=c.o.uX y g;obtain⟨K,L,rfl,-,-,G⟩:=Rd.aD (H.o.below b).dP;obtain⟨J,M,v,-,x⟩:=G.get aa;have I:=x m q;have B:al[m]=false:=by
   cases a:al[m]with
   |false=>rfl
   |true=>
    have E:m<pl.length:=by have:=c.o.len;omega
    exact absurd ⟨m,by rw[<-w,<-j];exact g,by rw[cK q,a],cK E⟩ (F pl[m])
  rw[B]at I;have s:=af v;rw[j];obtain rfl:=s.o;have Q:(m:Int)<(al.length:Int):=aa;have P:decide ((m:Int)<0)=false:=ax;go_wp2;go_ret2;exact⟨rfl,b⟩
 .go_wp2;go_ret2;exact⟨rfl,b⟩
def Vk (W:World) (base A Cb:Nat) (bv pv lv cv:Value) (bh ch:List l8) (al:List Bool) (pl:List Int) (n:Int) (k:Nat) (p:Int) (e:Ending) (w':World):Prop:=
 ∃(TY DT:Value) (bh' rR:List l8) (N' LC:Int),e=.returned (.tuple #[.int .i64 p,.bool true])/\dR w' base A Cb TY pv lv DT bh' rR (al.set k false) pl (n-1) N' LC/\qa (rR.map (·.2.1)) (bh'.map (·.2.1)) (al.set k false) pl (n-1) N'/\
  (∀id p,iA (rR.map (·.2.1)).flatten (al.set k false) pl id p↔iA (ch.map (·.2.1)).flatten (al.set k false) pl id p)/\(∀k,o6 A Cb TY pv lv DT k->o6 A Cb bv pv lv cv k\/W.heap.size<=k)/\aB (o6 A Cb bv pv lv cv) W w'/\Nw W.heap.size bh bh'/\Nw W.heap.size ch rR
theorem Jc (h:dR W base A Cb bv pv lv cv bh ch al pl n N wk) (a5:base<=W.heap.size) (r:qa (ch.map (·.2.1)) (bh.map (·.2.1)) al pl n N) (id p:Int) (m:Nat) (V:(id,(m:Int))∈(ch.map (·.2.1)).flatten) (B:al[m]? =some true) (hp:pl[m]? =some p):
  Calls prog 58 #[.pointer (some ⟨A,0,none⟩),.int .u32 id] W (Vk W base A Cb bv pv lv cv bh ch al pl n m p):=by
 have ai:=af (EG h);have H:=af h;have U:=r.TQ;have ak:=af (fun W' (G:Below W.heap.size W W')=>p9 A id W' _ bh bv base ((h.below G).cell.2.1) (h.below G).ik rfl (h.below G).bE r.sorted (by have:=U.1;simp at this;omega) (fun l aP=>by have:=U.2.2.1 l aP;omega));have E:=af r;have be:1<=n/\n<=5000:=by
  have Q:=r.cnt;have S:al.count true<=al.length:=Fq;have a3:=r.bound;have⟨X,aT⟩:=fI.1 B;have a6:0<al.count true:=List.count_pos_iff.2 (aT▸bC X);omega
 have M:=af (LU r m B);go_enter func58,ntmps58
 go_wp2_with fail
 refine ai.o.mono ?_;rintro e w2 ⟨rfl,I⟩
 go_wp2_with fail
 refine(ak.o w2 I).mono ?_;rintro e w3 ⟨k,t,rfl,ht,u,aL⟩;have K:=af (I.trans (aL.mono I.size));have s:=af (H.o.below K.o);have⟨aC,aY,aD,aZ,aE⟩:=s.o.cell;have aO:k=(m:Int):=by
  rcases u with⟨y,Z,Q,S⟩|⟨-,aV⟩
  .rw[gB E.o.perm]at Z;have:=mX E.o.ids Z V (aQ Q);rw[<-S,this]
  .exact absurd rfl (aV _ ((gB E.o.perm _).2 V))
 subst aO;obtain⟨X,-⟩:=fI.1 B;obtain⟨bd,-⟩:=fI.1 hp;obtain⟨b,f,aF,a7,a8,-,-⟩:=aS s.o.dP aa;subst aF;have ac:=s.o.dP.cellAt m aa;rw[ib,B]at ac;simp only[eP]at ac;have a1:=s.o.dP.frozenAt m;have F:=af (s.o.UH rfl m false);have⟨d0,d1,d2,d3,d4⟩:=F.o.cell;have f4:=F.o.frozen 4;have z:=af (F.o.UG (n-1));have ap:Hid (aB (o6 A Cb bv pv (.slice (some ⟨b,0,none⟩) al.length f) cv) W ((w3.setCell ⟨b,m,none⟩ (.bool false)).setCell ⟨A,4,none⟩ (.int .i64 (n-1)))):=
  (((aB.refl _ W).below K.o).set (a:=⟨b,m,none⟩) _ (.inl (.inr (.inr (.inr (.inr (.inl rfl))))))).set (a:=⟨A,4,none⟩) _ (.inl (.inl rfl))
 have bb:(m:Int)<(al.length:Int):=aa;have bc:(m:Int)<(pl.length:Int):=aa;have a0:decide ((m:Int)<0)=false:=ax;have Y:(-9223372036854775808:Int)<=n-1/\n-1<=9223372036854775807:=aa;have aw:=af hp
 go_upto_region 8 with fail
 generalize(w3.setCell ⟨b,m,none⟩ (.bool false)).setCell ⟨A,4,none⟩ (.int .i64 (n-1))=J at*
 go_cut [51]from 41 to 50 (fun tv w=>tv=.bool (decide (2*(n-1)<N))/\Hid (dR w base A Cb bv pv (.slice (some ⟨b,0,none⟩) al.length f) cv bh ch (al.set m false) pl (n-1) N wk)/\Hid (aB (o6 A Cb bv pv (.slice (some ⟨b,0,none⟩) al.length f) cv) W w))
 case first=>
  obtain⟨aC,-,-,-,aE⟩:=z.o.cell;have ag:=af (Sd (z.o.below (aJ _ _).drew).gp);have a4:(-9223372036854775808:Int)<=2*(n-1)/\2*(n-1)<=9223372036854775807:=aa;have ah:Hid (Calls prog 137 #[.pointer (some ⟨Cb,0,none⟩)] J.drew fun e d=>e=.returned (.int .i64 N)/\Hid (Below J.drew.heap.size J.drew d)/\d.cell? ⟨A,0,none⟩=some (.pointer (some ⟨Cb,0,none⟩))/\d.cell? ⟨A,4,none⟩=some (.int .i64 (n-1))):=af (by
   refine ag.o.mono ?_;rintro e d ⟨rfl,T⟩;obtain⟨O,-,-,-,P⟩:=((z.o.below (aJ _ _).drew).below T).cell;exact⟨rfl,T,O,P⟩)
  go_region_with (go_at_call 137;(with_reducible refine ah.o.mono ?_);rintro e d ⟨rfl,L,O,P⟩)
  all_goals
   have x:=af ((z.o.below (aJ _ _).drew).below L.o)
   go_wp2_with fail
   go_meet;exact⟨by rw[show IntKind.i64.wrap (2*(n-1))=2*(n-1)from BZ _ aa],x,(ap.o.drew).below L.o⟩
 case rest=>
 obtain⟨rfl,x,g⟩:=hcut;obtain⟨d,aH⟩:∃d:World,d=wc:=⟨_,rfl⟩;subst aH;generalize aM:decide (2*(n-1)<N)=dg;have aj:=af aM
 go_upto_if 51 with fail
 go_cut []from 51 to 53 (fun w=>∃(j q:Value) (bh' c:List l8) (i v:Int),Hid (dR w base A Cb j pv (.slice (some ⟨b,0,none⟩) al.length f) q bh' c (al.set m false) pl (n-1) i v)/\Hid (qa (c.map (·.2.1)) (bh'.map (·.2.1)) (al.set m false) pl (n-1) i)/\
  Hid (∀id p,iA (c.map (·.2.1)).flatten (al.set m false) pl id p↔iA (ch.map (·.2.1)).flatten (al.set m false) pl id p)/\Hid (∀k,o6 A Cb j pv (.slice (some ⟨b,0,none⟩) al.length f) q k->o6 A Cb bv pv (.slice (some ⟨b,0,none⟩) al.length f) cv k\/W.heap.size<=k)/\Hid (aB (o6 A Cb bv pv (.slice (some ⟨b,0,none⟩) al.length f) cv) W w)/\Hid (Nw W.heap.size bh bh')/\Hid (Nw W.heap.size ch c))
 case first=>
  cases dg
  .have au:Hid (N<=2*(n-1)):=af (by have:=aj.o;simp at this;omega)
   go_wp2_with fail
   go_meet;exact⟨bv,cv,bh,ch,N,wk,x,⟨M.o,au.o⟩,fun _ _=>Iff.rfl,fun k u=>.inl u,g,Nw.refl,Nw.refl⟩
  .have ae:=af (Tv x.o (by have:=g.o.size;omega) M.o)
   go_wp2_with fail
   refine ae.o.mono ?_;rintro e bg ⟨j,q,bh',c,i,v,rfl,aW,aX,aN,aR,aK,Y,aU⟩;have C:=af Y;have D:=af aU;have ay:=af aW;have aA:=af aX;have am:=af aN;have ar:=af aR;have aq:=af aK
   go_wp2_with fail
   go_meet;exact⟨j,q,bh',c,i,v,ay,aA,am,fun k u=>(ar.o k u).imp (fun h=>h) (fun h=>by have:=g.o.size;omega),g.o.trans aq.o,Nw.nil C.o g.o.size,Nw.nil D.o g.o.size⟩
 case rest=>
  have⟨j,q,bh',c,i,v,R,az,an,av,ao,C,D⟩:=hcut;obtain⟨ab,aI⟩:∃ab:World,ab=wc:=⟨_,rfl⟩;subst aI;obtain⟨-,-,aD,-,-⟩:=R.o.cell;obtain⟨a2,bf,aG,a9,ba,-,-⟩:=aS R.o.iP aa;subst aG;have ad:=R.o.iP.cellAt m aa;rw[ib,aw.o]at ad;simp only[eP]at ad;go_wp2;go_ret2;exact⟨j,q,bh',c,i,v,rfl,R.o,az.o,an.o,av.o,ao.o,C.o,D.o⟩
end
end
section
open Go.RowKit Go.Maps
def Vl (S:Nat->Prop) (ch:List l8):Prop:=∀h∈ch,h.2.1≠[]->∀a,h.1=some a->S a.block
theorem Vl.nw {S:Nat->Prop} {n:Nat} {ch b:List l8} (h:Vl S ch) (d:Nw n ch b):Vl (fun k=>S k\/n<=k) b:=fun x f e a c=>(d x f).elim (fun g=>.inl (h x g e a c)) fun g=>.inr (g a c)
def kR (W:World) (base A:Nat) (S:Nat->Prop) (m:Nat) (D:List (Int×Int)):Prop:=
 ∃(Cb:Nat) (bv pv lv cv:Value) (bh ch:List l8) (al:List Bool) (pl:List Int) (n N wk:Int),dR W base A Cb bv pv lv cv bh ch al pl n N wk/\qa (ch.map (·.2.1)) (bh.map (·.2.1)) al pl n N/\EI (ch.map (·.2.1)) al pl D/\al.length<=m/\(∀k,o6 A Cb bv pv lv cv k->S k)/\Vl S bh/\Vl S ch
section
variable {W:World} {base A:Nat} {S:Nat->Prop} {m:Nat} {D:List (Int×Int)}
theorem kR.mono {S':Nat->Prop} {e:Nat} (h:kR W base A S m D) (hS:∀k,S k->S' k) (p:m<=e):kR W base A S' e D:=by
 have⟨Cb,bv,pv,lv,cv,bh,ch,al,pl,n,N,wk,l,o,hd,q,f,g,i⟩:=h;exact⟨Cb,bv,pv,lv,cv,bh,ch,al,pl,n,N,wk,l,o,hd,aa,fun k j=>hS k (f k j),fun h c d a b=>hS _ (g h c d a b),fun h c d a b=>hS _ (i h c d a b)⟩
theorem kR.clip (h:kR W base A S m D):kR W base A (fun k=>S k/\k<W.heap.size) m D:=by
 have⟨Cb,bv,pv,lv,cv,bh,ch,al,pl,n,N,wk,d,w,hd,v,hS,s,u⟩:=h;have j:∀{e:List l8},kK W e->Vl S e->Vl (fun k=>S k/\k<W.heap.size) e:=fun{e} q hi x l i a f=>by
  refine⟨hi x l i a f,?_⟩;rcases(q x l).1 with p|⟨b,off,y,fr,c,r,-⟩
  .exact absurd p i
  .rw[f]at c;injection c with c;rw[c];exact(bg.1 r).1
 refine⟨Cb,bv,pv,lv,cv,bh,ch,al,pl,n,N,wk,d,w,hd,v,fun k g=>⟨hS k g,?_⟩,j d.bE s,j d.cE u⟩;obtain⟨cs,t,fr,o,-⟩:=Ac d k g;exact(bg.1 o).1
theorem kR.kept {W':World} (h:kR W base A S m D) {T:Nat->Prop} (K:aB T W W') (hd:∀k,S k->¬T k):kR W' base A S m D:=by
 have⟨Cb,bv,pv,lv,cv,bh,ch,al,pl,n,N,wk,a,i,f,g,hS,c,d⟩:=h;exact⟨Cb,bv,pv,lv,cv,bh,ch,al,pl,n,N,wk,⟨a.hb,bu K a.blk (hd _ (hS _ (.inl rfl))),⟨a.gp.hb,a.gp.ds,bu K a.gp.blk (hd _ (hS _ (.inr (.inl rfl)))),aU a.gp.row K fun b e=>hd _ (hS _ (.inr (.inr (.inr (.inr (.inr e))))))⟩,aU a.ik K fun b e=>hd _ (hS _ (.inr (.inr (.inl e)))),aU a.iP K fun b e=>hd _ (hS _ (.inr (.inr (.inr (.inl e))))),aU a.dP K fun b e=>hd _ (hS _ (.inr (.inr (.inr (.inr (.inl e)))))),a.bE.O7 c K hd,a.cE.O7 d K hd,a.sep⟩,i,f,g,hS,c,d⟩
theorem Xq (W:World):aK 54 #[] W fun e w'=>e=.returned (aj (W.heap.size+1))/\kR w' W.heap.size (W.heap.size+1) (fun k=>W.heap.size<=k) 0 []/\Below W.heap.size W w':=by
 refine(UF W).mono ?_;rintro e w' ⟨c,d,b⟩;refine⟨c,⟨W.heap.size,aM,aM,aM,aM,[],[],[],[],0,0,0,d,PN,EI.new,aA _,?_,(fun h a=>absurd a iO),fun h a=>absurd a iO⟩,b⟩;rintro k (h|h|h|h|h|h)
 .show _<=k;omega
 .show _<=k;omega
 all_goals cases h
def Vm (W:World) (D:List (Int×Int)) (id:Int) (e:Ending) (w':World):Prop:=
 ∃t:Nat,t<=(Lib.bitLen (2*D.length+1)+1)*(Lib.bitLen (2*D.length+1)+1)/\((∃p,(id,p)∈D/\e=.returned (.tuple #[ae p,.bool true,ae t]))\/((∀p,(id,p)∉D)/\e=.returned (.tuple #[ae 0,.bool false,ae t])))/\Below W.heap.size W w'
theorem Wx (h:kR W base A S m D) (id:Int):aK 72 #[aj A,ak id] W (Vm W D id):=by
 obtain⟨Cb,bv,pv,lv,cv,bh,ch,al,pl,n,N,wk,j,c,hd,q,hS,k,o⟩:=h;have d:=c.TQ;refine(Sg j c (by have:=d.1;simp at this;omega) (fun l i=>by have:=d.2.2.1 l i;omega) id).mono ?_;rintro e w' ⟨t,ht,g,f⟩;refine⟨t,?_,?_,f⟩
 .rw[hd.len];exact bA ht (Nn c)
 .rcases g with⟨p,a,b⟩|⟨a,b⟩
  .exact .inl ⟨p,(hd.iff _ _).2 a,b⟩
  .exact .inr ⟨fun p hp=>a p ((hd.iff _ _).1 hp),b⟩
theorem Lh (h:kR W base A S m D) (id p c:Int) (hid:(id,c)∈D):aK 56 #[aj A,ak id,ae p] W (gD W (ae 2)):=by
 have⟨Cb,bv,pv,lv,cv,bh,ch,al,pl,n,N,wk,e,a,hd,i,hS,f,g⟩:=h;have b:=a.TQ;exact Gh e a (by have:=b.1;simp at this;omega) (fun l d=>by have:=b.2.2.1 l d;omega) id p c ((hd.iff _ _).1 hid)
def Mw (S:Nat->Prop) (W w':World):Prop:=∃T:Nat->Prop,aB T W w'/\∀k,T k->S k/\∃cs t fr,W.heap[k]? =some (Obj.cells cs t fr)/\Q8 t=true
theorem Mw.Jz {w':World} (h:Mw S W w'):aB S W w':=by
 have⟨T,K,a⟩:=h;exact K.mono fun k b=>(a k b).1
def Wy (W:World) (base A:Nat) (S:Nat->Prop) (m:Nat) (D:List (Int×Int)) (id p:Int) (e:Ending) (w':World):Prop:=
 e=.returned (ae 0)/\kR w' base A (fun k=>S k\/W.heap.size<=k) (m+1) (D++[(id,p)])/\Mw S W w'
theorem Q9 (h:kR W base A S m D) (M:base<=W.heap.size) (af:m<5000) (id p:Int) (hid:∀q,(id,q)∉D):aK 56 #[aj A,ak id,ae p] W (Wy W base A S m D id p):=by
 have⟨Cb,bv,pv,lv,cv,bh,ch,al,pl,n,N,wk,u,c,hd,ad,hS,z,B⟩:=h;have F:∀k,o6 A Cb bv pv lv cv k->∃cs t fr,W.heap[k]? =some (Obj.cells cs t fr)/\Q8 t=true:=Ac u;have G:=c.TQ;by_cases d:∃x∈(ch.map (·.2.1)).flatten,x.1=id
 .obtain⟨x,d,X⟩:=d;have⟨k,b,C⟩:=c.uX x d;have f:(id,(k:Int))∈(ch.map (·.2.1)).flatten:=by rw[<-X,<-b];exact d
  have j:al[k]? =some false:=by
   rw[cK C];cases L:al[k]with
   |false=>rfl
   |true=>
    obtain⟨q,U,-⟩:=hd.val c.toxY f (by rw[cK C,L]);exact absurd U (hid q)
  have Q:0<=n/\n<=100000:=by
   have w:=c.cnt;have y:al.count true<=al.length:=Fq;have ac:=c.bound;omega
  refine(Gi u c (by have:=G.1;simp at this;omega) (fun l O=>by have:=G.2.2.1 l O;omega) id p k f j Q).mono ?_;rintro e w' ⟨o,v,g⟩;have K:aB (o6 A Cb bv pv lv cv) W w':=g.mono fun k b=>by
   rcases b with h|h|h
   .exact .inl h
   .exact .inr (.inr (.inr (.inl h)))
   .exact .inr (.inr (.inr (.inr (.inl h))))
  exact⟨o,⟨Cb,bv,pv,lv,cv,bh,ch,_,_,_,N,wk,v,Sj c k p id f j,hd.again c.toxY f j,aH,fun k b=>.inl (hS k b),(fun h r s a i=>.inl (z h r s a i)),fun h r s a i=>.inl (B h r s a i)⟩,⟨_,K,fun k b=>⟨hS k b,F k b⟩⟩⟩
 .have E:∀x∈(ch.map (·.2.1)).flatten,x.1≠id:=fun x w y=>d ⟨x,w,y⟩;refine(Ld u M c aa id p E).mono ?_;rintro e w' ⟨H,Z,Y,J,bh',I,ab,o,v,V,hP,P,g,R,T⟩;exact⟨o,⟨Cb,H,Z,Y,J,bh',I,_,_,_,_,ab,v,V,hd.put c.toxY E hP,aH,fun k b=>(P k b).imp (hS k) (fun h=>h),z.nw R,B.nw T⟩,⟨_,g,fun k b=>⟨hS k b,F k b⟩⟩⟩
theorem Ra (h:kR W base A S m D) (id:Int) (hid:∀q,(id,q)∉D):aK 58 #[aj A,ak id] W (gD W (.tuple #[ae 0,.bool false])):=by
 have⟨Cb,bv,pv,lv,cv,bh,ch,al,pl,n,N,wk,b,c,hd,f,hS,d,e⟩:=h;exact Lg b c id (fun q a=>hid q ((hd.iff _ _).2 a))
def Vn (W:World) (base A:Nat) (S:Nat->Prop) (m:Nat) (D:List (Int×Int)) (id p:Int) (e:Ending) (w':World):Prop:=
 e=.returned (.tuple #[ae p,.bool true])/\kR w' base A (fun k=>S k\/W.heap.size<=k) m (D.filter fun x=>decide (x.1≠id))/\Mw S W w'
theorem Oy (h:kR W base A S m D) (s:base<=W.heap.size) (id p:Int) (hid:(id,p)∈D):aK 58 #[aj A,ak id] W (Vn W base A S m D id p):=by
 have⟨Cb,bv,pv,lv,cv,bh,ch,al,pl,n,N,wk,d,f,hd,x,hS,u,v⟩:=h;have E:=Ac d;have⟨k,b,c,o⟩:=(hd.iff _ _).1 hid;have q:=hd.drop f.toxY b c;refine(Jc d s f id p k b c o).mono ?_;rintro e w' ⟨i,l,bh',j,g,G,t,C,F,w,y,r,z,B⟩;exact⟨t,⟨Cb,i,pv,lv,l,bh',j,_,_,_,g,G,C,F,q.turn w,aQ x,fun k a=>(y k a).imp (hS k) (fun h=>h),u.nw z,v.nw B⟩,⟨_,r,fun k a=>⟨hS k a,E k a⟩⟩⟩
end
def Own (W:World) (base A m:Nat) (D:List (Int×Int)):Prop:=kR W base A (fun k=>base<=k) m D
end
section
open Go.RowKit Go.Sort Go.Shelf Go.Lib Go.Maps
attribute [local irreducible] wpQuiet
attribute [local go_sem] Oper.dZ
structure Jd (w:World) (Pb Hb Ab base:Nat) (av:Value) (GH SD:Nat->Prop) (m:Nat) (A:List fB) (D:List (Int×Int)) (ALL:List Pt) (N wk eT:Int):Prop where
 blk:w.heap[Pb]? =some (Obj.cells #[aj Hb,aj Ab,av,ae eT] yz (0,0))
 row:w.ownsRow 0 29 3 av ALL.length (ALL.flatMap bX)
 half:jM w Hb GH m A N wk
 dir:kR w base Ab SD m D
 hb:base<=w.heap.size
 few:ALL.length<=m
 fwd:∀id q,(id,q)∈D->∃(k:Nat) (c:fB),q=k/\c∈A/\ALL[k]? =some c.1/\c.1.2.2=id
 bwd:∀c∈A,∃q,(c.1.2.2,q)∈D
 si:(∀k,GH k->¬SD k/\k≠Pb/\av.ownBlock≠some k/\k<w.heap.size)/\(∀k,SD k->k≠Pb/\av.ownBlock≠some k/\k<w.heap.size)/\av.ownBlock≠some Pb
def dG (w:World) (Pb:Nat) (G:Nat->Prop) (m:Nat) (now:List Pt) (N wk eT:Int):Prop:=
 ∃(Hb Ab base:Nat) (av:Value) (GH SD:Nat->Prop) (A:List fB) (D:List (Int×Int)) (ALL:List Pt),Jd w Pb Hb Ab base av GH SD m A D ALL N wk eT/\A.map (·.1)=now/\∀k,GH k\/SD k\/k=Pb\/av.ownBlock=some k->G k
theorem jM.clip {w:World} {Hb m:Nat} {G:Nat->Prop} {A:List fB} {N wk:Int} (h:jM w Hb G m A N wk):jM w Hb (fun k=>G k/\k<w.heap.size) m A N wk:=by
 have⟨X,F,Cb,mb,cv,tv,av,lv,ch,T,al,fA,d,e,f,c,g,j,b,l,n⟩:=h;exact⟨X,F,Cb,mb,cv,tv,av,lv,ch,T,al,fA,d,e,f,c,g,j,fun k a=>⟨(b k a).1,(b k a).2,(b k a).1⟩,fun i k a=>⟨l i k a,c.lt i k a⟩,n⟩
section
variable {w w':World} {Pb Hb Ab base m:Nat} {av:Value} {G GH SD S:Nat->Prop} {A:List fB} {D:List (Int×Int)} {ALL now:List Pt} {N wk eT Eg:Int}
theorem Jd.kept (h:Jd w Pb Hb Ab base av GH SD m A D ALL N wk eT) (K:aB S w w') (hS:∀k,GH k\/SD k\/k=Pb\/av.ownBlock=some k->¬S k):Jd w' Pb Hb Ab base av GH SD m A D ALL N wk eT:=
 ⟨bu K h.blk (hS _ (.inr (.inr (.inl rfl)))),aU h.row K fun b e=>hS _ (.inr (.inr (.inr e))),h.half.kept K fun k a=>hS k (.inl a),h.dir.kept K fun k a=>hS k (.inr (.inl a)),bA h.hb K.size,h.few,h.fwd,h.bwd,⟨fun k a=>⟨(h.si.1 k a).1,(h.si.1 k a).2.1,(h.si.1 k a).2.2.1,cO (h.si.1 k a).2.2.2 K.size⟩,fun k a=>⟨(h.si.2.1 k a).1,(h.si.2.1 k a).2.1,cO (h.si.2.1 k a).2.2 K.size⟩,h.si.2.2⟩⟩
theorem Jd.Rb (h:Jd w Pb Hb Ab base av GH SD m A D ALL N wk eT) (K:aB (fun k=>k=Pb) w w') (hb:w'.heap[Pb]? =some (Obj.cells #[aj Hb,aj Ab,av,ae Eg] yz (0,0))):Jd w' Pb Hb Ab base av GH SD m A D ALL N wk Eg:=
 ⟨hb,aU h.row K fun c e b=>h.si.2.2 (by rw[e,b]),h.half.kept K fun k a=>(h.si.1 k a).2.1,h.dir.kept K fun k a=>(h.si.2.1 k a).1,bA h.hb K.size,h.few,h.fwd,h.bwd,⟨fun k a=>⟨(h.si.1 k a).1,(h.si.1 k a).2.1,(h.si.1 k a).2.2.1,cO (h.si.1 k a).2.2.2 K.size⟩,fun k a=>⟨(h.si.2.1 k a).1,(h.si.2.1 k a).2.1,cO (h.si.2.1 k a).2.2 K.size⟩,h.si.2.2⟩⟩
theorem dG.kept (h:dG w Pb G m now N wk eT) (K:aB S w w') (hS:∀k,G k->¬S k):dG w' Pb G m now N wk eT:=by
 have⟨Hb,Ab,base,av,GH,SD,A,D,ALL,b,c,a⟩:=h;exact⟨Hb,Ab,base,av,GH,SD,A,D,ALL,b.kept K fun k d=>hS k (a k d),c,a⟩
theorem dG.below (h:dG w Pb G m now N wk eT) (a:Below w.heap.size w w'):dG w' Pb G m now N wk eT:=h.kept (S:=fun _=>False) ((aB.refl _ _).below a) fun _ _ h=>h
theorem dG.more {a:Nat->Prop} (h:dG w Pb G m now N wk eT) (e:∀k,G k->a k):dG w Pb a m now N wk eT:=by
 have⟨Hb,Ab,base,av,GH,SD,A,D,ALL,b,c,d⟩:=h;exact⟨Hb,Ab,base,av,GH,SD,A,D,ALL,b,c,fun k f=>e k (d k f)⟩
theorem dG.facts (h:dG w Pb G m now N wk eT):(now.length:Int)<=N/\N<=2*now.length/\N<=m/\(ids now).Nodup/\(∀p∈now,GU p)/\0<=wk/\(∀L,m<2^L->wk<=(L*m:Nat))/\G Pb:=by
 obtain⟨Hb,Ab,base,av,GH,SD,A,D,ALL,a,rfl,b⟩:=h;obtain⟨f1,f2,f3,f4,f5,f6,f7,-⟩:=a.half.facts;rw[bK];exact⟨f1,f2,f3,f4,fun p hp=>by obtain⟨c,d,rfl⟩:=dD.1 hp;exact f5 c d,f6,f7,b _ (.inr (.inr (.inl rfl)))⟩
theorem TZ (w:World):aK 11 #[] w fun e w'=>∃Pb,e=.returned (aj Pb)/\dG w' Pb (fun k=>w.heap.size<=k/\k<w'.heap.size) 0 [] 0 0 0/\Below w.heap.size w w':=by
 have g:=af (Wo w);go_enter func11,ntmps11
 go_wp2_with fail
 refine g.o.mono ?_;rintro e w1 ⟨rfl,m,n⟩;have c:=af m.clip;have b:=af n;have f:=af (Xq w1)
 go_wp2_with fail
 refine f.o.mono ?_;rintro e w2 ⟨rfl,l,p⟩;have i:=af l.clip;have a:=af p;go_wp2;go_ret;have q:=b.o.size;have t:=a.o.size;have d:aB (fun _=>False) w2 (w2.alloc (.cells #[aj (w.heap.size+2),aj (w1.heap.size+1),aM,ae 0] yz)):=(aB.refl _ w2).alloc _;have r:aB (fun _=>False) w1 w2:=(aB.refl _ w1).below a.o;have s:=c.o.facts;refine⟨w2.heap.size,rfl,⟨w.heap.size+2,w1.heap.size+1,w1.heap.size,aM,_,_,[],[],[],⟨bY w2 _,cZ _ _ _ _,(c.o.kept r (fun _ _ h=>h)).kept d (fun _ _ h=>h),i.o.kept d (fun _ _ h=>h),aH,aT _,fun _ _ h=>absurd h iO,fun _ h=>absurd h iO,⟨fun k hk=>⟨fun j=>by have:=j.1;have:=hk.2;omega,by have:=hk.2;omega,by simp[Value.ownBlock],by have:=hk.2;simp;omega⟩,fun k hk=>⟨by have:=hk.2;omega,by simp[Value.ownBlock],by have:=hk.2;simp;omega⟩,by simp[Value.ownBlock]⟩⟩,rfl,fun k hk=>?_⟩,?_⟩
 .rcases hk with hk|hk|hk|hk
  .exact⟨hk.1,by have:=hk.2;simp;omega⟩
  .exact⟨by have:=hk.1;omega,by have:=hk.2;simp;omega⟩
  .exact⟨aa,aH⟩
  .cases hk
 .exact b.o.trans ((a.o.mono q).alloc aa _)
theorem T9 (h:dG w Pb G m now N wk eT):aK 14 #[aj Pb] w fun e w'=>e=.returned (ae now.length)/\w'=w:=by
 obtain⟨Hb,Ab,base,av,GH,SD,A,D,ALL,c,rfl,j⟩:=h;have f:=af (lL c.blk);have d:=af (Wm c.half);have i:w.cell? (ag Pb 0)=some (aj Hb):=aI c.blk;have g:(A.map (·.1)).length=A.length:=bK _;rw[g];go_enter func14,ntmps14
 go_wp2_with (first|(go_at_call 55;refine f.o.mono ?_;rintro e w1 ⟨rfl,a⟩;have b:=a.symm;clear a;subst b)|(refine d.o.mono ?_;rintro e w1 ⟨rfl,a⟩;have b:=a.symm;clear a;subst b))
 go_ret;exact⟨rfl,rfl⟩
end
end
end Go.Proofs.YtkjdbndekceffaaGreat
