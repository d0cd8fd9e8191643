/- Made small by a program. -/
import Derived.Test.YtkjdbndekceffaaGreatZ16
set_option linter.unusedSimpArgs false
set_option linter.unusedVariables false
set_option maxRecDepth 100000
set_option maxHeartbeats 16000000
namespace Go.Proofs.YtkjdbndekceffaaGreat
open Tryz
section
open Go.RowKit Go.Sort Go.Shelf Go.Lib Go.Maps
attribute [local irreducible] wpQuiet
attribute [local go_sem] Oper.eF
def Fu (l:List Pt) (x y way:Int):List Int:=if way<=3 then BI l (BJ x y (decide (way%2=1)) (decide (2<=way)))else[]
theorem M5 {a:Int} (b:0<=a) (h:a<=3):a=(if decide (a%2=1)then 1 else 0)+(if decide (2<=a)then 2 else 0):=by
 have:a=0\/a=1\/a=2\/a=3:=aa;rcases this with rfl|rfl|rfl|rfl<;>decide
theorem UZ {w:World} {lo hi cb n0:Nat} {l:List Pt} (h:uy w lo hi cb n0 l) (f:T9 l) (x y a:Int) (d:0<=a):
  aK 40 #[aj cb,af x,af y,.int .u8 a] w fun e w'=>∃v,∃c:Nat,e=.returned (.tuple #[v,af ((c+(Fu l x y a).length:Nat):Int)])/\c<=8*Lib.bitLen n0+1/\w'.ownsRow w.heap.size 27 1 v (Fu l x y a).length ((Fu l x y a).map (Value.int .u32))/\Below w.heap.size w w':=by
 unfold Fu;by_cases b:a<=3
 .rw[aN b];exact OT h f x y _ _ a (M5 d b)
 .rw[aM b];refine(Gx h x y a aa).mono ?_;rintro e w' ⟨rfl,rfl⟩;exact⟨_,0,rfl,aX _,dw _ _ _ _,aJ _ _⟩
theorem He:gF 39:=di func39 aO rfl
theorem Hf:gF 66:=di func66 aO rfl
theorem M6 {u:World} {F:Nat->Prop} {tb n0:Nat} {l:List Pt} (h:Bk u F tb n0 l) (x1 x2 y1 y2 b:Int) {a:Nat} (k:u.cell? (ae a 0)=some (af x1)) (m:u.cell? (ae a 1)=some (af x2)) (n:u.cell? (ae a 2)=some (af y1)) (q:u.cell? (ae a 3)=some (af y2)) (r:u.cell? (ae a 4)=some (ay b)):
  aK 66 #[aj tb,aj a] u fun e d=>∃v,∃t:Nat,e=.returned (.tuple #[v,af t])/\(∃c:Nat,t=c+(hasB l x1 x2 y1 y2).length/\c<=8*Lib.bitLen n0+1)/\d.ownsRow u.heap.size 27 1 v (hasB l x1 x2 y1 y2).length ((hasB l x1 x2 y1 y2).map (Value.int .u32))/\Below u.heap.size u d:=by
 have⟨lo,m0,m1,m2,m3,m4,hi,bx,cn,hp,lw,ob,tl,sv,dn,h⟩:=h;have H:=ag h;have j:u.cell? (ae tb 1)=some (aj bx):=aG h.blk;have i:ax (fun _=>False) u u.drew:=(ax.refl _ u).drew;have f:=ag (KC (H.o.box.kept i (fun _ _ _ h=>h)) x1 x2 y1 y2 b);have E:=ah j;have z:=ah k;have A:=ah m;have B:=ah n;have C:=ah q;have D:=ah r;go_enter func66,ntmps66
 go_wp2_with fail
 refine ak (fun W=>∃p:aQ u,W=p.W) [5,6,7,8,9] [(0,false),(1,false),(2,false),(3,true),(4,true)] ⟨⟨_,(aJ _ _).drew⟩,rfl⟩ 5 ?_;refine aF 5 rfl fun K s=>?_;refine bf He rfl _ _ rfl (vals:=#[aj bx,.agg #[af x1,af x2,af y1,af y2,ay b]]) rfl f.o ?_;rintro e u1 ⟨v,c,rfl,x,y,w⟩;have g:Hid (Below u.heap.size u u1):=(aJ _ _).drew.trans w;refine⟨_,rfl,?_⟩;refine s _ _ (fun _ h=>absurd ai h) ?_;have HO:=ag y;refine iR (fun _=>True) [8,9] aO ?_;refine bu [(6,false),(7,false)] trivial rfl ?_;refine aH [8,9] ?_;go_wp2;go_ret2;exact⟨_,_,rfl,⟨c,rfl,x⟩,HO.o,g.o⟩
theorem JS:gF 41:=di func41 aO rfl
theorem JU:gF 68:=di func68 aO rfl
theorem PS {u:World} {F:Nat->Prop} {tb n0:Nat} {l:List Pt} (h:Bk u F tb n0 l) (x1 x2 y:Int) {a b d:Nat} (m:u.cell? (ae a 0)=some (af x1)) (n:u.cell? (ae b 0)=some (af x2)) (q:u.cell? (ae d 0)=some (af y)):
  aK 68 #[aj tb,aj a,aj b,aj d] u fun e f=>∃v,∃t:Nat,e=.returned (.tuple #[v,af t])/\((xe l x1 x2 y).length<=t/\t<=2*(xe l x1 x2 y).length+KQ n0)/\f.ownsRow u.heap.size 27 1 v (xe l x1 x2 y).length ((xe l x1 x2 y).map (Value.int .u32))/\Below u.heap.size u f:=by
 have⟨lo,m0,m1,m2,m3,m4,hi,bx,cn,hp,lw,ob,tl,sv,dn,h⟩:=h;have H:=ag h;have k:u.cell? (ae tb 3)=some (aj hp):=aG h.blk;have j:ax (fun _=>False) u u.drew:=(ax.refl _ u).drew;have g:=ag (Tq (H.o.UG.kept j (fun _ _ _ h=>h)) x1 x2 y);have C:=ah k;have z:=ah m;have A:=ah n;have B:=ah q;go_enter func68,ntmps68
 go_wp2_with fail
 refine ak (fun W=>∃p:aQ u,W=p.W) [7,8,9,10,11] [(0,false),(1,false),(2,false),(3,true),(4,true),(5,true),(6,true)] ⟨⟨_,(aJ _ _).drew⟩,rfl⟩ 5 ?_;refine aF 7 rfl fun K r=>?_;refine bf JS rfl _ _ rfl (vals:=#[aj hp,af x1,af x2,af y]) rfl g.o ?_;rintro e u1 ⟨v,c,rfl,w,x,s⟩;have i:Hid (Below u.heap.size u u1):=(aJ _ _).drew.trans s;refine⟨_,rfl,?_⟩;refine r _ _ (fun _ h=>absurd ai h) ?_;have HO:=ag x;refine iR (fun _=>True) [10,11] aO ?_;refine bu [(8,false),(9,false)] trivial rfl ?_;refine aH [10,11] ?_;go_wp2;go_ret2;exact⟨_,_,rfl,w,HO.o,i.o⟩
theorem Hg:gF 40:=di func40 aO rfl
theorem Hl:gF 67:=di func67 aO rfl
theorem M7 {u:World} {F:Nat->Prop} {tb n0:Nat} {l:List Pt} (h:Bk u F tb n0 l) (x y a:Int) (C:T9 l) (B:0<=a) {b d f:Nat} (n:u.cell? (ae b 0)=some (af x)) (q:u.cell? (ae d 0)=some (af y)) (r:u.cell? (ae f 0)=some (.int .u8 a)):
  aK 67 #[aj tb,aj b,aj d,aj f] u fun e g=>∃v,∃t:Nat,e=.returned (.tuple #[v,af t])/\(∃c:Nat,t=c+(Fu l x y a).length/\c<=8*Lib.bitLen n0+1)/\g.ownsRow u.heap.size 27 1 v (Fu l x y a).length ((Fu l x y a).map (Value.int .u32))/\Below u.heap.size u g:=by
 have⟨lo,m0,m1,m2,m3,m4,hi,bx,cn,hp,lw,ob,tl,sv,dn,h⟩:=h;have H:=ag h;have m:u.cell? (ae tb 2)=some (aj cn):=aG h.blk;have k:ax (fun _=>False) u u.drew:=(ax.refl _ u).drew;have i:=ag (UZ (H.o.UF.kept k (fun _ _ _ h=>h)) C x y a B);have I:=ah m;have D:=ah n;have E:=ah q;have G:=ah r;go_enter func67,ntmps67
 go_wp2_with fail
 refine ak (fun W=>∃p:aQ u,W=p.W) [7,8,9,10,11] [(0,false),(1,false),(2,false),(3,true),(4,true),(5,true),(6,true)] ⟨⟨_,(aJ _ _).drew⟩,rfl⟩ 5 ?_;refine aF 7 rfl fun K s=>?_;refine bf Hg rfl _ _ rfl (vals:=#[aj cn,af x,af y,.int .u8 a]) rfl i.o ?_;rintro e u1 ⟨v,c,rfl,z,A,w⟩;have j:Hid (Below u.heap.size u u1):=(aJ _ _).drew.trans w;refine⟨_,rfl,?_⟩;refine s _ _ (fun _ h=>absurd ai h) ?_;have HO:=ag A;refine iR (fun _=>True) [10,11] aO ?_;refine bu [(8,false),(9,false)] trivial rfl ?_;refine aH [10,11] ?_;go_wp2;go_ret2;exact⟨_,_,rfl,⟨c,rfl,z⟩,HO.o,j.o⟩
end
section
open Go.RowKit Go.Maps
attribute [local irreducible] wpQuiet
section
variable {W:World} {base A Cb:Nat} {bv pv lv cv:Value} {bh ch:List lQ} {al:List Bool} {pl:List Int} {n N wk:Int}
theorem dQ.rows {W':World} {l j:Value} {al':List Bool} {pl':List Int} (h:dQ W base A Cb bv pv lv cv bh ch al pl n N wk) (K:ax (fun k=>k=A\/pv.ownBlock=some k\/lv.ownBlock=some k) W W')
  (hb:W'.heap[A]? =some (Obj.cells #[.pointer (some ⟨Cb,0,none⟩),bv,l,j,.int .i64 n] 207 (0,0)))
  (hp:W'.ownsRow base 3 1 l pl'.length (pl'.map (Value.int .i64))) (q:W'.ownsRow base 4 1 j al'.length (al'.map Value.bool)):dQ W' base A Cb bv l j cv bh ch al' pl' n N wk:=by
 have c:∀{b:Nat} {cs:Array Value} {t:TypeId} {fr:Nat×Nat},W.heap[b]? =some (Obj.cells cs t fr)->t≠207->t≠3->t≠4->¬(b=A\/pv.ownBlock=some b\/lv.ownBlock=some b):=by
  rintro b cs t fr hb d f i (h9|h9|h9)
  .exact dV hb h.blk d h9
  .exact bn h.iF hb f _ h9 rfl
  .exact bn h.dL hb i _ h9 rfl
 have p:∀{e:TypeId} {sz:Nat} {v:Value} {n:Nat} {xs:List Value},W.ownsRow base e sz v n xs->e≠207->e≠3->e≠4->W'.ownsRow base e sz v n xs:=fun o d f i=>
  aT o K fun u e=>by
   rcases o.2 with⟨rfl,_⟩|⟨g,s,m,rfl,_,r,_⟩
   .cases e
   .simp only[Value.ownBlock,ji]at e;subst e;exact c r d f i
 exact⟨h.hb,hb,⟨h.fI.hb,h.fI.ds,bz K h.fI.blk (c h.fI.blk ai ai ai),p h.fI.row ai ai ai⟩,p h.gM ai ai ai,hp,q,
  h.bE.kept fun b m fr a=>K.block b (aZ.1 a).1 (c a ai ai ai),h.cE.kept fun b m fr a=>K.block b (aZ.1 a).1 (c a ai ai ai),h.sep⟩
theorem sP {w:World} {A i:Nat} {cs a:Array Value} {t:TypeId} {v:Value} (h:w.heap[A]? =some (Obj.cells cs t (0,0))) (e:a=cs.setIfInBounds i v):(w.setCell ⟨A,i,none⟩ v).heap[A]? =some (Obj.cells a t (0,0)):=by
 rw[dC w A i _ _ _ h,e]
structure cZ (W:World) (base A Cb:Nat) (bv pv lv cv:Value) (bh ch:List lQ) (al:List Bool) (pl:List Int) (n N wk:Int):Prop where
 hb:base<=A
 blk:W.heap[A]? =some (Obj.cells #[.pointer (some ⟨Cb,0,none⟩),bv,pv,lv,.int .i64 n] 207 (0,0))
 fI:iV W base Cb cv ch N wk
 gM:W.ownsRow base 209 1 bv bh.length (bh.map dR)
 iF:W.ownsRow base 3 1 pv pl.length (pl.map (Value.int .i64))
 dL:W.ownsRow base 4 1 lv al.length (al.map Value.bool)
 sep:bv.ownBlock=none\/bv.ownBlock≠cv.ownBlock
theorem dQ.core (h:dQ W base A Cb bv pv lv cv bh ch al pl n N wk):cZ W base A Cb bv pv lv cv bh ch al pl n N wk:=⟨h.hb,h.blk,h.fI,h.gM,h.iF,h.dL,h.sep⟩
theorem cZ.rep (h:cZ W base A Cb bv pv lv cv bh ch al pl n N wk) (hb:jW W bh) (a:jW W ch):dQ W base A Cb bv pv lv cv bh ch al pl n N wk:=⟨h.hb,h.blk,h.fI,h.gM,h.iF,h.dL,hb,a,h.sep⟩
theorem cZ.cell (h:cZ W base A Cb bv pv lv cv bh ch al pl n N wk):
  W.cell? ⟨A,0,none⟩=some (.pointer (some ⟨Cb,0,none⟩))/\W.cell? ⟨A,1,none⟩=some bv/\W.cell? ⟨A,2,none⟩=some pv/\W.cell? ⟨A,3,none⟩=some lv/\W.cell? ⟨A,4,none⟩=some (.int .i64 n):=by
 have:=h.blk;refine⟨?_,?_,?_,?_,?_⟩<;>simp[World.cell?,this]
theorem cZ.frozen (h:cZ W base A Cb bv pv lv cv bh ch al pl n N wk) (j:Nat):W.frozen? ⟨A,j,none⟩=false:=by
 have:=h.blk;simp[World.frozen?,this]
theorem cZ.lt (h:cZ W base A Cb bv pv lv cv bh ch al pl n N wk):A<W.heap.size:=(aZ.1 h.blk).1
theorem cZ.below {W':World} (h:cZ W base A Cb bv pv lv cv bh ch al pl n N wk) (hb:Below W.heap.size W W'):cZ W' base A Cb bv pv lv cv bh ch al pl n N wk:=
 ⟨h.hb,(aS hb h.blk).trans h.blk,h.fI.below hb,az h.gM hb,az h.iF hb,az h.dL hb,h.sep⟩
def oq (A Cb:Nat) (bv pv lv cv:Value) (k:Nat):Prop:=k=A\/k=Cb\/bv.ownBlock=some k\/pv.ownBlock=some k\/lv.ownBlock=some k\/cv.ownBlock=some k
theorem cZ.add {W':World} {c:Value} {i:List lQ} {g l:Int} (h:cZ W base A Cb bv pv lv cv bh ch al pl n N wk) (K:ax (fun k=>k=Cb\/cv.ownBlock=some k) W W') (q:iV W' base Cb c i g l) (r:c.ownBlock=cv.ownBlock\/c.ownBlock=none\/∃b,c.ownBlock=some b/\W.heap.size<=b):
  cZ W' base A Cb bv pv lv c bh i al pl n g l:=by
 have f:∀{e:TypeId} {sz:Nat} {v:Value} {n:Nat} {xs:List Value},W.ownsRow base e sz v n xs->e≠290->(∀a,v.ownBlock=some a->cv.ownBlock≠some a)->W'.ownsRow base e sz v n xs:=fun j o p=>
  aT j K fun a e=>by
   rintro(h9|h9)
   .exact bn j h.fI.blk (iN o) a e h9.symm
   .exact p a e h9
 refine⟨h.hb,bz K h.blk ?_,q,f h.gM ai ?_,f h.iF ai (bA h.iF h.fI.row ai),f h.dL ai (bA h.dL h.fI.row ai),?_⟩
 .rintro(h9|h9)
  .exact dV h.blk h.fI.blk ai h9
  .exact bn h.fI.row h.blk ai _ h9 rfl
 .intro a e m;rcases h.sep with h9|h9
  .rw[h9]at e;cases e
  .exact h9 (e.trans m.symm)
 .rcases r with h9|h9|⟨b,h9,s⟩
  .rw[h9];exact h.sep
  .rw[h9];rcases Ih bv.ownBlock with d|⟨x,d⟩
   .exact .inl d
   .exact .inr (by rw[d];simp)
  .rw[h9];right;intro e;have:=(h.gM.lt b e).2;omega
theorem cZ.U0 {g k c:Nat} (h:cZ W base A Cb (.slice (some ⟨g,0,none⟩) k c) pv lv cv bh ch al pl n N wk) (f:k=bh.length) (m:Nat) (x:lQ):cZ (W.setCell ⟨g,m,none⟩ (dR x)) base A Cb (.slice (some ⟨g,0,none⟩) k c) pv lv cv (bh.set m x) ch al pl n N wk:=by
 subst f;have⟨i,b⟩:=zW h.gM;have d:∀a,cv.ownBlock=some a->g≠a:=by
  rintro a e rfl;rcases h.sep with h9|h9
  .cases h9
  .exact h9 e.symm
 refine⟨h.hb,(aC (dV b h.blk ai)).trans h.blk,⟨h.fI.hb,h.fI.ds,(aC (dV b h.fI.blk ai)).trans h.fI.blk,aY h.fI.row fun a e=>aC (d a e)⟩,?_,aY h.iF fun a e=>aC (bn h.iF b ai a e),aY h.dL fun a e=>aC (bn h.dL b ai a e),h.sep⟩;rw[kI,kK];exact(h.gM.stored m (dR x)).1
theorem cZ.PT {W':World} {c:Value} {bh':List lQ} (h:cZ W base A Cb bv pv lv cv bh ch al pl n N wk) (j:W.grownBy W' bv.ownBlock) (i:W'.ownsRow base 209 1 c bh'.length (bh'.map dR)) (m:c.ownBlock=bv.ownBlock\/c.ownBlock=none\/∃b,c.ownBlock=some b/\W.heap.size<=b):
  cZ (W'.setCell ⟨A,1,none⟩ c) base A Cb c pv lv cv bh' ch al pl n N wk:=by
 have K:ax (fun k=>bv.ownBlock=some k) W W':=(ax.refl _ W).grown j (fun k l=>.inl l);have f:W'.heap[A]? =some (Obj.cells #[.pointer (some ⟨Cb,0,none⟩),bv,pv,lv,.int .i64 n] 207 (0,0)):=bz K h.blk fun e=>bn h.gM h.blk ai _ e rfl;have g:W'.ownsRow base 209 1 cv ch.length (ch.map dR):=aT h.fI.row K fun a e d=>by
  rcases h.sep with h9|h9
  .rw[h9]at d;cases d
  .exact h9 (d.trans e.symm)
 have o:c.ownBlock=none\/c.ownBlock≠cv.ownBlock:=by
  rcases m with h9|h9|⟨b,h9,p⟩
  .rw[h9];exact h.sep
  .exact .inl h9
  .rw[h9];right;intro e;have:=(h.fI.row.lt b e.symm).2;omega
 refine⟨h.hb,sP f rfl,⟨h.fI.hb,h.fI.ds,(aC (dV h.blk h.fI.blk ai)).trans (bz K h.fI.blk fun e=>bn h.gM h.fI.blk ai _ e rfl),aY g fun a e=>aC (bn g f ai a e)⟩,
  aY i fun a e=>aC (bn i f ai a e),?_,?_,o⟩
 .have:=aT h.iF K fun a e d=>bA h.iF h.gM ai a e d;exact aY this fun a e=>aC (bn this f ai a e)
 .have:=aT h.dL K fun a e d=>bA h.dL h.gM ai a e d;exact aY this fun a e=>aC (bn this f ai a e)
end
section
variable {W:World} {base A Cb:Nat} {bv pv lv cv:Value} {bh ch:List lQ} {al:List Bool} {pl:List Int} {n N wk:Int}
theorem cZ.Wj {W':World} {d k:Nat} {v:Value} {xs:List Value} (h:cZ W base A Cb bv pv lv cv bh ch al pl n N wk) (c:W.ownsRow d 204 2 v k xs) (f:W.grownBy W' v.ownBlock):cZ W' base A Cb bv pv lv cv bh ch al pl n N wk:=by
 have K:ax (fun k=>v.ownBlock=some k) W W':=(ax.refl _ W).grown f (fun k g=>.inl g);exact⟨h.hb,bz K h.blk fun e=>bn c h.blk ai _ e rfl,⟨h.fI.hb,h.fI.ds,bz K h.fI.blk fun e=>bn c h.fI.blk ai _ e rfl,aT h.fI.row K fun b e a=>bA h.fI.row c ai b e a⟩,
  aT h.gM K fun b e a=>bA h.gM c ai b e a,aT h.iF K fun b e a=>bA h.iF c ai b e a,aT h.dL K fun b e a=>bA h.dL c ai b e a,h.sep⟩
theorem cZ.eX {W':World} (h:cZ W base A Cb bv pv lv cv bh ch al pl n N wk) {T:Nat->Prop} (K:ax (fun k=>oq A Cb bv pv lv cv k\/T k) W W') (b:Nat) (a:Array Value) (fr:Nat×Nat) (hb:W.heap[b]? =some (Obj.cells a 204 fr)) (c:¬T b):W'.heap[b]? =W.heap[b]? :=by
 refine K.block b (aZ.1 hb).1 ?_;rintro((h9|h9|h9|h9|h9|h9)|h9)
 .exact dV hb h.blk ai h9
 .exact dV hb h.fI.blk ai h9
 .exact bn h.gM hb ai _ h9 rfl
 .exact bn h.iF hb ai _ h9 rfl
 .exact bn h.dL hb ai _ h9 rfl
 .exact bn h.fI.row hb ai _ h9 rfl
 .exact c h9
def yY (A:Nat) (w:World):Nat:=match w.cell? ⟨A,1,none⟩with|some (.slice _ n _)=>n|_=>0
theorem cZ.yY (h:cZ W base A Cb bv pv lv cv bh ch al pl n N wk):yY A W=bh.length:=by
 obtain⟨av,a,rfl,-,-,-⟩:=Rd.aI (enc:=dR) h.gM;unfold Proofs.YtkjdbndekceffaaGreat.yY;rw[h.cell.2.1]
end
def CZ (bh:List lQ) (k:Nat):List lQ:=List.replicate k fG++bh.drop k
theorem Fv {bh:List lQ} {k:Nat} (a:k<=bh.length):(CZ bh k).length=bh.length:=by simp[CZ];omega
theorem Rx {bh:List lQ} {k:Nat} (a:k<bh.length):(CZ bh k).set k fG=CZ bh (k+1):=by
 unfold CZ;rw[ui _ _ aA,iw,kZ,jJ a,oz,ru,dX];rfl
theorem Ry {bh a:List lQ} {i:Nat} (h:a=bh/\i<bh.length\/a=bh++[fG]/\i=bh.length) (hd:lQ):((CZ a i).set i hd).map (·.2.1)=List.replicate i []++hd.2.1::(bh.map (·.2.1)).drop (i+1):=by
 have c:i<a.length:=by rcases h with⟨rfl,h⟩|⟨rfl,h⟩<;>first|omega|(simp;omega)
 have b:(a.drop (i+1)).map (·.2.1)=(bh.map (·.2.1)).drop (i+1):=by
  rcases h with⟨rfl,h⟩|⟨rfl,h⟩
  .rw[xV]
  .rw[ou aD,ou aD];rfl
 unfold CZ;rw[ui _ _ aA,iw,kZ,jJ c,oz,bL,jK,b,Ej]
theorem K7 {bh a:List lQ} {i:Nat} (c:a=bh/\i<bh.length\/a=bh++[fG]/\i=bh.length) {hd h:lQ} (d:h∈(CZ a i).set i hd):h=hd\/h=fG\/h∈bh:=by
 rcases D7 d with h1|h1
 .unfold CZ at h1;rw[bP]at h1;rcases h1 with h1|h1
  .exact .inr (.inl (Al.1 h1).2)
  .have b:=Iq h1;rcases c with⟨rfl,-⟩|⟨rfl,-⟩
   .exact .inr (.inr b)
   .rcases bP.1 b with h3|h3
    .exact .inr (.inr h3)
    .exact .inr (.inl (aP h3))
 .exact .inl h1
theorem xw {w:World} {base n:Nat} {v:Value} {l:List je} (a:l.length=n) (j:n<4611686018427387904) (h:w.ownsRow base 204 2 v n (l.flatMap iL)) (p:base<=w.heap.size):
  Calls prog 133 #[v] w fun e w'=>e=.returned v/\∃l':List je,l'.Perm l/\l'.Pairwise (fun x y=>x.1<=y.1)/\w'.ownsRow base 204 2 v n (l'.flatMap iL)/\w.grownBy w' v.ownBlock:=by
 rcases h.2 with⟨rfl,b⟩|⟨g,k,m,rfl,q,_⟩
 .subst b;obtain rfl:l=[]:=gX a;have d:=ag h;go_enter func133,ntmps133
  go_wp2_with fail
  refine(EP none 0 _ w).mono ?_;rintro e w' ⟨rfl,rfl⟩;go_wp2;go_ret;exact⟨rfl,[],pG _,List.Pairwise.nil,d.o,⟨rfl,rfl,rfl,aB _,fun _ _ _=>rfl⟩⟩
 .have C:=ag (QK a j h);go_enter func133,ntmps133
  go_wp2_with fail
  refine C.o.mono ?_;rintro e w' ⟨rfl,l',hp,i,f,c⟩;go_wp2;go_ret;exact⟨rfl,l',hp,i,f,c⟩
section
variable {W:World} {base A Cb:Nat} {bv pv lv cv:Value} {bh ch:List lQ} {al:List Bool} {pl:List Int} {n N wk:Int}
def Rz (W:World) (base A Cb:Nat) (bv pv lv cv:Value) (bh ch:List lQ) (al:List Bool) (pl:List Int) (n N id p:Int) (e:Ending) (w':World):Prop:=
 ∃(R8 VX VW Cz:Value) (bh' qP:List lQ) (Kj:Int),e=.returned (.int .i64 0)/\dQ w' base A Cb R8 VX VW Cz bh' qP (al++[true]) (pl++[p]) (n+1) (N+1) Kj/\qY (qP.map (·.2.1)) (bh'.map (·.2.1)) (al++[true]) (pl++[p]) (n+1) (N+1)/\
  (qP.map (·.2.1)).flatten.Perm ((id,(al.length:Int))::(ch.map (·.2.1)).flatten)/\(∀k,oq A Cb R8 VX VW Cz k->oq A Cb bv pv lv cv k\/W.heap.size<=k)/\ax (oq A Cb bv pv lv cv) W w'/\Nw W.heap.size bh bh'/\Nw W.heap.size ch qP
theorem JV (h:dQ W base A Cb bv pv lv cv bh ch al pl n N wk) (dW:base<=W.heap.size) (aQ:qY (ch.map (·.2.1)) (bh.map (·.2.1)) al pl n N) (dj:al.length<5000) (id p:Int) (bM:∀x∈(ch.map (·.2.1)).flatten,x.1≠id):
  Calls prog 56 #[.pointer (some ⟨A,0,none⟩),.int .u32 id,.int .i64 p] W (Rz W base A Cb bv pv lv cv bh ch al pl n N id p):=by
 have b2:=ag (Gp h);have H:=ag h;have af:=aQ.SY;have cc:=ag (fun W' (F:Below W.heap.size W W')=>sH A id W' _ bh bv base ((h.below F).cell.2.1) (h.below F).gM rfl (h.below F).bE aQ.sorted (by have:=af.1;simp at this;omega) (fun l c6=>by have:=af.2.2.1 l c6;omega));have eg:0<=n/\n<=5000:=by
  have h1:=aQ.cnt;have Y:al.count true<=al.length:=Ec;omega
 have aj:=ag aQ;go_enter func56,ntmps56
 go_wp2_with fail
 refine b2.o.mono ?_;rintro e w2 ⟨rfl,an⟩
 go_wp2_with fail
 refine(cc.o w2 an).mono ?_;rintro e w3 ⟨k,t,rfl,ht,m,cW⟩;have aR:=an.trans (cW.mono an.size);have a2:=ag (H.o.below aR);have⟨dw,dx,dy,dz,dA⟩:=a2.o.cell;have c5:k=-1:=by
  rcases m with⟨y,bV,h1,Y⟩|⟨rfl,-⟩
  .rw[ic aj.o.perm]at bV;exact absurd h1 (bM _ bV)
  .rfl
 subst c5;have f4:=a2.o.frozen 4;have a4:=a2.o.SS (n+1);have ci:=ag aj.o.len;have eh:pl.length<5000:=by have:=ci.o;omega
 have u:=ag (a4.below ((aJ _ _).alloc (aB _) (.cells #[.int .u32 id,.int .i64 (al.length:Int)] 204)));have bl:Hid (ax (fun k=>k=A) W ((w3.setCell ⟨A,4,none⟩ (.int .i64 (n+1))).alloc (.cells #[.int .u32 id,.int .i64 (al.length:Int)] 204))):=((((ax.refl (fun k=>k=A) W).below aR).set (a:=⟨A,4,none⟩) _ (.inl rfl)).alloc _);have ds:((w3.setCell ⟨A,4,none⟩ (.int .i64 (n+1))).alloc (.cells #[.int .u32 id,.int .i64 (al.length:Int)] 204)).cell? ⟨w3.heap.size,0,none⟩=some (.int .u32 id):=by rw[ek _ _ _ _ aA];rfl
 have x1:((w3.setCell ⟨A,4,none⟩ (.int .i64 (n+1))).alloc (.cells #[.int .u32 id,.int .i64 (al.length:Int)] 204)).cell? ⟨w3.heap.size,1,none⟩=some (.int .i64 (al.length:Int)):=by rw[ek _ _ _ _ aA];rfl
 have bR:w3.heap.size<((w3.setCell ⟨A,4,none⟩ (.int .i64 (n+1))).alloc (.cells #[.int .u32 id,.int .i64 (al.length:Int)] 204)).heap.size:=aA;have dS:W.heap.size<=w3.heap.size:=aR.size;have cA:=ag ds;have cC:=ag x1;have⟨d0,d1,d2,d3,d4⟩:=a4.cell;obtain⟨dn,dm,da,-,-,-⟩:=Rd.aI a4.dL;subst da
 go_upto_region 11 with fail
 generalize((w3.setCell ⟨A,4,none⟩ (.int .i64 (n+1))).alloc (.cells #[.int .u32 id,.int .i64 (al.length:Int)] 204))=ah at*;generalize Value.slice dn al.length dm=M at*
 go_cut []from 61 to 79 (fun D=>∃s r,Hid (dQ D base A Cb bv s r cv bh ch (al++[true]) (pl++[p]) (n+1) N wk)/\Hid (s.ownBlock=pv.ownBlock\/∃b,s.ownBlock=some b/\W.heap.size<=b)/\Hid (r.ownBlock=M.ownBlock\/∃b,r.ownBlock=some b/\W.heap.size<=b)/\Hid (ax (fun k=>k=A\/pv.ownBlock=some k\/M.ownBlock=some k) ah D))
 case first=>
  obtain⟨-,bY,dp,ei,-⟩:=u.o.cell;have dH:∀j,ah.frozen? ⟨A,j,none⟩=false:=u.o.frozen;have dJ:=u.o.lt;have dO:=H.o.lt;have de:∀d,pv.ownBlock=some d->d<ah.heap.size/\d≠A:=fun d e=>⟨(u.o.iF.lt d e).2,fun a7=>bn u.o.iF u.o.blk ai d e a7.symm⟩;have c8:∀d,M.ownBlock=some d->d<ah.heap.size/\d≠A:=fun d e=>⟨(u.o.dL.lt d e).2,fun a7=>bn u.o.dL u.o.blk ai d e a7.symm⟩;have df:∀d,pv.ownBlock=some d->M.ownBlock≠some d:=fun d e e2=>by
   rcases u.o.dL.2 with⟨rfl,_⟩|⟨g,dC,X,rfl,_,aq,_⟩
   .cases e2
   .simp only[Value.ownBlock,ji]at e2;subst e2;exact bn u.o.iF aq ai _ e rfl
  have aF:=ag de;have az:=ag c8;have bk:=ag df;have dX:base<=ah.heap.size:=by have:=bl.o.size;omega
  have cQ:=u.o.blk
  go_region_law (first
   |(refine bC yf base (aT (S:=fun _=>False) u.o.dL (by repeat(first|exact ax.refl _ _|refine ax.drew ?_|refine ax.alloc ?_ _)) (fun _ _ h=>h)) [.bool true] rfl (by simp[Value.oneCell']) rfl (.tmp 66) (.tmp 67) rfl rfl _ rfl (by first|exact lg _ _|exact Dc _ _ _|exact De _ _ _) dD aa (by first|(simp;done)|(simp;omega)) ?_
     intro ak cD b0 cS Z bu dM;have⟨ej,el⟩:=bZ ((ax.refl (fun k=>M.ownBlock=some k) _).grown Z (fun k m=>.inl m)) (b:=A) (by first|(simp;done)|(simp;omega)) (fun e=>(az.o _ e).2 rfl);have dN:A<b0.heap.size:=by(have:=Z.size;simp at this;omega)
     have aS:Hid (ak≠A/\pv.ownBlock≠some ak/\(M.ownBlock=some ak\/W.heap.size<=ak)):=(by
      rcases bu with h9|h9
      .exact⟨(az.o _ h9).2,fun e=>bk.o _ e h9,.inl h9⟩
      .simp at h9;exact⟨aa,fun e=>by(have:=(aF.o _ e).1;omega),.inr aa⟩)
     clear bu)
   |(refine bC nA base (aT (S:=fun k=>M.ownBlock=some k) u.o.iF (by repeat(first|exact ax.refl _ _|refine ax.drew ?_|refine ax.alloc ?_ _|refine ax.grown ?_ Z (fun k m=>.inl m))) (fun d e e2=>bk.o d e e2)) [.int .i64 p] rfl (by simp[Value.oneCell']) rfl (.tmp 72) (.tmp 74) rfl rfl _ rfl (by first|exact cB _ _|(refine(Z.block _ (by first|(simp;done)|(simp;omega)) (fun e=>by have:=(az.o _ e.symm).1;omega)).trans ?_;first|exact lg _ _|exact Dc _ _ _|exact De _ _ _)) dD aa (by have:=Z.size;simp at this |-;omega) ?_
     intro am cF wp cV a8 bx dP;have⟨em,en⟩:=bZ ((ax.refl (fun k=>pv.ownBlock=some k) _).grown a8 (fun k m=>.inl m)) (b:=A) (by have:=Z.size;simp at this |-;omega) (fun e=>(aF.o _ e).2 rfl);have bg:Hid (am≠A/\(pv.ownBlock=some am\/W.heap.size<=am)):=(by
      rcases bx with h9|h9
      .exact⟨(aF.o _ h9).2,.inl h9⟩
      .have P:=Z.size;simp at h9 P;exact⟨aa,.inr aa⟩)
     clear bx))
  all_goals go_wp2_with fail
  all_goals go_meet
  all_goals
   have a0:ax (fun k=>pv.ownBlock=some k\/M.ownBlock=some k) ah wp:=(by repeat(first|exact ax.refl _ _|with_reducible refine ax.drew ?_|with_reducible refine ax.alloc ?_ _|refine ax.grown ?_ a8 (fun k m=>.inl (.inl m))|refine ax.grown ?_ Z (fun k m=>.inl (.inr m))));have cx:ax (fun k=>k=A\/pv.ownBlock=some k) b0 wp:=(by repeat(first|exact ax.refl _ _|with_reducible refine ax.drew ?_|with_reducible refine ax.alloc ?_ _|refine ax.grown ?_ a8 (fun k m=>.inl (.inr m))));have F:=bz a0 cQ (fun e=>e.elim (fun e=>(aF.o _ e).2 rfl) (fun e=>(az.o _ e).2 rfl));refine⟨.slice (some ⟨am,0,none⟩) (pl.length+1) cF,.slice (some ⟨ak,0,none⟩) (al.length+1) cD,u.o.rows (al':=al++[true]) (pl':=pl++[p]) ?_ ?_ ?_ ?_,?_,?_,?_⟩
   .exact((a0.mono (fun k h=>.inr h)).set _ (.inl (.inl rfl))).set _ (.inl (.inl rfl))
   .first|exact sP (sP F rfl) rfl|exact sP (sP F rfl) rfl
   .rw[bS,bL];exact aT (S:=fun k=>k=A) cV (((ax.refl (fun k=>k=A) wp).set (a:=⟨A,_,none⟩) _ (.inl rfl)).set (a:=⟨A,_,none⟩) _ (.inl rfl)) (fun d e e2=>by
     have aL:am=d:=by injection e
     exact bg.o.1 (aL.trans e2))
   .rw[bS,bL];exact aT (S:=fun k=>k=A\/pv.ownBlock=some k) cS ((cx.set _ (.inl (.inl rfl))).set _ (.inl (.inl rfl))) (fun d e e2=>by
     injection e with e;subst e;rcases e2 with e2|e2
     .exact aS.o.1 e2
     .exact aS.o.2.1 e2)
   .rcases bg.o.2 with h9|h9
    .exact .inl h9.symm
    .exact .inr ⟨am,rfl,h9⟩
   .rcases aS.o.2.2 with h9|h9
    .exact .inl h9.symm
    .exact .inr ⟨ak,rfl,h9⟩
   .exact((a0.mono (fun k h=>.inr h)).set _ (.inl (.inl rfl))).set _ (.inl (.inl rfl))
 case rest=>
  have⟨s,r,R,cp,cg,aV⟩:=hcut;obtain⟨w6,cL⟩:∃w6:World,w6=wc:=⟨_,rfl⟩;subst cL;have dK:=H.o.lt;have bK:¬(w3.heap.size=A\/pv.ownBlock=some w3.heap.size\/M.ownBlock=some w3.heap.size):=by
   rintro(h9|h9|h9)
   .omega
   .have:=(H.o.iF.lt _ h9).2;omega
   .have:=(H.o.dL.lt _ h9).2;omega
  have eq:=((bZ aV.o bR bK).1 0).trans cA.o;have y1:=((bZ aV.o bR bK).1 1).trans cC.o;have bm:Hid (ax (oq A Cb bv pv M cv) W w6):=by
   refine(bl.o.mono (fun k h=>.inl h)).trans (W:=W) (w1:=ah) (w2:=w6) ?_;exact aV.o.mono (fun k h=>by
    rcases h with h|h|h
    .exact .inl h
    .exact .inr (.inr (.inr (.inl h)))
    .exact .inr (.inr (.inr (.inr (.inl h)))))
  have bB:=bm.o.size;have⟨dE,dF,e2,aL,dG⟩:=R.o.cell;have a3:Hid (dQ w6.drew base A Cb bv s r cv bh ch (al++[true]) (pl++[p]) (n+1) N wk):=R.o.below (aJ _ _).drew;have cU:0<=N/\N<=100000:=by
   have h1:=aj.o.stored;have Y:=af.2.2.2;omega
  have c1:ch.length<=1000:=by
   have h1:=aj.o.levels.1;simp at h1;omega
  have b1:=ag (QL a3.o.fI (by have:=bB;simp;omega) a3.o.cE id (al.length:Int) cU c1 (by have:=af.2.2.2;omega))
  go_upto_region 12 with fail
  go_cut [10,11]from 80 to 88 (fun dl dq D=>∃(i:Nat) (bc a5:Value) (aK:List lQ) (dr:Int),dl=.int .i64 i/\bc=dq/\i<=ch.length/\Hid (∀j (bI:j<ch.length),j<i->ch[j].2.1≠[])/\Hid (∀hi:i<ch.length,ch[i].2.1=[])/\
   Hid (cZ D base A Cb bv s r a5 bh aK (al++[true]) (pl++[p]) (n+1) (N+1) dr)/\Hid (∀br:World,(∀(b:Nat) X fr,D.heap[b]? =some (Obj.cells X 204 fr)->bc.ownBlock≠some b->br.heap[b]? =D.heap[b]?)->jW br aK)/\Hid (aK.map (·.2.1)=ko (ch.map (·.2.1)) i (id,(al.length:Int)))/\
   Hid (D.ownsRow w6.heap.size 204 2 bc (eG (ch.map (·.2.1)) i++[(id,(al.length:Int))]).length ((eG (ch.map (·.2.1)) i++[(id,(al.length:Int))]).flatMap iL))/\
   Hid (a5.ownBlock=cv.ownBlock\/∃b,a5.ownBlock=some b/\W.heap.size<=b)/\Hid (ax (fun k=>k=Cb\/cv.ownBlock=some k) w6 D)/\Hid (Nw W.heap.size ch aK))
  case first=>
   go_region_with (go_at_call 132;(with_reducible refine b1.o.mono ?_);rintro e G ⟨i,bb,L,K,O,rfl,hi,aO,ap,bF,⟨dh,bQ⟩,bJ,bO,bG,bw,bN,-⟩;have cn:=ag bN;have cl:=ag aO;have cb:=ag ap;have b8:=ag bF;have cs:=ag bQ;have cj:=ag bJ;have co:=ag bO;have be:=ag bG;have ac:=ag bw;clear aO ap bF dh bQ bJ bO bG bw bN)
   all_goals go_wp2_with fail
   all_goals go_meet
   all_goals
    refine⟨i,bb,L,K,O,rfl,rfl,hi,cl,cb,?_,cs,cj,co,?_,?_,Nw.refl.trans cn.o aD⟩
    .exact a3.o.core.add ac.o b8.o (be.o.imp (fun h=>h) .inr)
    .rcases be.o with h9|⟨b,h9,P⟩
     .exact .inl h9
     .exact .inr ⟨b,h9,by simp at P;omega⟩
    .exact((ax.refl _ w6).drew).trans ac.o
  case rest=>
   obtain⟨i,bb,L,K,O,rfl,rfl,hi,ck,ca,au,cr,bj,aE,b9,ac,cm⟩:=hcut;obtain⟨G,cM⟩:∃G:World,G=wc:=⟨_,rfl⟩;subst cM;have b4:Hid (bh.length=ch.length):=ag (by have:=aj.o.perm.1;simpa using this);have dZ:bh.length<=13:=by have:=af.1;simpa using this
   have cw:Hid ((eG (ch.map (·.2.1)) i++[(id,(al.length:Int))]).length<=5001):=by
    show _<=_;rw[bS,(jy _ i).length_eq];have aL:((ch.map (·.2.1)).take i).flatten++((ch.map (·.2.1)).drop i).flatten=(ch.map (·.2.1)).flatten:=by rw[<-kW,jB]
    have cJ:=congrArg List.length aL;rw[bS]at cJ;have:=af.2.2.2;simp only[dY,eZ];omega
   have du:=ag af
   go_upto_block 0 with fail
   go_cut []from 89 to 104 (fun D=>∃(q:Value) (c:List lQ),Hid (cZ D base A Cb q s r L c K (al++[true]) (pl++[p]) (n+1) (N+1) O)/\Hid (c=bh/\i<bh.length\/c=bh++[fG]/\i=bh.length)/\Hid (q.ownBlock=bv.ownBlock\/∃b,q.ownBlock=some b/\G.heap.size<=b)/\Hid (ax (fun k=>k=A\/bv.ownBlock=some k) G D))
   case first=>
    go_wp2_with fail
    go_loopw [] (fun wr=>∃(q:Value) (c:List lQ),Hid (cZ wr base A Cb q s r L c K (al++[true]) (pl++[p]) (n+1) (N+1) O)/\Hid (c=bh/\q=bv/\wr=G\/c=bh++[fG]/\i=bh.length)/\Hid (q.ownBlock=bv.ownBlock\/∃b,q.ownBlock=some b/\G.heap.size<=b)/\Hid (ax (fun k=>k=A\/bv.ownBlock=some k) G wr)) (fun wr=>i+1-yY A wr)
    case atStart=>exact⟨bv,bh,au,.inl ⟨rfl,rfl,rfl⟩,.inl rfl,ax.refl _ _⟩
    case round=>
     have⟨q,c,E,V,aH,ay⟩:=hrel;obtain⟨av,cG,aM,-,d5,-⟩:=Rd.aI (enc:=dR) E.o.gM;obtain⟨-,bs,-⟩:=E.o.cell;by_cases aN:i<c.length
     .have b3:Hid (c=bh/\i<bh.length\/c=bh++[fG]/\i=bh.length):=by
       rcases V.o with⟨h1,-⟩|h1
       .exact .inl ⟨h1,h1▸aN⟩
       .exact .inr h1
      have cI:decide (c.length<=i)=false:=aD;rw[aM]at bs
      go_wp2_with fail
      go_meet;exact⟨q,c,E,b3,aH,ay⟩
     .obtain⟨rfl,rfl,rfl⟩:c=bh/\q=bv/\wr=G:=by
       rcases V.o with h1|⟨h1,Y⟩
       .exact h1
       .rw[h1]at aN;simp at aN;omega
      have c3:i=c.length:=by have:=b4.o;omega
      subst c3;have cI:decide (c.length<=c.length)=true:=aA;have Q:=E.o.gM;have dt:Hid (wr.heap[A]? =some (Obj.cells #[.pointer (some ⟨Cb,0,none⟩),q,s,r,.int .i64 (n+1)] 207 (0,0))):=E.o.blk;have b5:Hid (∀C,wr.grownBy C q.ownBlock->C.heap[A]? =some (Obj.cells #[.pointer (some ⟨Cb,0,none⟩),q,s,r,.int .i64 (n+1)] 207 (0,0))):=fun C ab=>bz ((ax.refl (fun k=>q.ownBlock=some k) wr).grown ab (fun k m=>.inl m)) E.o.blk (fun e=>bn E.o.gM E.o.blk ai _ e rfl);have cY:base<=wr.heap.size:=by have:=ac.o.size;omega
      subst aM
      go_wp2_with (at_builtin;go_loud (refine bW Ku base Q [.slice none 0 0] rfl (by simp[Value.oneCell']) rfl _ _ rfl rfl _ rfl dD aa cY ?_;intro ep C bP ab cX;obtain⟨cP,cH,rfl,d8,d9,ea,eb⟩:=aU bP aa;have bX:=b5.o C ab;have bY:C.cell? ⟨A,1,none⟩=some (.slice av c.length cG):=(aG bX);have dp:C.frozen? ⟨A,1,none⟩=false:=(aG bX)))
      have dd:C.ownsRow base 209 1 (.slice (some ⟨cP,0,none⟩) (c.length+1) cH) (c++[fG]).length ((c++[fG]).map dR):=by
       rw[bS,bL];exact bP
      have an:=fQ cX;have ao:=E.o.PT ab dd (an.imp (fun h=>h) .inr);go_roundw
      case rel=>
       refine⟨_,c++[fG],ao,.inr ⟨rfl,by first|rfl|trivial⟩,an,(ay.o.grown ab (fun k m=>.inl (.inr m))).set (a:=⟨A,1,none⟩) _ (.inl (.inl rfl))⟩
      case measure=>
       rw[ao.yY,E.o.yY];simp
   case rest=>
    have⟨q,c,E,V,aH,ay⟩:=hcut;obtain⟨C,cN⟩:∃C:World,C=wc:=⟨_,rfl⟩;subst cN;have ed:i<c.length:=by
     rcases V.o with⟨h1,Y⟩|⟨h1,Y⟩
     .rw[h1];exact Y
     .rw[h1];simp;omega
    have ee:c.length<=14:=by
     rcases V.o with⟨h1,Y⟩|⟨h1,Y⟩
     .rw[h1];omega
     .rw[h1];simp;omega
    obtain⟨f,ad,aM,d6,d7,-,-⟩:=aU E.o.gM aa;subst aM;have b6:Hid (cZ C base A Cb (.slice (some ⟨f,0,none⟩) c.length ad) s r L (CZ c 0) K (al++[true]) (pl++[p]) (n+1) (N+1) O):=E.o;have ec:(0:Int)<=(i:Int):=aa
    go_upto_block 2 with fail
    go_cut []from 106 to 115 (fun D=>Hid (cZ D base A Cb (.slice (some ⟨f,0,none⟩) c.length ad) s r L (CZ c i) K (al++[true]) (pl++[p]) (n+1) (N+1) O)/\Hid (ax (fun k=>k=f) C D))
    case first=>
     go_wp2_with fail
     go_loopw [106] (fun ba wr=>∃k:Nat,ba=.int .i64 k/\k<=i/\Hid (cZ wr base A Cb (.slice (some ⟨f,0,none⟩) c.length ad) s r L (CZ c k) K (al++[true]) (pl++[p]) (n+1) (N+1) O)/\Hid (ax (fun k=>k=f) C wr)) (fun ba _=>i-(intOf ba).toNat)
     case atStart=>exact⟨0,rfl,aX _,b6,ax.refl _ _⟩
     case round=>
      obtain⟨k,rfl,ef,aw,bi⟩:=hrel;by_cases aN:k<i
      .have Q:=aw.o.gM;have ae:(CZ c k).length=c.length:=Fv aa;rw[ae]at Q;have ar:=Q.cellAt k aa;rw[cz (show k<((CZ c k).map dR).length by rw[bT];omega)]at ar;generalize((CZ c k).map dR)[k]'(by rw[bT];omega)=zv at ar;have dI:=Q.frozenAt k;obtain⟨-,bs,-⟩:=aw.o.cell;have cu:Hid (cZ (wr.setCell ⟨f,k,none⟩ (.slice none 0 0)) base A Cb (.slice (some ⟨f,0,none⟩) c.length ad) s r L (CZ c (k+1)) K (al++[true]) (pl++[p]) (n+1) (N+1) O):=by
        have h9:=aw.o.U0 ae.symm k fG;rw[Rx aa]at h9;exact h9
       have c9:(k:Int)<(c.length:Int):=aa
       go_wp2_with fail
       go_roundw
       case rel=>exact⟨k+1,by go_num,aa,cu,bi.o.set (a:=⟨f,k,none⟩) _ (.inl rfl)⟩
       case measure=>exact dU
      .obtain rfl:k=i:=aa
       go_wp2_with fail
       go_meet;exact⟨aw,bi⟩
    case rest=>
     have⟨bf,cf⟩:=hcut;obtain⟨U,cO⟩:∃U:World,U=wc:=⟨_,rfl⟩;subst cO;generalize cT:eG (ch.map (·.2.1)) i++[(id,(al.length:Int))]=I at*;have cd:=ag cT;have aY:Hid (ax (fun k=>k=A\/bv.ownBlock=some k) G U):=by
      refine ax.strip ((ay.o.mono (fun k h=>.inl h)).trans (cf.o.mono (fun k h=>?_)));rcases aH.o with h9|⟨b,h9,P⟩
      .exact .inl (.inr (by rw[<-h9,h];rfl))
      .have cR:f=b:=by injection h9
       exact .inr aa
     have a1:U.ownsRow w6.heap.size 204 2 bb I.length (I.flatMap iL):=aT aE.o aY.o (fun d e=>by
      rintro(h9|h9)
      .exact bn aE.o au.o.blk ai d e h9.symm
      .exact bA au.o.gM aE.o ai d h9 e)
     have dk:w6.heap.size<=U.heap.size:=bD ac.o.size aY.o.size;obtain⟨v,B,cK,-,c0,-⟩:=LZ.aI a1;subst cK;have b7:=ag c0;have ST:=ag (xw (w:=U.drew) (base:=w6.heap.size) rfl (by have:=cw.o;omega) (a1.bq 1) dk);have cy:Calls prog 133 #[.slice v I.length B] U.drew fun e J=>∃(l':List je) (z:Value),e=.returned (.slice v I.length B)/\Hid (l'.Perm I)/\Hid (l'.Pairwise (fun x y=>x.1<=y.1))/\Hid (LZ J v l')/\
       Hid (cZ J base A Cb (.slice (some ⟨f,0,none⟩) c.length ad) s r L (CZ c i) K (al++[true]) (pl++[p]) (n+1) (N+1) O)/\Hid (ax (fun k=>Value.ownBlock (.slice v I.length B)=some k) U J)/\
       J.cell? ⟨A,1,none⟩=some (.slice (some ⟨f,0,none⟩) c.length ad)/\J.cell? ⟨f,i,none⟩=some z/\J.frozen? ⟨f,i,none⟩=false:=by
      refine ST.o.mono ?_;rintro e J ⟨rfl,l',hp,di,db,ab⟩;have ao:=(bf.o.below (aJ _ _).drew).Wj (a1.bq 1) ab;have Q:=ao.gM;have ae:(CZ c i).length=c.length:=Fv aa;rw[ae]at Q;have ar:=Q.cellAt i aa;rw[cz (show i<((CZ c i).map dR).length by rw[bT];omega)]at ar;have dc:J.ownsRow w6.heap.size 204 2 (.slice v I.length B) l'.length (l'.flatMap iL):=by rw[hp.length_eq];exact db
      obtain⟨dv,dB,a6,-,dg⟩:=LZ.aI dc;injection a6 with a6 _ _;subst a6;exact⟨l',_,rfl,hp,di,dg.2,ao,((ax.refl _ U).drew).grown ab (fun k m=>.inl m),ao.cell.2.1,ar,Q.frozenAt i⟩
     have c9:(i:Int)<(c.length:Int):=aa;obtain⟨-,eo,-⟩:=bf.o.cell
     go_upto_region 20 with fail
     go_region_with (go_at_call 133;(with_reducible refine cy.mono ?_);rintro e J ⟨l',z,rfl,aW,ct,cq,bd,ce,bY,er,f10⟩)
     all_goals go_wp2_with fail
     all_goals go_ret
     all_goals
      have c7:Value.slice v I.length B=dR (v,l',B):=by unfold dR;simp only;rw[aW.o.length_eq]
      rw[c7];have ae:(CZ c i).length=c.length:=Fv aa;have bH:bv.ownBlock=some f\/G.heap.size<=f:=by
       rcases aH.o with h9|⟨b,h9,P⟩
       .exact .inl h9.symm
       .have cR:f=b:=by injection h9
        exact .inr aa
      have dT:W.heap.size<=G.heap.size:=bD bB ac.o.size;have bU:∀k,Value.ownBlock (.slice v I.length B)=some k->w6.heap.size<=k:=fun k h=>(aE.o.lt k h).1;have bp:ax (fun k=>(k=A\/bv.ownBlock=some k)\/Value.ownBlock (.slice v I.length B)=some k) G (J.setCell ⟨f,i,none⟩ (dR (v,l',B))):=
       ((aY.o.mono (fun k h=>.inl h)).trans (ce.o.mono (fun k h=>.inr h))).set (a:=⟨f,i,none⟩) _ (by
        rcases bH with h9|h9
        .exact .inl (.inl (.inr h9))
        .exact .inr h9)
      have bo:ax (fun k=>((k=Cb\/cv.ownBlock=some k)\/(k=A\/bv.ownBlock=some k))\/w6.heap.size<=k) w6 (J.setCell ⟨f,i,none⟩ (dR (v,l',B))):=
       (ac.o.mono (fun k h=>.inl (.inl h))).trans (bp.mono (fun k h=>by
        rcases h with h|h
        .exact .inl (.inr h)
        .exact .inr (bU k h)))
      have ap:∀h:i<(ch.map (·.2.1)).length,(ch.map (·.2.1))[i]=[]:=fun h=>by
       have:=ca.o (aP h);simpa using this
      refine⟨.slice (some ⟨f,0,none⟩) c.length ad,s,r,L,(CZ c i).set i (v,l',B),K,O,rfl,(bd.o.U0 ae.symm i (v,l',B)).rep ?_ ?_,?_,?_,?_,?_,?_,cm.o⟩
      .intro h aq;rcases K7 V.o aq with rfl|rfl|h1
       .obtain⟨X,c2⟩:=zW (k:=c.length) (by have h9:=bd.o.gM;rw[ae]at h9;exact h9);exact⟨cq.o.kept fun b X fr F=>aC (dV c2 F ai),by show l'.length<=B;rw[aW.o.length_eq];exact b7.o⟩
       .exact⟨.inl rfl,aB _⟩
       .refine⟨(R.o.bE h h1).1.kept fun b X fr F=>R.o.core.eX (T:=fun k=>w6.heap.size<=k) (bo.mono (fun k h=>?_)) b X fr F (by have:=(aZ.1 F).1;omega),(R.o.bE h h1).2⟩;rcases h with((h|h)|(h|h))|h
        .exact .inl (.inr (.inl h))
        .exact .inl (.inr (.inr (.inr (.inr (.inr h)))))
        .exact .inl (.inl h)
        .exact .inl (.inr (.inr (.inl h)))
        .exact .inr h
      .refine cr.o _ fun b X fr F aO=>au.o.eX (T:=fun k=>Value.ownBlock (.slice v I.length B)=some k) (bp.mono (fun k h=>?_)) b X fr F aO;rcases h with(h|h)|h
       .exact .inl (.inl h)
       .exact .inl (.inr (.inr (.inl h)))
       .exact .inr h
      .rw[bj.o,Ry V.o];refine Oy aj.o id p bM dj i (aP hi) (fun j bI c4=>?_) ap l' (by rw[cd.o];exact aW.o) ct.o;have:=ck.o j (aP bI) c4;simpa using this
      .rw[bj.o];exact tL _ i _ ap
      .rintro k (h|h|h|h|h|h)
       .exact .inl (.inl h)
       .exact .inl (.inr (.inl h))
       .rcases bH with h9|h9
        .exact .inl (.inr (.inr (.inl (h9.trans h))))
        .have P:f=k:=by injection h
         exact .inr aa
       .rcases cp.o with h9|⟨b,h9,P⟩
        .exact .inl (.inr (.inr (.inr (.inl (h9.symm.trans h)))))
        .have bt:b=k:=by rw[h9]at h;injection h
         exact .inr aa
       .rcases cg.o with h9|⟨b,h9,P⟩
        .exact .inl (.inr (.inr (.inr (.inr (.inl (h9.symm.trans h))))))
        .have bt:b=k:=by rw[h9]at h;injection h
         exact .inr aa
       .rcases b9.o with h9|⟨b,h9,P⟩
        .exact .inl (.inr (.inr (.inr (.inr (.inr (h9.symm.trans h))))))
        .have bt:b=k:=by rw[h9]at h;injection h
         exact .inr aa
      .refine ax.strip ((bm.o.mono (fun k h=>.inl h)).trans (bo.mono (fun k h=>?_)));rcases h with((h|h)|(h|h))|h
       .exact .inl (.inr (.inl h))
       .exact .inl (.inr (.inr (.inr (.inr (.inr h)))))
       .exact .inl (.inl h)
       .exact .inl (.inr (.inr (.inl h)))
       .exact .inr aa
      .intro h aq;rcases K7 V.o aq with rfl|rfl|h1
       .exact .inr fun a a9=>by
         have:=bU a.block (by rw[show v=some a from a9];rfl);omega
       .exact .inr fun a a9=>by cases a9
       .exact .inl h1
end
section
variable {W:World} {base A Cb:Nat} {bv pv lv cv:Value} {bh ch:List lQ} {al:List Bool} {pl:List Int} {n N wk:Int}
def kg (al:List Bool) (CB:List (List je)) (m:Nat):List je:=((CB.drop m).reverse.flatten).filter (dH al)
theorem M8 (al:List Bool) (CB:List (List je)):kg al CB CB.length=[]:=by unfold kg;rw[List.drop_length];rfl
theorem JW (al:List Bool) (CB:List (List je)) (k:Nat) (h:k<CB.length):kg al CB k=kg al CB (k+1)++CB[k].filter (dH al):=by
 unfold kg;rw[jJ h,Aw,kW,kX];simp
theorem M9 (al:List Bool) (CB:List (List je)) (m:Nat):(kg al CB m).length<=CB.flatten.length:=by
 unfold kg;refine bD (gT _ _) ?_;rw[((uM (CB.drop m)).flatten).length_eq];have a:(CB.take m).flatten++(CB.drop m).flatten=CB.flatten:=by rw[<-kW,jB]
 have:=congrArg List.length a;rw[bS]at this;omega
def JX (Vh Vv:List lQ):Prop:=Vh.length<=Vv.length/\∀(j:Nat) (h:j<Vh.length) (h':j<Vv.length),Vh[j].2.1.Perm Vv[j].2.1/\Vh[j].2.1.Pairwise (fun x y=>x.1<=y.1)
theorem JX.step {a b:List lQ} (h:JX a b) {hd:lQ} (hi:a.length<b.length) (hp:hd.2.1.Perm b[a.length].2.1) (g:hd.2.1.Pairwise (fun x y=>x.1<=y.1)):JX (a++[hd]) b:=by
 refine⟨aD,fun j d e=>?_⟩;by_cases c:j<a.length
 .rw[qF c];exact h.2 j c e
 .have f:j=a.length:=by simp at d;omega
  subst f;rw[vX aa];simp only[kZ,rq];exact⟨hp,g⟩
theorem JX.done {a b:List lQ} (h:JX a b) (g:a.length=b.length):Gq (a.map (·.2.1)) (b.map (·.2.1))/\∀l∈a.map (·.2.1),l.Pairwise fun p q=>p.1<=q.1:=by
 refine⟨⟨aP g,fun i c d=>?_⟩,fun l k=>?_⟩
 .rw[fM,fM];exact(h.2 i (aP c) (aP d)).1
 .obtain⟨hd,e,rfl⟩:=dh.1 k;obtain⟨j,f,rfl⟩:=jb e;exact(h.2 j f aa).2
def U1 (W:World) (base A Cb:Nat) (bv pv lv cv:Value) (ch:List lQ) (al:List Bool) (pl:List Int) (n:Int) (e:Ending) (w':World):Prop:=
 ∃(R8 Cz:Value) (bh' qP:List lQ) (N' Kj:Int),e=.returned (.tuple #[])/\dQ w' base A Cb R8 pv lv Cz bh' qP al pl n N' Kj/\qY (qP.map (·.2.1)) (bh'.map (·.2.1)) al pl n N'/\
  (∀id p,jg (qP.map (·.2.1)).flatten al pl id p↔jg (ch.map (·.2.1)).flatten al pl id p)/\(∀k,oq A Cb R8 pv lv Cz k->oq A Cb bv pv lv cv k\/W.heap.size<=k)/\ax (oq A Cb bv pv lv cv) W w'/\Nw W.heap.size [] bh'/\Nw W.heap.size [] qP
theorem C8:gF 210:=di func210 aO rfl
theorem C9:gF 133:=di func133 aO rfl
theorem RA (h:dQ W base A Cb bv pv lv cv bh ch al pl n N wk) (dy:base<=W.heap.size) (R:wV (ch.map (·.2.1)) (bh.map (·.2.1)) al pl n N):
  Calls prog 138 #[.pointer (some ⟨A,0,none⟩)] W (U1 W base A Cb bv pv lv cv ch al pl n):=by
 have H:=ag h;have aK:=ag R;have b2:=R.SY;have dC:ch.length<=13:=by have:=R.levels.1;simpa using this
 have Z:Hid (∀m,(kg al (ch.map (·.2.1)) m).length<=5000):=fun m=>bD (M9 _ _ _) b2.2.2.2;have I:=ag (BB h.fI aa);have dz:=R.bound;obtain⟨aV,-⟩:=h.cell;clear h R b2;go_enter func138,ntmps138
 go_wp2_with fail
 refine I.o.mono ?_;rintro e w2 ⟨rfl,ae⟩;have aO:=ag (H.o.below ae);have da:=ae.size;have cp:=ag ae;clear aV I ae
 go_upto_block 0 with fail
 go_cut [2,3,5]from 13 to 40 (fun U z dq cj=>∃lw:Value,lw=U/\Hid (cj.ownsRow w2.heap.size 204 2 lw (kg al (ch.map (·.2.1)) 0).length ((kg al (ch.map (·.2.1)) 0).flatMap iL))/\Hid (Below w2.heap.size w2 cj))
 case first=>
  go_wp2_with fail
  go_loopw [3,2] (fun z U wr=>∃(m:Nat) (lw:Value),z=.int .i64 ((m:Int)-1)/\lw=U/\m<=ch.length/\Hid (wr.ownsRow w2.heap.size 204 2 lw (kg al (ch.map (·.2.1)) m).length ((kg al (ch.map (·.2.1)) m).flatMap iL))/\Below w2.heap.size w2 wr) (fun z _ _=>(intOf z+1).toNat)
  case atStart=>exact⟨ch.length,_,by go_num,rfl,aB _,by have:=M8 al (ch.map (·.2.1));rw[bT]at this;rw[this];exact dw _ _ _ _,aJ _ _⟩
  case round=>
   obtain⟨m,lw,rfl,rfl,dV,HO,g⟩:=hrel;rcases qL m with zG|zG
   .subst zG;have dE:¬(0:Int)<=((0:Nat):Int)-1:=aa;have ar:=ag g
    go_wp2_with fail
    go_meet;exact⟨_,rfl,HO,ar⟩
   .obtain⟨k,rfl⟩:∃k,m=k+1:=⟨m-1,aa⟩;have c6:(((k+1:Nat):Int)-1)=(k:Int):=aa;rw[c6];have dK:(0:Int)<=(k:Int):=aa;have c5:k<(ch.map (·.2.1)).length:=by rw[bT];omega
    have bz:=ag (JW al (ch.map (·.2.1)) k c5);have aS:=ag (aO.o.below g);obtain⟨aV,-⟩:=aS.o.cell;have a7:k<ch.length:=aa;have d2:ch[k].2.1.length<=5000:=by
     have:=aK.o.SY.2.2.2;have C:=qx (l:=ch[k].2.1) (CB:=ch.map (·.2.1)) (dh.2 ⟨_,bB a7,rfl⟩);omega
    have cA:Hid (∀x∈ch[k].2.1,∃k:Nat,x.2=(k:Int)/\k<al.length):=fun x dd=>aK.o.vI x (pz.2 ⟨_,dh.2 ⟨_,bB a7,rfl⟩,dd⟩);have CB:=ag (BC aS.o.fI aS.o.cE aa k a7 aa);have cN:Hid (kg al (ch.map (·.2.1)) k=kg al (ch.map (·.2.1)) (k+1)++ch[k].2.1.filter (dH al)):=by
     have:=bz.o;rw[fM]at this;exact this
    clear bz;generalize ch[k].2.1=lk at*;have dP:=Z.o (k+1);have dk:=ag (Z.o k);generalize kg al (ch.map (·.2.1)) (k+1)=L at*;obtain⟨aq,cX⟩:∃aq:World,aq=wr:=⟨_,rfl⟩;subst cX;have ar:=ag g;have cd:=g.size;clear g
    go_wp2_with fail
    refine CB.o.mono ?_;rintro e w3 ⟨dj,rfl,D,af⟩;have db:=af.size;have E:Hid (Below w2.heap.size w2 w3):=ar.o.trans (af.mono cd);have cC:=ag (az HO.o af);have cL:Hid (∀f,dj.ownBlock=some f->lw.ownBlock≠some f):=fun f e F=>by
     have h1:=(D.lt f e).1;have C:=(HO.o.lt f F).2;omega
    have cD:=ag D;obtain⟨bG,P,aZ,-,-,-⟩:=LZ.aI D;subst aZ;clear D af aV;have dO:lk.length<=9223372036854775807:=aa;have dB:w2.heap.size<=w3.heap.size:=aa;clear CB
    go_wp2_with fail
    go_loopw [24,2] (fun ba U wr=>∃(j:Nat) (ap:Value),ba=.int .i64 j/\ap=U/\j<=lk.length/\Hid (wr.ownsRow w2.heap.size 204 2 ap (L++(lk.take j).filter (dH al)).length ((L++(lk.take j).filter (dH al)).flatMap iL))/\Hid (wr.ownsRow aq.heap.size 204 2 (.slice bG lk.length P) lk.length (lk.flatMap iL))/\Hid (∀f,Value.ownBlock (.slice bG lk.length P)=some f->ap.ownBlock≠some f)/\Below w2.heap.size w2 wr) (fun ba _ _=>lk.length-(intOf ba).toNat)
    case atStart=>exact⟨0,_,rfl,rfl,aX _,by rw[xS,Eu,iJ];exact cC,cD,cL,E.o⟩
    case round=>
     obtain⟨j,ap,rfl,rfl,dG,aw,ay,aF,ah⟩:=hrel;have dc:=ah.size;by_cases ak:j<lk.length
     .obtain⟨dn,dp,aY,-,-,b9⟩:=LZ.aI ay.o;injection aY with aY _ aZ;subst aY aZ;obtain⟨aU,bb,bH,dA,a4⟩:=b9.Nu.get aa;have ck:=a4 j ak 0 aa;have x1:=a4 j ak 1 aa;simp only[iL,fw,fD,dx]at ck x1;obtain⟨q,ao,b7⟩:=cA.o lk[j] (bB ak);have aR:=aO.o.below ah;obtain⟨d5,lc,bK,-,-,b8⟩:=Rd.aI aR.dL;obtain⟨lb,lo,bJ,dN,b1⟩:=b8.get aa;have cl:=b1 q b7;obtain⟨-,-,-,cm,-⟩:=aR.cell;have O:Hid (L++(lk.take (j+1)).filter (dH al)=(L++(lk.take j).filter (dH al))++(if al[q]=true then[lk[j]]else[])):=by
       show _=_;rw[gW ak,kX,<-dX];congr 1;unfold dH;rw[lY,ao];simp only[ib,cz b7];cases al[q]<;>simp
      have dJ:(L++(lk.take j).filter (dH al)).length<=5000+5000:=by
       rw[bS];have h1:=gT (dH al) (lk.take j);have C:(lk.take j).length<=lk.length:=by rw[eQ];omega
       omega
      have cg:(lk[j]).2=(q:Int):=ao;rw[ao]at x1;have bj:=ag bH;have bk:=ag bJ;have bl:=ag bK;have aL:=ag cg;have dl:Hid (lk.length=lk.length):=ag rfl;clear a4 bH b1 bJ bK ao cg b8 b9 aR;generalize cY:L++(lk.take j).filter (dH al)=dm at*;generalize c2:al[q]=cS at*;generalize lk[j]=x at*;obtain⟨r,ef⟩:=x;simp only at ck x1 O aL;obtain rfl:=aL.o;obtain rfl:=bj.o;obtain rfl:=bk.o;obtain rfl:=bl.o;clear bj bk bl aL c2 cY;have dI:(j:Int)<(lk.length:Int):=aa;have dW:(q:Int)<(al.length:Int):=aa;have X:Below wr.heap.size wr (wr.alloc (.cells #[.int .u32 r,.int .i64 (q:Int)] 204)):=(aJ _ _).alloc (aB _) _;have bc:(wr.alloc (.cells #[.int .u32 r,.int .i64 (q:Int)] 204)).cell? ⟨wr.heap.size,0,none⟩=some (.int .u32 r):=by rw[ek _ _ _ _ rfl];rfl
      have df:(wr.alloc (.cells #[.int .u32 r,.int .i64 (q:Int)] 204)).cell? ⟨wr.heap.size,1,none⟩=some (.int .i64 (q:Int)):=by rw[ek _ _ _ _ rfl];rfl
      have eg:=(X.cell (p:=⟨lb,lo+q,none⟩) (gY wr _ cl)).trans cl;have eh:=(X.cell (p:=⟨A,3,none⟩) (gY wr _ cm)).trans cm;have aC:=ag ((aw.o.alloc (.cells #[.int .u32 r,.int .i64 (q:Int)] 204)).bq 1);have bw:=ag ((ay.o.alloc (.cells #[.int .u32 r,.int .i64 (q:Int)] 204)).bq 1);have bm:=ag ((ah.alloc dc (.cells #[.int .u32 r,.int .i64 (q:Int)] 204)).drew);cases cS
      .rw[aM ai,iJ]at O;clear X;go_wp2;go_region
       all_goals
        go_wp2;go_roundw
        case rel=>exact⟨j+1,_,by go_num,rfl,aa,by rw[O.o];exact aC,bw,aF,bm.o⟩
        case measure=>exact dU
      .rw[aN rfl]at O;clear X;go_wp2;go_region;have ec:((wr.alloc (.cells #[.int .u32 r,.int .i64 (q:Int)] 204)).drew).cell? ⟨wr.heap.size,0,none⟩=some (.int .u32 r):=bc;have ed:((wr.alloc (.cells #[.int .u32 r,.int .i64 (q:Int)] 204)).drew).cell? ⟨wr.heap.size,1,none⟩=some (.int .i64 (q:Int)):=df
       go_wp2_with (at_builtin;refine bW Gm w2.heap.size aC.o [.int .u32 r,.int .i64 q] rfl (by simp[Value.oneCell']) rfl _ _ rfl rfl _ (by show Value.slice (some ⟨wr.heap.size+1,0,none⟩) 1 1=_;simp) dD aa aD ?_;intro dg w6 c8 b0 c3)
       have cR:Below w2.heap.size w2 w6:=bm.o.grown b0 aD (fun b e=>(aC.o.lt b e).1);have cF:Hid (w6.ownsRow aq.heap.size 204 2 (.slice (some ⟨aU,bb,none⟩) lk.length P) lk.length (lk.flatMap iL)):=by
        refine bw.o.kept b0 ?_;rcases Ih (Value.ownBlock (.slice (some ⟨aU,bb,none⟩) lk.length P))with h9|⟨f,h9⟩
        .exact .inl h9
        .exact .inr (fun e=>aF.o f h9 (e.symm.trans h9))
       have cM:Hid (∀f,Value.ownBlock (.slice (some ⟨aU,bb,none⟩) lk.length P)=some f->dg.ownBlock≠some f):=fun f e F=>by
        have h1:=(ay.o.lt f e).2;rcases fQ c3 with h9|⟨b,h9,ad⟩
        .exact aF.o f e (h9.symm.trans F)
        .rw[h9]at F;injection F with F;simp at ad;omega
       go_roundw
       case rel=>exact⟨j+1,_,by go_num,rfl,aa,by rw[O.o,bS,gZ];exact c8,cF,cM,cR⟩
       case measure=>exact dU
     .obtain rfl:j=lk.length:=aa;rw[jk,<-cN.o]at aw;go_wp2;go_roundw
      case rel=>exact⟨k,_,by go_num,rfl,aa,aw,ah⟩
      case measure=>simp[intOf]
 case rest=>
  obtain⟨lw,rfl,br,au⟩:=hcut;obtain⟨w3,cW⟩:∃w3:World,w3=wc:=⟨_,rfl⟩;subst cW;have aQ:=ag (aO.o.below au.o);have E:=ag (cp.o.trans (au.o.mono da));have dM:=Z.o 0;obtain⟨cQ,cT,cU,-,bR,ca⟩:=LZ.aI br.o;subst cU;have bi:=ag (QN aQ.o.fI (by have:=E.o.size;omega) cQ (kg al (ch.map (·.2.1)) 0) cT ca bR aa);obtain⟨ci,-⟩:=aQ.o.cell;have bs:Hid (kg al (ch.map (·.2.1)) 0=((ch.map (·.2.1)).reverse.flatten).filter (dH al)):=ag (by unfold kg;rw[lK]);generalize kg al (ch.map (·.2.1)) 0=L at*;clear ca bR au Z br
  go_wp2_with fail
  refine bi.o.mono ?_;rintro e w4 ⟨aW,d,bg,rfl,bV,cc,an,a5,a0,b3,-⟩;have J:=ag (aQ.o.core.add (a0.mono (fun k h=>.inl h)) bV (.inr a5));have bx:=ag cc;have cy:=ag b3;have bt:=ag an;have cP:=ag a5;have av:=ag a0;have du:d.length<=14:=by
   have h1:=congrArg List.length an;rw[eu,bT]at h1;have C:=fu (a:=L.length) (b:=5000) aa ai;have dr:Lib.bitLen 5000<=14:=ai;omega
  have bA:Hid (∀h∈d,h.2.1.length<=5000):=fun h Q=>by
   have h1:=qx (l:=h.2.1) (CB:=d.map (·.2.1)) (dh.2 ⟨_,Q,rfl⟩);rw[an]at h1;have C:L.length<2^Lib.bitLen L.length:=by
    by_cases bM:L.length=0
    .rw[bM];decide
    .exact(bI _ aa bM).2.2
   rw[(kP _ L C).length_eq]at h1;omega
  obtain⟨-,de,-⟩:=J.o.cell;have f1:=J.o.frozen 1;clear bV cc an a5 a0 ci bi b3;have Y:Hid (cZ (w4.setCell ⟨A,1,none⟩ (.slice none 0 0)) base A Cb (.slice none 0 0) pv lv aW [] d al pl n L.length bg):=J.o.PT (bh':=[]) (bN (aJ _ _)|>fun h=>⟨h.os,h.tape,h.output,h.size,fun k G _=>rfl⟩) (dw _ _ _ _) (.inr (.inl rfl));have bo:Hid (ax (fun k=>k=A) w4 (w4.setCell ⟨A,1,none⟩ (.slice none 0 0))):=(ax.refl (fun k=>k=A) w4).set (a:=⟨A,1,none⟩) _ (.inl rfl);have I:=ag (BB Y.o.fI aa);obtain⟨bc,-⟩:=Y.o.cell
  go_wp2_with fail
  generalize w4.setCell ⟨A,1,none⟩ (.slice none 0 0)=ee at*;refine I.o.mono ?_;rintro e w6 ⟨rfl,a1⟩;have cs:=ag (Y.o.below a1);have cx:Hid (ax (fun k=>k=A) w4 w6):=bo.o.below a1;clear bc de f1 I a1 Y bo
  go_wp2_with fail
  go_loopw [55] (fun z wr=>∃(s:Value) (c:List lQ),z=.int .i64 c.length/\Hid (cZ wr base A Cb s pv lv aW c d al pl n L.length bg)/\Hid (JX c d)/\Hid (Nw W.heap.size [] c)/\Hid (jW wr c)/\Hid (s.ownBlock=none\/∃b,s.ownBlock=some b/\w4.heap.size<=b)/\Hid (ax (fun k=>k=A) w4 wr)) (fun z _=>d.length-(intOf z).toNat)
  case atStart=>exact⟨.slice none 0 0,[],rfl,cs,⟨aX _,fun j h=>absurd h (kC _)⟩,Nw.Sw (k:=0),(fun h Q=>absurd Q iA),.inl rfl,cx⟩
  case round=>
   obtain⟨s,c,rfl,i,aG,bu,aE,aH,K⟩:=hrel;by_cases am:c.length<d.length
   .have cI:Hid (jW wr d):=bx.o.kept fun b v fr g=>J.o.eX (T:=fun _=>False) (K.o.mono fun k h=>.inl (.inl h)) b v fr g (fun h=>h);have cn:=ag (BC (W:=wr.drew) (i.o.below (aJ _ _).drew).fI (cI.o.kept fun b v fr g=>rfl) aa c.length am (bD (bA.o _ (bB am)) ai));have cO:Hid (∀hd:lQ,hd.2.1.Perm d[c.length].2.1->hd.2.1.Pairwise (fun x y=>x.1<=y.1)->JX (c++[hd]) d):=fun hd h1 C=>aG.o.step am h1 C;have d1:=bA.o _ (bB am);generalize d[c.length].2.1=lb at*;obtain⟨ci,d3,-⟩:=i.o.cell;have d4:∀o,wr.frozen? ⟨A,o,none⟩=false:=i.o.frozen;have bO:=i.o.lt;have dS:(c.length:Int)<(d.length:Int):=aa;have dZ:=K.o.size;have dv:W.heap.size<=w4.heap.size:=bD E.o.size av.o.size;have c7:Hid (s.ownBlock≠some A):=fun e=>bn i.o.gM i.o.blk ai _ e rfl
    go_wp2_with fail
    go_region_law (first
     |(refine bf (vals:=#[.pointer (some ⟨Cb,0,none⟩),.int .i64 c.length]) C8 rfl _ _ rfl rfl cn.o ?_
       rintro e bd ⟨di,rfl,b5,a2⟩;refine⟨_,rfl,?_⟩;have cf:=a2.size;have ds:A<bd.heap.size:=(by(have h9:wr.heap.size<=bd.heap.size:=cf);omega);obtain⟨d8,d9⟩:=bZ ((ax.refl (fun _=>False) wr.drew).below a2) (b:=A) bO (fun h=>h))
     |(refine bf (vals:=#[di]) C9 rfl _ _ rfl rfl (xw (w:=bd) (base:=wr.heap.size) rfl aa b5 cf) ?_
       rintro e V ⟨rfl,l',b6,ce,a8,c4⟩;refine⟨_,rfl,?_⟩;have cH:=ag b6;have cK:=ag ce;have ab:ax (fun _=>False) wr V:=ax.strip (((ax.refl _ wr).drew.below a2).grown c4 (fun k G=>.inl (.inr (b5.lt k G).1)));have M:=ag ab;obtain⟨ea,eb⟩:=bZ ab (b:=A) bO (fun h=>h);have dY:=ab.size;have dt:A<V.heap.size:=aa;obtain⟨t,u,cV,-,bU,cb⟩:=LZ.aI a8;have ct:=ag bU;have cJ:=ag cb;subst cV;have co:Hid (∀a,t=some a->W.heap.size<=a.block):=fun a c1=>(by have h1:=(a8.lt a.block (by rw[c1];rfl)).1;omega);clear b6 ce ab a8 bU cb)
     |(refine bC Ku base (aT (S:=fun _=>False) i.o.gM (M.o.alloc _) (fun _ _ h=>h)) [.slice t l'.length u] rfl (by simp[Value.oneCell']) rfl (.tmp 62) (.tmp 70) rfl rfl _ rfl (by first|exact cB _ _|exact lg _ _) dD aa aD ?_
       intro B ac be D a6 bQ dT;have cG:=ag D;have cr:=ag bQ;obtain⟨d6,d7⟩:=bZ ((ax.refl (fun k=>s.ownBlock=some k) _).grown a6 (fun k G=>.inl G)) (b:=A) (by first|(simp;done)|(simp;omega)) (fun e=>c7.o e);clear D bQ))
    all_goals
     have aj:=i.o.below (M.o.toBelow (aB _) (fun k h=>h.elim));have bX:=aj.below ((aJ _ _).alloc (aB _) (.cells #[.slice t l'.length u] 209));have b4:be.ownsRow base 209 1 (.slice (some ⟨B,0,none⟩) (c.length+1) ac) (c++[(t,l',u)]).length ((c++[(t,l',u)]).map dR):=by
      rw[bS,bL];exact cG.o
     have a3:Value.ownBlock (.slice (some ⟨B,0,none⟩) (c.length+1) ac)=s.ownBlock\/(V.alloc (.cells #[.slice t l'.length u] 209)).heap.size<=B:=by
      rcases cr.o with h9|h9
      .exact .inl h9.symm
      .exact .inr (by rw[h9];first|exact aB _|simp)
     have cu:=ag (bX.PT a6 b4 (a3.imp (fun h=>h) (fun h=>.inr ⟨B,rfl,h⟩)));have cq:=ag a3;have bE:ax (fun k=>k=A\/s.ownBlock=some k) V (be.setCell ⟨A,1,none⟩ (.slice (some ⟨B,0,none⟩) (c.length+1) ac)):=(((ax.refl _ V).alloc _).grown a6 (fun k G=>.inl (.inr G))).set (a:=⟨A,1,none⟩) _ (.inl (.inl rfl));have bp:=ag bE;clear aj bX b4 a3 bE;go_wp2;go_roundw
     case rel=>
      have aj:=i.o.below (M.o.toBelow (aB _) (fun k h=>h.elim));have d0:=M.o.size;have bF:ax (fun k=>k=A\/s.ownBlock=some k) wr (be.setCell ⟨A,1,none⟩ (.slice (some ⟨B,0,none⟩) (c.length+1) ac)):=(M.o.mono (fun k h=>h.elim)).trans bp.o;refine⟨_,c++[(t,l',u)],aA,cu.o,cO.o (t,l',u) cH.o cK.o,bu.o.snoc co.o,?_,?_,?_⟩
      .intro h Q;rcases bP.1 Q with h1|h1
       .exact⟨(aE.o h h1).1.kept fun b v fr g=>i.o.eX (T:=fun _=>False) (bF.mono fun k h=>.inl (h.imp id (fun h=>.inr (.inl h)))) b v fr g (fun h=>h),(aE.o h h1).2⟩
       .obtain rfl:h=(t,l',u):=aP h1;exact⟨cJ.o.kept fun b v fr g=>aj.eX (T:=fun _=>False) (bp.o.mono fun k h=>.inl (h.imp id (fun h=>.inr (.inl h)))) b v fr g (fun h=>h),ct.o⟩
      .rcases cq.o with h9|h9
       .rw[h9];exact aH.o
       .exact .inr ⟨B,rfl,by simp at h9;omega⟩
      .refine ax.strip ((K.o.mono (fun k h=>.inl h)).trans (bF.mono (fun k h=>?_)));rcases h with h|h
       .exact .inl h
       .rcases aH.o with h9|⟨b,h9,ad⟩
        .rw[h9]at h;cases h
        .rw[h9]at h;injection h with h;exact .inr aa
     case measure=>exact dU
   .have bY:c.length=d.length:=by have:=aG.o.1;omega
    have hd:decide ((c.length:Int)<(d.length:Int))=false:=aD;have dF:¬(c.length:Int)<(d.length:Int):=aa;have cw:=ag bY;clear bY;go_wp2
    go_end0
    have c0:jW wr d:=bx.o.kept fun b v fr g=>J.o.eX (T:=fun _=>False) (K.o.mono fun k h=>.inl (.inl h)) b v fr g (fun h=>h);obtain⟨hp,c9⟩:=aG.o.done cw.o;have a9:=Ky aK.o (NB':=c.map (·.2.1)) (by rw[<-bs.o,<-bt.o];exact hp) c9;rw[<-bs.o,<-bt.o]at a9;have cd:=E.o.size;have db:=av.o.size;refine⟨s,aW,c,d,_,bg,rfl,i.o.rep aE.o c0,a9.1,a9.2,?_,?_,bu.o,Nw.refl.trans cy.o aa⟩
    .rintro k (h|h|h|h|h|h)
     .exact .inl (.inl h)
     .exact .inl (.inr (.inl h))
     .rcases aH.o with h9|⟨b,h9,ad⟩
      .rw[h9]at h;cases h
      .rw[h9]at h;injection h with h;exact .inr aa
     .exact .inl (.inr (.inr (.inr (.inl h))))
     .exact .inl (.inr (.inr (.inr (.inr (.inl h)))))
     .rcases cP.o with h9|⟨b,h9,ad⟩
      .rw[h9]at h;cases h
      .rw[h9]at h;injection h with h;exact .inr aa
    .exact(((ax.refl (oq A Cb bv pv lv cv) W).below E.o).trans (av.o.mono (fun k h=>.inr (.inl h)))).trans (K.o.mono (fun k h=>.inl h))
end
section
variable {W:World} {base A Cb:Nat} {bv pv lv cv:Value} {bh ch:List lQ} {al:List Bool} {pl:List Int} {n N wk:Int}
def PU (t:TypeId):Bool:=t==207||t==290||t==209||t==3||t==4
theorem yZ (a:dQ W base A Cb bv pv lv cv bh ch al pl n N wk):∀k,oq A Cb bv pv lv cv k->∃cs t fr,W.heap[k]? =some (Obj.cells cs t fr)/\PU t=true:=by
 have d:∀{e:TypeId} {sz:Nat} {v:Value} {n:Nat} {xs:List Value} {k:Nat},W.ownsRow base e sz v n xs->v.ownBlock=some k->∃b,W.heap[k]? =some (Obj.cells b e (0,0)):=by
  intro e sz v n xs k a f;rcases a.2 with⟨rfl,_⟩|⟨g,l,b,rfl,_,i,_⟩
  .cases f
  .simp only[Value.ownBlock,ji]at f;subst f;exact⟨b,i⟩
 intro k j;rcases j with h|h|h|h|h|h
 .exact⟨_,_,_,h▸a.blk,ai⟩
 .exact⟨_,_,_,h▸a.fI.blk,ai⟩
 .obtain⟨b,c⟩:=d a.gM h;exact⟨_,_,_,c,ai⟩
 .obtain⟨b,c⟩:=d a.iF h;exact⟨_,_,_,c,ai⟩
 .obtain⟨b,c⟩:=d a.dL h;exact⟨_,_,_,c,ai⟩
 .obtain⟨b,c⟩:=d a.fI.row h;exact⟨_,_,_,c,ai⟩
theorem JY (h:dQ W base A Cb bv pv lv cv bh ch al pl n N wk) (f:qY (ch.map (·.2.1)) (bh.map (·.2.1)) al pl n N) (id:Int) (F:∀p,¬jg (ch.map (·.2.1)).flatten al pl id p):
  Calls prog 58 #[.pointer (some ⟨A,0,none⟩),.int .u32 id] W fun e w'=>e=.returned (.tuple #[.int .i64 0,.bool false])/\Below W.heap.size W w':=by
 have r:=ag (Gp h);have H:=ag h;have i:=f.SY;have u:=ag (fun W' (a:Below W.heap.size W W')=>sH A id W' _ bh bv base ((h.below a).cell.2.1) (h.below a).gM rfl (h.below a).bE f.sorted (by have:=i.1;simp at this;omega) (fun l D=>by have:=i.2.2.1 l D;omega));have c:=ag f;go_enter func58,ntmps58
 go_wp2_with fail
 refine r.o.mono ?_;rintro e w2 ⟨rfl,d⟩
 go_wp2_with fail
 refine(u.o w2 d).mono ?_;rintro e w3 ⟨k,t,rfl,ht,C,z⟩;have b:=d.trans (z.mono d.size);obtain⟨-,-,-,O,-⟩:=(H.o.below b).cell;rcases C with⟨y,g,w,rfl⟩|⟨rfl,-⟩
 .rw[ic c.o.perm]at g;have⟨m,j,q⟩:=c.o.vI y g;obtain⟨K,L,rfl,-,-,G⟩:=Rd.aI (H.o.below b).dL;obtain⟨J,M,v,-,x⟩:=G.get aa;have I:=x m q;have B:al[m]=false:=by
   cases a:al[m]with
   |false=>rfl
   |true=>
    have E:m<pl.length:=by have:=c.o.len;omega
    exact absurd ⟨m,by rw[<-w,<-j];exact g,by rw[cz q,a],cz E⟩ (F pl[m])
  rw[B]at I;have s:=ag v;rw[j];obtain rfl:=s.o;have Q:(m:Int)<(al.length:Int):=aa;have P:decide ((m:Int)<0)=false:=aA;go_wp2;go_ret2;exact⟨rfl,b⟩
 .go_wp2;go_ret2;exact⟨rfl,b⟩
def TL (W:World) (base A Cb:Nat) (bv pv lv cv:Value) (bh ch:List lQ) (al:List Bool) (pl:List Int) (n:Int) (k:Nat) (p:Int) (e:Ending) (w':World):Prop:=
 ∃(R8 Cz:Value) (bh' qP:List lQ) (N' Kj:Int),e=.returned (.tuple #[.int .i64 p,.bool true])/\dQ w' base A Cb R8 pv lv Cz bh' qP (al.set k false) pl (n-1) N' Kj/\qY (qP.map (·.2.1)) (bh'.map (·.2.1)) (al.set k false) pl (n-1) N'/\
  (∀id p,jg (qP.map (·.2.1)).flatten (al.set k false) pl id p↔jg (ch.map (·.2.1)).flatten (al.set k false) pl id p)/\(∀k,oq A Cb R8 pv lv Cz k->oq A Cb bv pv lv cv k\/W.heap.size<=k)/\ax (oq A Cb bv pv lv cv) W w'/\Nw W.heap.size bh bh'/\Nw W.heap.size ch qP
theorem Hm (h:dQ W base A Cb bv pv lv cv bh ch al pl n N wk) (a5:base<=W.heap.size) (r:qY (ch.map (·.2.1)) (bh.map (·.2.1)) al pl n N) (id p:Int) (m:Nat) (V:(id,(m:Int))∈(ch.map (·.2.1)).flatten) (B:al[m]? =some true) (hp:pl[m]? =some p):
  Calls prog 58 #[.pointer (some ⟨A,0,none⟩),.int .u32 id] W (TL W base A Cb bv pv lv cv bh ch al pl n m p):=by
 have ai:=ag (Gp h);have H:=ag h;have U:=r.SY;have ak:=ag (fun W' (G:Below W.heap.size W W')=>sH A id W' _ bh bv base ((h.below G).cell.2.1) (h.below G).gM rfl (h.below G).bE r.sorted (by have:=U.1;simp at this;omega) (fun l aQ=>by have:=U.2.2.1 l aQ;omega));have E:=ag r;have be:1<=n/\n<=5000:=by
  have Q:=r.cnt;have S:al.count true<=al.length:=Ec;have a3:=r.bound;have⟨X,aS⟩:=fE.1 B;have a6:0<al.count true:=List.count_pos_iff.2 (aS▸bB X);omega
 have M:=ag (Kw r m B);go_enter func58,ntmps58
 go_wp2_with fail
 refine ai.o.mono ?_;rintro e w2 ⟨rfl,I⟩
 go_wp2_with fail
 refine(ak.o w2 I).mono ?_;rintro e w3 ⟨k,t,rfl,ht,u,aL⟩;have K:=ag (I.trans (aL.mono I.size));have s:=ag (H.o.below K.o);have⟨aC,aY,aD,aZ,aE⟩:=s.o.cell;have aO:k=(m:Int):=by
  rcases u with⟨y,Z,Q,S⟩|⟨-,aV⟩
  .rw[ic E.o.perm]at Z;have:=oV E.o.ids Z V (aP Q);rw[<-S,this]
  .exact absurd rfl (aV _ ((ic E.o.perm _).2 V))
 subst aO;obtain⟨X,-⟩:=fE.1 B;obtain⟨bd,-⟩:=fE.1 hp;obtain⟨b,f,aF,a7,a8,-,-⟩:=aU s.o.dL aa;subst aF;have ac:=s.o.dL.cellAt m aa;rw[iy,B]at ac;simp only[fP]at ac;have a1:=s.o.dL.frozenAt m;have F:=ag (s.o.SV rfl m false);have⟨d0,d1,d2,d3,d4⟩:=F.o.cell;have f4:=F.o.frozen 4;have z:=ag (F.o.SS (n-1));have ap:Hid (ax (oq A Cb bv pv (.slice (some ⟨b,0,none⟩) al.length f) cv) W ((w3.setCell ⟨b,m,none⟩ (.bool false)).setCell ⟨A,4,none⟩ (.int .i64 (n-1)))):=
  (((ax.refl _ W).below K.o).set (a:=⟨b,m,none⟩) _ (.inl (.inr (.inr (.inr (.inr (.inl rfl))))))).set (a:=⟨A,4,none⟩) _ (.inl (.inl rfl))
 have bb:(m:Int)<(al.length:Int):=aa;have bc:(m:Int)<(pl.length:Int):=aa;have a0:decide ((m:Int)<0)=false:=aA;have Y:(-9223372036854775808:Int)<=n-1/\n-1<=9223372036854775807:=aa;have aw:=ag hp
 go_upto_region 8 with fail
 generalize(w3.setCell ⟨b,m,none⟩ (.bool false)).setCell ⟨A,4,none⟩ (.int .i64 (n-1))=J at*
 go_cut [51]from 41 to 50 (fun tv w=>tv=.bool (decide (2*(n-1)<N))/\Hid (dQ w base A Cb bv pv (.slice (some ⟨b,0,none⟩) al.length f) cv bh ch (al.set m false) pl (n-1) N wk)/\Hid (ax (oq A Cb bv pv (.slice (some ⟨b,0,none⟩) al.length f) cv) W w))
 case first=>
  obtain⟨aC,-,-,-,aE⟩:=z.o.cell;have af:=ag (QM (z.o.below (aJ _ _).drew).fI);have a4:(-9223372036854775808:Int)<=2*(n-1)/\2*(n-1)<=9223372036854775807:=aa;have ah:Hid (Calls prog 137 #[.pointer (some ⟨Cb,0,none⟩)] J.drew fun e d=>e=.returned (.int .i64 N)/\Hid (Below J.drew.heap.size J.drew d)/\d.cell? ⟨A,0,none⟩=some (.pointer (some ⟨Cb,0,none⟩))/\d.cell? ⟨A,4,none⟩=some (.int .i64 (n-1))):=ag (by
   refine af.o.mono ?_;rintro e d ⟨rfl,T⟩;obtain⟨O,-,-,-,P⟩:=((z.o.below (aJ _ _).drew).below T).cell;exact⟨rfl,T,O,P⟩)
  go_region_with (go_at_call 137;(with_reducible refine ah.o.mono ?_);rintro e d ⟨rfl,L,O,P⟩)
  all_goals
   have x:=ag ((z.o.below (aJ _ _).drew).below L.o)
   go_wp2_with fail
   go_meet;exact⟨by rw[show IntKind.i64.wrap (2*(n-1))=2*(n-1)from nR _ aa],x,(ap.o.drew).below L.o⟩
 case rest=>
 obtain⟨rfl,x,g⟩:=hcut;obtain⟨d,aH⟩:∃d:World,d=wc:=⟨_,rfl⟩;subst aH;generalize aM:decide (2*(n-1)<N)=dg;have aj:=ag aM
 go_upto_if 51 with fail
 go_cut []from 51 to 53 (fun w=>∃(j q:Value) (bh' c:List lQ) (i v:Int),Hid (dQ w base A Cb j pv (.slice (some ⟨b,0,none⟩) al.length f) q bh' c (al.set m false) pl (n-1) i v)/\Hid (qY (c.map (·.2.1)) (bh'.map (·.2.1)) (al.set m false) pl (n-1) i)/\
  Hid (∀id p,jg (c.map (·.2.1)).flatten (al.set m false) pl id p↔jg (ch.map (·.2.1)).flatten (al.set m false) pl id p)/\Hid (∀k,oq A Cb j pv (.slice (some ⟨b,0,none⟩) al.length f) q k->oq A Cb bv pv (.slice (some ⟨b,0,none⟩) al.length f) cv k\/W.heap.size<=k)/\Hid (ax (oq A Cb bv pv (.slice (some ⟨b,0,none⟩) al.length f) cv) W w)/\Hid (Nw W.heap.size bh bh')/\Hid (Nw W.heap.size ch c))
 case first=>
  cases dg
  .have au:Hid (N<=2*(n-1)):=ag (by have:=aj.o;simp at this;omega)
   go_wp2_with fail
   go_meet;exact⟨bv,cv,bh,ch,N,wk,x,⟨M.o,au.o⟩,fun _ _=>Iff.rfl,fun k u=>.inl u,g,Nw.refl,Nw.refl⟩
  .have ae:=ag (RA x.o (by have:=g.o.size;omega) M.o)
   go_wp2_with fail
   refine ae.o.mono ?_;rintro e bg ⟨j,q,bh',c,i,v,rfl,aW,aX,aN,aR,aK,Y,aT⟩;have C:=ag Y;have D:=ag aT;have ay:=ag aW;have aB:=ag aX;have am:=ag aN;have ar:=ag aR;have aq:=ag aK
   go_wp2_with fail
   go_meet;exact⟨j,q,bh',c,i,v,ay,aB,am,fun k u=>(ar.o k u).imp (fun h=>h) (fun h=>by have:=g.o.size;omega),g.o.trans aq.o,Nw.nil C.o g.o.size,Nw.nil D.o g.o.size⟩
 case rest=>
  have⟨j,q,bh',c,i,v,R,az,an,av,ao,C,D⟩:=hcut;obtain⟨ab,aI⟩:∃ab:World,ab=wc:=⟨_,rfl⟩;subst aI;obtain⟨-,-,aD,-,-⟩:=R.o.cell;obtain⟨a2,bf,aG,a9,ba,-,-⟩:=aU R.o.iF aa;subst aG;have ad:=R.o.iF.cellAt m aa;rw[iy,aw.o]at ad;simp only[fP]at ad;go_wp2;go_ret2;exact⟨j,q,bh',c,i,v,rfl,R.o,az.o,an.o,av.o,ao.o,C.o,D.o⟩
end
end
section
open Go.RowKit Go.Maps
def TM (S:Nat->Prop) (ch:List lQ):Prop:=∀h∈ch,h.2.1≠[]->∀a,h.1=some a->S a.block
theorem TM.nw {S:Nat->Prop} {n:Nat} {ch b:List lQ} (h:TM S ch) (d:Nw n ch b):TM (fun k=>S k\/n<=k) b:=fun x f e a c=>(d x f).elim (fun g=>.inl (h x g e a c)) fun g=>.inr (g a c)
def kH (W:World) (base A:Nat) (S:Nat->Prop) (m:Nat) (D:List (Int×Int)):Prop:=
 ∃(Cb:Nat) (bv pv lv cv:Value) (bh ch:List lQ) (al:List Bool) (pl:List Int) (n N wk:Int),dQ W base A Cb bv pv lv cv bh ch al pl n N wk/\qY (ch.map (·.2.1)) (bh.map (·.2.1)) al pl n N/\Dy (ch.map (·.2.1)) al pl D/\al.length<=m/\(∀k,oq A Cb bv pv lv cv k->S k)/\TM S bh/\TM S ch
section
variable {W:World} {base A:Nat} {S:Nat->Prop} {m:Nat} {D:List (Int×Int)}
theorem kH.mono {S':Nat->Prop} {e:Nat} (h:kH W base A S m D) (hS:∀k,S k->S' k) (p:m<=e):kH W base A S' e D:=by
 have⟨Cb,bv,pv,lv,cv,bh,ch,al,pl,n,N,wk,l,o,hd,q,f,g,i⟩:=h;exact⟨Cb,bv,pv,lv,cv,bh,ch,al,pl,n,N,wk,l,o,hd,aa,fun k j=>hS k (f k j),fun h c d a b=>hS _ (g h c d a b),fun h c d a b=>hS _ (i h c d a b)⟩
theorem kH.clip (h:kH W base A S m D):kH W base A (fun k=>S k/\k<W.heap.size) m D:=by
 have⟨Cb,bv,pv,lv,cv,bh,ch,al,pl,n,N,wk,d,w,hd,v,hS,s,u⟩:=h;have j:∀{e:List lQ},jW W e->TM S e->TM (fun k=>S k/\k<W.heap.size) e:=fun{e} q hi x l i a f=>by
  refine⟨hi x l i a f,?_⟩;rcases(q x l).1 with p|⟨b,off,y,fr,c,r,-⟩
  .exact absurd p i
  .rw[f]at c;injection c with c;rw[c];exact(aZ.1 r).1
 refine⟨Cb,bv,pv,lv,cv,bh,ch,al,pl,n,N,wk,d,w,hd,v,fun k g=>⟨hS k g,?_⟩,j d.bE s,j d.cE u⟩;obtain⟨cs,t,fr,o,-⟩:=yZ d k g;exact(aZ.1 o).1
theorem kH.kept {W':World} (h:kH W base A S m D) {T:Nat->Prop} (K:ax T W W') (hd:∀k,S k->¬T k):kH W' base A S m D:=by
 have⟨Cb,bv,pv,lv,cv,bh,ch,al,pl,n,N,wk,a,i,f,g,hS,c,d⟩:=h;exact⟨Cb,bv,pv,lv,cv,bh,ch,al,pl,n,N,wk,⟨a.hb,bz K a.blk (hd _ (hS _ (.inl rfl))),⟨a.fI.hb,a.fI.ds,bz K a.fI.blk (hd _ (hS _ (.inr (.inl rfl)))),aT a.fI.row K fun b e=>hd _ (hS _ (.inr (.inr (.inr (.inr (.inr e))))))⟩,aT a.gM K fun b e=>hd _ (hS _ (.inr (.inr (.inl e)))),aT a.iF K fun b e=>hd _ (hS _ (.inr (.inr (.inr (.inl e))))),aT a.dL K fun b e=>hd _ (hS _ (.inr (.inr (.inr (.inr (.inl e)))))),a.bE.NN c K hd,a.cE.NN d K hd,a.sep⟩,i,f,g,hS,c,d⟩
theorem VK (W:World):aK 54 #[] W fun e w'=>e=.returned (aj (W.heap.size+1))/\kH w' W.heap.size (W.heap.size+1) (fun k=>W.heap.size<=k) 0 []/\Below W.heap.size W w':=by
 refine(SQ W).mono ?_;rintro e w' ⟨c,d,b⟩;refine⟨c,⟨W.heap.size,aL,aL,aL,aL,[],[],[],[],0,0,0,d,Ow,Dy.new,aB _,?_,(fun h a=>absurd a iA),fun h a=>absurd a iA⟩,b⟩;rintro k (h|h|h|h|h|h)
 .show _<=k;omega
 .show _<=k;omega
 all_goals cases h
theorem JZ (h:kH W base A S m D) (id p c:Int) (hid:(id,c)∈D):aK 56 #[aj A,ay id,af p] W (fV W (af 2)):=by
 have⟨Cb,bv,pv,lv,cv,bh,ch,al,pl,n,N,wk,e,a,hd,i,hS,f,g⟩:=h;have b:=a.SY;exact ER e a (by have:=b.1;simp at this;omega) (fun l d=>by have:=b.2.2.1 l d;omega) id p c ((hd.iff _ _).1 hid)
def K8 (S:Nat->Prop) (W w':World):Prop:=∃T:Nat->Prop,ax T W w'/\∀k,T k->S k/\∃cs t fr,W.heap[k]? =some (Obj.cells cs t fr)/\PU t=true
theorem K8.R9 {w':World} (h:K8 S W w'):ax S W w':=by
 have⟨T,K,a⟩:=h;exact K.mono fun k b=>(a k b).1
def U2 (W:World) (base A:Nat) (S:Nat->Prop) (m:Nat) (D:List (Int×Int)) (id p:Int) (e:Ending) (w':World):Prop:=
 e=.returned (af 0)/\kH w' base A (fun k=>S k\/W.heap.size<=k) (m+1) (D++[(id,p)])/\K8 S W w'
theorem PV (h:kH W base A S m D) (M:base<=W.heap.size) (ae:m<5000) (id p:Int) (hid:∀q,(id,q)∉D):aK 56 #[aj A,ay id,af p] W (U2 W base A S m D id p):=by
 have⟨Cb,bv,pv,lv,cv,bh,ch,al,pl,n,N,wk,u,c,hd,ad,hS,z,B⟩:=h;have F:∀k,oq A Cb bv pv lv cv k->∃cs t fr,W.heap[k]? =some (Obj.cells cs t fr)/\PU t=true:=yZ u;have G:=c.SY;by_cases d:∃x∈(ch.map (·.2.1)).flatten,x.1=id
 .obtain⟨x,d,X⟩:=d;have⟨k,b,C⟩:=c.vI x d;have f:(id,(k:Int))∈(ch.map (·.2.1)).flatten:=by rw[<-X,<-b];exact d
  have j:al[k]? =some false:=by
   rw[cz C];cases L:al[k]with
   |false=>rfl
   |true=>
    obtain⟨q,U,-⟩:=hd.val c.towV f (by rw[cz C,L]);exact absurd U (hid q)
  have Q:0<=n/\n<=100000:=by
   have w:=c.cnt;have y:al.count true<=al.length:=Ec;have ac:=c.bound;omega
  refine(ET u c (by have:=G.1;simp at this;omega) (fun l O=>by have:=G.2.2.1 l O;omega) id p k f j Q).mono ?_;rintro e w' ⟨o,v,g⟩;have K:ax (oq A Cb bv pv lv cv) W w':=g.mono fun k b=>by
   rcases b with h|h|h
   .exact .inl h
   .exact .inr (.inr (.inr (.inl h)))
   .exact .inr (.inr (.inr (.inr (.inl h))))
  exact⟨o,⟨Cb,bv,pv,lv,cv,bh,ch,_,_,_,N,wk,v,QO c k p id f j,hd.again c.towV f j,aD,fun k b=>.inl (hS k b),(fun h r s a i=>.inl (z h r s a i)),fun h r s a i=>.inl (B h r s a i)⟩,⟨_,K,fun k b=>⟨hS k b,F k b⟩⟩⟩
 .have E:∀x∈(ch.map (·.2.1)).flatten,x.1≠id:=fun x w y=>d ⟨x,w,y⟩;refine(JV u M c aa id p E).mono ?_;rintro e w' ⟨H,Z,Y,J,bh',I,ab,o,v,V,hP,P,g,R,T⟩;exact⟨o,⟨Cb,H,Z,Y,J,bh',I,_,_,_,_,ab,v,V,hd.put c.towV E hP,aD,fun k b=>(P k b).imp (hS k) (fun h=>h),z.nw R,B.nw T⟩,⟨_,g,fun k b=>⟨hS k b,F k b⟩⟩⟩
theorem PW (h:kH W base A S m D) (id:Int) (hid:∀q,(id,q)∉D):aK 58 #[aj A,ay id] W (fV W (.tuple #[af 0,.bool false])):=by
 have⟨Cb,bv,pv,lv,cv,bh,ch,al,pl,n,N,wk,b,c,hd,f,hS,d,e⟩:=h;exact JY b c id (fun q a=>hid q ((hd.iff _ _).2 a))
def TN (W:World) (base A:Nat) (S:Nat->Prop) (m:Nat) (D:List (Int×Int)) (id p:Int) (e:Ending) (w':World):Prop:=
 e=.returned (.tuple #[af p,.bool true])/\kH w' base A (fun k=>S k\/W.heap.size<=k) m (D.filter fun x=>decide (x.1≠id))/\K8 S W w'
theorem Nc (h:kH W base A S m D) (s:base<=W.heap.size) (id p:Int) (hid:(id,p)∈D):aK 58 #[aj A,ay id] W (TN W base A S m D id p):=by
 have⟨Cb,bv,pv,lv,cv,bh,ch,al,pl,n,N,wk,d,f,hd,x,hS,u,v⟩:=h;have E:=yZ d;have⟨k,b,c,o⟩:=(hd.iff _ _).1 hid;have q:=hd.drop f.towV b c;refine(Hm d s f id p k b c o).mono ?_;rintro e w' ⟨i,l,bh',j,g,G,t,C,F,w,y,r,z,B⟩;exact⟨t,⟨Cb,i,pv,lv,l,bh',j,_,_,_,g,G,C,F,q.turn w,aP x,fun k a=>(y k a).imp (hS k) (fun h=>h),u.nw z,v.nw B⟩,⟨_,r,fun k a=>⟨hS k a,E k a⟩⟩⟩
end
def Own (W:World) (base A m:Nat) (D:List (Int×Int)):Prop:=kH W base A (fun k=>base<=k) m D
end
section
open Go.RowKit Go.Sort Go.Shelf Go.Lib Go.Maps
attribute [local irreducible] wpQuiet
attribute [local go_sem] Oper.eF
structure Ho (w:World) (Pb Hb Ab base:Nat) (av:Value) (GH SD:Nat->Prop) (m:Nat) (A:List eO) (D:List (Int×Int)) (ALL:List Pt) (N wk gP:Int):Prop where
 blk:w.heap[Pb]? =some (Obj.cells #[aj Hb,aj Ab,av,af gP] Co (0,0))
 row:w.ownsRow 0 29 3 av ALL.length (ALL.flatMap bX)
 half:jG w Hb GH m A N wk
 dir:kH w base Ab SD m D
 hb:base<=w.heap.size
 few:ALL.length<=m
 fwd:∀id q,(id,q)∈D->∃(k:Nat) (c:eO),q=k/\c∈A/\ALL[k]? =some c.1/\c.1.2.2=id
 bwd:∀c∈A,∃q,(c.1.2.2,q)∈D
 q8:(∀k,GH k->¬SD k/\k≠Pb/\av.ownBlock≠some k/\k<w.heap.size)/\(∀k,SD k->k≠Pb/\av.ownBlock≠some k/\k<w.heap.size)/\av.ownBlock≠some Pb
def ed (w:World) (Pb:Nat) (G:Nat->Prop) (m:Nat) (now:List Pt) (N wk gP:Int):Prop:=
 ∃(Hb Ab base:Nat) (av:Value) (GH SD:Nat->Prop) (A:List eO) (D:List (Int×Int)) (ALL:List Pt),Ho w Pb Hb Ab base av GH SD m A D ALL N wk gP/\A.map (·.1)=now/\∀k,GH k\/SD k\/k=Pb\/av.ownBlock=some k->G k
theorem jG.clip {w:World} {Hb m:Nat} {G:Nat->Prop} {A:List eO} {N wk:Int} (h:jG w Hb G m A N wk):jG w Hb (fun k=>G k/\k<w.heap.size) m A N wk:=by
 have⟨X,F,Cb,mb,cv,tv,av,lv,ch,T,al,eH,d,e,f,c,g,j,b,l,n⟩:=h;exact⟨X,F,Cb,mb,cv,tv,av,lv,ch,T,al,eH,d,e,f,c,g,j,fun k a=>⟨(b k a).1,(b k a).2,(b k a).1⟩,fun i k a=>⟨l i k a,c.lt i k a⟩,n⟩
section
variable {w w':World} {Pb Hb Ab base m:Nat} {av:Value} {G GH SD S:Nat->Prop} {A:List eO} {D:List (Int×Int)} {ALL now:List Pt} {N wk gP RB:Int}
theorem Ho.kept (h:Ho w Pb Hb Ab base av GH SD m A D ALL N wk gP) (K:ax S w w') (hS:∀k,GH k\/SD k\/k=Pb\/av.ownBlock=some k->¬S k):Ho w' Pb Hb Ab base av GH SD m A D ALL N wk gP:=
 ⟨bz K h.blk (hS _ (.inr (.inr (.inl rfl)))),aT h.row K fun b e=>hS _ (.inr (.inr (.inr e))),h.half.kept K fun k a=>hS k (.inl a),h.dir.kept K fun k a=>hS k (.inr (.inl a)),bD h.hb K.size,h.few,h.fwd,h.bwd,⟨fun k a=>⟨(h.q8.1 k a).1,(h.q8.1 k a).2.1,(h.q8.1 k a).2.2.1,bR (h.q8.1 k a).2.2.2 K.size⟩,fun k a=>⟨(h.q8.2.1 k a).1,(h.q8.2.1 k a).2.1,bR (h.q8.2.1 k a).2.2 K.size⟩,h.q8.2.2⟩⟩
theorem Ho.Sa (h:Ho w Pb Hb Ab base av GH SD m A D ALL N wk gP) (K:ax (fun k=>k=Pb) w w') (hb:w'.heap[Pb]? =some (Obj.cells #[aj Hb,aj Ab,av,af RB] Co (0,0))):Ho w' Pb Hb Ab base av GH SD m A D ALL N wk RB:=
 ⟨hb,aT h.row K fun c e b=>h.q8.2.2 (by rw[e,b]),h.half.kept K fun k a=>(h.q8.1 k a).2.1,h.dir.kept K fun k a=>(h.q8.2.1 k a).1,bD h.hb K.size,h.few,h.fwd,h.bwd,⟨fun k a=>⟨(h.q8.1 k a).1,(h.q8.1 k a).2.1,(h.q8.1 k a).2.2.1,bR (h.q8.1 k a).2.2.2 K.size⟩,fun k a=>⟨(h.q8.2.1 k a).1,(h.q8.2.1 k a).2.1,bR (h.q8.2.1 k a).2.2 K.size⟩,h.q8.2.2⟩⟩
theorem ed.kept (h:ed w Pb G m now N wk gP) (K:ax S w w') (hS:∀k,G k->¬S k):ed w' Pb G m now N wk gP:=by
 have⟨Hb,Ab,base,av,GH,SD,A,D,ALL,b,c,a⟩:=h;exact⟨Hb,Ab,base,av,GH,SD,A,D,ALL,b.kept K fun k d=>hS k (a k d),c,a⟩
theorem ed.below (h:ed w Pb G m now N wk gP) (a:Below w.heap.size w w'):ed w' Pb G m now N wk gP:=h.kept (S:=fun _=>False) ((ax.refl _ _).below a) fun _ _ h=>h
theorem ed.more {a:Nat->Prop} (h:ed w Pb G m now N wk gP) (e:∀k,G k->a k):ed w Pb a m now N wk gP:=by
 have⟨Hb,Ab,base,av,GH,SD,A,D,ALL,b,c,d⟩:=h;exact⟨Hb,Ab,base,av,GH,SD,A,D,ALL,b,c,fun k f=>e k (d k f)⟩
theorem ed.facts (h:ed w Pb G m now N wk gP):(now.length:Int)<=N/\N<=2*now.length/\N<=m/\(ids now).Nodup/\(∀p∈now,zi p)/\0<=wk/\(∀L,m<2^L->wk<=(L*m:Nat))/\G Pb:=by
 obtain⟨Hb,Ab,base,av,GH,SD,A,D,ALL,a,rfl,b⟩:=h;obtain⟨f1,f2,f3,f4,f5,f6,f7,-⟩:=a.half.facts;rw[bT];exact⟨f1,f2,f3,f4,fun p hp=>by obtain⟨c,d,rfl⟩:=dh.1 hp;exact f5 c d,f6,f7,b _ (.inr (.inr (.inl rfl)))⟩
theorem PX (w:World):aK 11 #[] w fun e w'=>∃Pb,e=.returned (aj Pb)/\ed w' Pb (fun k=>w.heap.size<=k/\k<w'.heap.size) 0 [] 0 0 0/\Below w.heap.size w w':=by
 have g:=ag (UU w);go_enter func11,ntmps11
 go_wp2_with fail
 refine g.o.mono ?_;rintro e w1 ⟨rfl,m,n⟩;have c:=ag m.clip;have b:=ag n;have f:=ag (VK w1)
 go_wp2_with fail
 refine f.o.mono ?_;rintro e w2 ⟨rfl,l,p⟩;have i:=ag l.clip;have a:=ag p;go_wp2;go_ret;have q:=b.o.size;have t:=a.o.size;have d:ax (fun _=>False) w2 (w2.alloc (.cells #[aj (w.heap.size+2),aj (w1.heap.size+1),aL,af 0] Co)):=(ax.refl _ w2).alloc _;have r:ax (fun _=>False) w1 w2:=(ax.refl _ w1).below a.o;have s:=c.o.facts;refine⟨w2.heap.size,rfl,⟨w.heap.size+2,w1.heap.size+1,w1.heap.size,aL,_,_,[],[],[],⟨cB w2 _,dw _ _ _ _,(c.o.kept r (fun _ _ h=>h)).kept d (fun _ _ h=>h),i.o.kept d (fun _ _ h=>h),aD,aX _,fun _ _ h=>absurd h iA,fun _ h=>absurd h iA,⟨fun k hk=>⟨fun j=>by have:=j.1;have:=hk.2;omega,by have:=hk.2;omega,by simp[Value.ownBlock],by have:=hk.2;simp;omega⟩,fun k hk=>⟨by have:=hk.2;omega,by simp[Value.ownBlock],by have:=hk.2;simp;omega⟩,by simp[Value.ownBlock]⟩⟩,rfl,fun k hk=>?_⟩,?_⟩
 .rcases hk with hk|hk|hk|hk
  .exact⟨hk.1,by have:=hk.2;simp;omega⟩
  .exact⟨by have:=hk.1;omega,by have:=hk.2;simp;omega⟩
  .exact⟨aa,aD⟩
  .cases hk
 .exact b.o.trans ((a.o.mono q).alloc aa _)
theorem U3 (h:ed w Pb G m now N wk gP):aK 14 #[aj Pb] w fun e w'=>e=.returned (af now.length)/\w'=w:=by
 obtain⟨Hb,Ab,base,av,GH,SD,A,D,ALL,c,rfl,j⟩:=h;have f:=ag (mi c.blk);have d:=ag (UR c.half);have i:w.cell? (ae Pb 0)=some (aj Hb):=aG c.blk;have g:(A.map (·.1)).length=A.length:=bT _;rw[g];go_enter func14,ntmps14
 go_wp2_with (first|(go_at_call 55;refine f.o.mono ?_;rintro e w1 ⟨rfl,a⟩;have b:=a.symm;clear a;subst b)|(refine d.o.mono ?_;rintro e w1 ⟨rfl,a⟩;have b:=a.symm;clear a;subst b))
 go_ret;exact⟨rfl,rfl⟩
end
end
end Go.Proofs.YtkjdbndekceffaaGreat
