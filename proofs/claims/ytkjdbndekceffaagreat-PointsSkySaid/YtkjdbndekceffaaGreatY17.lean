/- Made small by a program. -/
import Derived.Test.YtkjdbndekceffaaGreatY16
set_option linter.unusedSimpArgs false
set_option linter.unusedVariables false
set_option maxRecDepth 100000
set_option maxHeartbeats 16000000
namespace Go.Proofs.YtkjdbndekceffaaGreat
open Tryz
section
open Go.RowKit Go.Sort Go.Shelf Go.Lib Go.Maps
attribute [local irreducible] wpQuiet
attribute [local go_sem] Oper.eT
def Fs (l:List Pt) (x y way:Int):List Int:=if way<=3 then BD l (BF x y (decide (way%2=1)) (decide (2<=way)))else[]
theorem M5 {a:Int} (b:0<=a) (h:a<=3):a=(if decide (a%2=1)then 1 else 0)+(if decide (2<=a)then 2 else 0):=by
 have:a=0\/a=1\/a=2\/a=3:=aa;rcases this with rfl|rfl|rfl|rfl<;>decide
theorem UZ {w:World} {lo hi cb n0:Nat} {l:List Pt} (h:uw w lo hi cb n0 l) (f:T9 l) (x y a:Int) (d:0<=a):
  aK 40 #[aj cb,ae x,ae y,.int .u8 a] w fun e w'=>∃v,∃c:Nat,e=.returned (.tuple #[v,ae ((c+(Fs l x y a).length:Nat):Int)])/\c<=8*Lib.bitLen n0+1/\w'.ownsRow w.heap.size 27 1 v (Fs l x y a).length ((Fs l x y a).map (Value.int .u32))/\Below w.heap.size w w':=by
 unfold Fs;by_cases b:a<=3
 .rw[aO b];exact OL h f x y _ _ a (M5 d b)
 .rw[aM b];refine(Gt h x y a aa).mono ?_;rintro e w' ⟨rfl,rfl⟩;exact⟨_,0,rfl,bH _,dA _ _ _ _,aJ _ _⟩
theorem G8:gF 39:=dh func39 aN rfl
theorem G9:gF 66:=dh func66 aN rfl
theorem M6 {u:World} {F:Nat->Prop} {tb n0:Nat} {l:List Pt} (h:Bk u F tb n0 l) (x1 x2 y1 y2 b:Int) {a:Nat} (k:u.cell? (af a 0)=some (ae x1)) (m:u.cell? (af a 1)=some (ae x2)) (n:u.cell? (af a 2)=some (ae y1)) (q:u.cell? (af a 3)=some (ae y2)) (r:u.cell? (af a 4)=some (ak b)):
  aK 66 #[aj tb,aj a] u fun e d=>∃v,∃t:Nat,e=.returned (.tuple #[v,ae t])/\(∃c:Nat,t=c+(hasB l x1 x2 y1 y2).length/\c<=8*Lib.bitLen n0+1)/\d.ownsRow u.heap.size 27 1 v (hasB l x1 x2 y1 y2).length ((hasB l x1 x2 y1 y2).map (Value.int .u32))/\Below u.heap.size u d:=by
 have⟨lo,m0,m1,m2,m3,m4,hi,bx,cn,hp,lw,ob,tl,sv,dn,h⟩:=h;have H:=ag h;have j:u.cell? (af tb 1)=some (aj bx):=aD h.blk;have i:ay (fun _=>False) u u.drew:=(ay.refl _ u).drew;have f:=ag (Ky (H.o.box.kept i (fun _ _ _ h=>h)) x1 x2 y1 y2 b);have E:=ah j;have z:=ah k;have A:=ah m;have B:=ah n;have C:=ah q;have D:=ah r;go_enter func66,ntmps66
 go_wp2_with fail
 refine au (fun W=>∃p:aR u,W=p.W) [5,6,7,8,9] [(0,false),(1,false),(2,false),(3,true),(4,true)] ⟨⟨_,(aJ _ _).drew⟩,rfl⟩ 5 ?_;refine aH 5 rfl fun K s=>?_;refine aZ G8 rfl _ _ rfl (vals:=#[aj bx,.agg #[ae x1,ae x2,ae y1,ae y2,ak b]]) rfl f.o ?_;rintro e u1 ⟨v,c,rfl,x,y,w⟩;have g:Hid (Below u.heap.size u u1):=(aJ _ _).drew.trans w;refine⟨_,rfl,?_⟩;refine s _ _ (fun _ h=>absurd ai h) ?_;have HO:=ag y;refine iR (fun _=>True) [8,9] aN ?_;refine bq [(6,false),(7,false)] trivial rfl ?_;refine aI [8,9] ?_;go_wp2;go_ret2;exact⟨_,_,rfl,⟨c,rfl,x⟩,HO.o,g.o⟩
theorem JN:gF 41:=dh func41 aN rfl
theorem JO:gF 68:=dh func68 aN rfl
theorem PM {u:World} {F:Nat->Prop} {tb n0:Nat} {l:List Pt} (h:Bk u F tb n0 l) (x1 x2 y:Int) {a b d:Nat} (m:u.cell? (af a 0)=some (ae x1)) (n:u.cell? (af b 0)=some (ae x2)) (q:u.cell? (af d 0)=some (ae y)):
  aK 68 #[aj tb,aj a,aj b,aj d] u fun e f=>∃v,∃t:Nat,e=.returned (.tuple #[v,ae t])/\((xe l x1 x2 y).length<=t/\t<=2*(xe l x1 x2 y).length+KN n0)/\f.ownsRow u.heap.size 27 1 v (xe l x1 x2 y).length ((xe l x1 x2 y).map (Value.int .u32))/\Below u.heap.size u f:=by
 have⟨lo,m0,m1,m2,m3,m4,hi,bx,cn,hp,lw,ob,tl,sv,dn,h⟩:=h;have H:=ag h;have k:u.cell? (af tb 3)=some (aj hp):=aD h.blk;have j:ay (fun _=>False) u u.drew:=(ay.refl _ u).drew;have g:=ag (Tq (H.o.UH.kept j (fun _ _ _ h=>h)) x1 x2 y);have C:=ah k;have z:=ah m;have A:=ah n;have B:=ah q;go_enter func68,ntmps68
 go_wp2_with fail
 refine au (fun W=>∃p:aR u,W=p.W) [7,8,9,10,11] [(0,false),(1,false),(2,false),(3,true),(4,true),(5,true),(6,true)] ⟨⟨_,(aJ _ _).drew⟩,rfl⟩ 5 ?_;refine aH 7 rfl fun K r=>?_;refine aZ JN rfl _ _ rfl (vals:=#[aj hp,ae x1,ae x2,ae y]) rfl g.o ?_;rintro e u1 ⟨v,c,rfl,w,x,s⟩;have i:Hid (Below u.heap.size u u1):=(aJ _ _).drew.trans s;refine⟨_,rfl,?_⟩;refine r _ _ (fun _ h=>absurd ai h) ?_;have HO:=ag x;refine iR (fun _=>True) [10,11] aN ?_;refine bq [(8,false),(9,false)] trivial rfl ?_;refine aI [10,11] ?_;go_wp2;go_ret2;exact⟨_,_,rfl,w,HO.o,i.o⟩
theorem Ha:gF 40:=dh func40 aN rfl
theorem Hd:gF 67:=dh func67 aN rfl
theorem M7 {u:World} {F:Nat->Prop} {tb n0:Nat} {l:List Pt} (h:Bk u F tb n0 l) (x y a:Int) (C:T9 l) (B:0<=a) {b d f:Nat} (n:u.cell? (af b 0)=some (ae x)) (q:u.cell? (af d 0)=some (ae y)) (r:u.cell? (af f 0)=some (.int .u8 a)):
  aK 67 #[aj tb,aj b,aj d,aj f] u fun e g=>∃v,∃t:Nat,e=.returned (.tuple #[v,ae t])/\(∃c:Nat,t=c+(Fs l x y a).length/\c<=8*Lib.bitLen n0+1)/\g.ownsRow u.heap.size 27 1 v (Fs l x y a).length ((Fs l x y a).map (Value.int .u32))/\Below u.heap.size u g:=by
 have⟨lo,m0,m1,m2,m3,m4,hi,bx,cn,hp,lw,ob,tl,sv,dn,h⟩:=h;have H:=ag h;have m:u.cell? (af tb 2)=some (aj cn):=aD h.blk;have k:ay (fun _=>False) u u.drew:=(ay.refl _ u).drew;have i:=ag (UZ (H.o.UG.kept k (fun _ _ _ h=>h)) C x y a B);have I:=ah m;have D:=ah n;have E:=ah q;have G:=ah r;go_enter func67,ntmps67
 go_wp2_with fail
 refine au (fun W=>∃p:aR u,W=p.W) [7,8,9,10,11] [(0,false),(1,false),(2,false),(3,true),(4,true),(5,true),(6,true)] ⟨⟨_,(aJ _ _).drew⟩,rfl⟩ 5 ?_;refine aH 7 rfl fun K s=>?_;refine aZ Ha rfl _ _ rfl (vals:=#[aj cn,ae x,ae y,.int .u8 a]) rfl i.o ?_;rintro e u1 ⟨v,c,rfl,z,A,w⟩;have j:Hid (Below u.heap.size u u1):=(aJ _ _).drew.trans w;refine⟨_,rfl,?_⟩;refine s _ _ (fun _ h=>absurd ai h) ?_;have HO:=ag A;refine iR (fun _=>True) [10,11] aN ?_;refine bq [(8,false),(9,false)] trivial rfl ?_;refine aI [10,11] ?_;go_wp2;go_ret2;exact⟨_,_,rfl,⟨c,rfl,z⟩,HO.o,j.o⟩
end
section
open Go.RowKit Go.Maps
attribute [local irreducible] wpQuiet
section
variable {W:World} {base A Cb:Nat} {bv pv lv cv:Value} {bh ch:List lH} {al:List Bool} {pl:List Int} {n N wk:Int}
theorem dL.rows {W':World} {l j:Value} {al':List Bool} {pl':List Int} (h:dL W base A Cb bv pv lv cv bh ch al pl n N wk) (K:ay (fun k=>k=A\/pv.ownBlock=some k\/lv.ownBlock=some k) W W')
  (hb:W'.heap[A]? =some (Obj.cells #[.pointer (some ⟨Cb,0,none⟩),bv,l,j,.int .i64 n] 207 (0,0)))
  (hp:W'.ownsRow base 3 1 l pl'.length (pl'.map (Value.int .i64))) (q:W'.ownsRow base 4 1 j al'.length (al'.map Value.bool)):dL W' base A Cb bv l j cv bh ch al' pl' n N wk:=by
 have c:∀{b:Nat} {cs:Array Value} {t:TypeId} {fr:Nat×Nat},W.heap[b]? =some (Obj.cells cs t fr)->t≠207->t≠3->t≠4->¬(b=A\/pv.ownBlock=some b\/lv.ownBlock=some b):=by
  rintro b cs t fr hb d f i (h9|h9|h9)
  .exact dV hb h.blk d h9
  .exact bg h.iC hb f _ h9 rfl
  .exact bg h.dJ hb i _ h9 rfl
 have p:∀{e:TypeId} {sz:Nat} {v:Value} {n:Nat} {xs:List Value},W.ownsRow base e sz v n xs->e≠207->e≠3->e≠4->W'.ownsRow base e sz v n xs:=fun o d f i=>
  aU o K fun u e=>by
   rcases o.2 with⟨rfl,_⟩|⟨g,s,m,rfl,_,r,_⟩
   .cases e
   .simp only[Value.ownBlock,jk]at e;subst e;exact c r d f i
 exact⟨h.hb,hb,⟨h.fJ.hb,h.fJ.ds,bz K h.fJ.blk (c h.fJ.blk ai ai ai),p h.fJ.row ai ai ai⟩,p h.gK ai ai ai,hp,q,
  h.bE.kept fun b m fr a=>K.block b (aY.1 a).1 (c a ai ai ai),h.cE.kept fun b m fr a=>K.block b (aY.1 a).1 (c a ai ai ai),h.sep⟩
theorem sM {w:World} {A i:Nat} {cs a:Array Value} {t:TypeId} {v:Value} (h:w.heap[A]? =some (Obj.cells cs t (0,0))) (e:a=cs.setIfInBounds i v):(w.setCell ⟨A,i,none⟩ v).heap[A]? =some (Obj.cells a t (0,0)):=by
 rw[dC w A i _ _ _ h,e]
structure cO (W:World) (base A Cb:Nat) (bv pv lv cv:Value) (bh ch:List lH) (al:List Bool) (pl:List Int) (n N wk:Int):Prop where
 hb:base<=A
 blk:W.heap[A]? =some (Obj.cells #[.pointer (some ⟨Cb,0,none⟩),bv,pv,lv,.int .i64 n] 207 (0,0))
 fJ:iU W base Cb cv ch N wk
 gK:W.ownsRow base 209 1 bv bh.length (bh.map dS)
 iC:W.ownsRow base 3 1 pv pl.length (pl.map (Value.int .i64))
 dJ:W.ownsRow base 4 1 lv al.length (al.map Value.bool)
 sep:bv.ownBlock=none\/bv.ownBlock≠cv.ownBlock
theorem dL.core (h:dL W base A Cb bv pv lv cv bh ch al pl n N wk):cO W base A Cb bv pv lv cv bh ch al pl n N wk:=⟨h.hb,h.blk,h.fJ,h.gK,h.iC,h.dJ,h.sep⟩
theorem cO.rep (h:cO W base A Cb bv pv lv cv bh ch al pl n N wk) (hb:jX W bh) (a:jX W ch):dL W base A Cb bv pv lv cv bh ch al pl n N wk:=⟨h.hb,h.blk,h.fJ,h.gK,h.iC,h.dJ,hb,a,h.sep⟩
theorem cO.cell (h:cO W base A Cb bv pv lv cv bh ch al pl n N wk):
  W.cell? ⟨A,0,none⟩=some (.pointer (some ⟨Cb,0,none⟩))/\W.cell? ⟨A,1,none⟩=some bv/\W.cell? ⟨A,2,none⟩=some pv/\W.cell? ⟨A,3,none⟩=some lv/\W.cell? ⟨A,4,none⟩=some (.int .i64 n):=by
 have:=h.blk;refine⟨?_,?_,?_,?_,?_⟩<;>simp[World.cell?,this]
theorem cO.frozen (h:cO W base A Cb bv pv lv cv bh ch al pl n N wk) (j:Nat):W.frozen? ⟨A,j,none⟩=false:=by
 have:=h.blk;simp[World.frozen?,this]
theorem cO.lt (h:cO W base A Cb bv pv lv cv bh ch al pl n N wk):A<W.heap.size:=(aY.1 h.blk).1
theorem cO.below {W':World} (h:cO W base A Cb bv pv lv cv bh ch al pl n N wk) (hb:Below W.heap.size W W'):cO W' base A Cb bv pv lv cv bh ch al pl n N wk:=
 ⟨h.hb,(aT hb h.blk).trans h.blk,h.fJ.below hb,az h.gK hb,az h.iC hb,az h.dJ hb,h.sep⟩
def ou (A Cb:Nat) (bv pv lv cv:Value) (k:Nat):Prop:=k=A\/k=Cb\/bv.ownBlock=some k\/pv.ownBlock=some k\/lv.ownBlock=some k\/cv.ownBlock=some k
theorem cO.add {W':World} {c:Value} {i:List lH} {g l:Int} (h:cO W base A Cb bv pv lv cv bh ch al pl n N wk) (K:ay (fun k=>k=Cb\/cv.ownBlock=some k) W W') (q:iU W' base Cb c i g l) (r:c.ownBlock=cv.ownBlock\/c.ownBlock=none\/∃b,c.ownBlock=some b/\W.heap.size<=b):
  cO W' base A Cb bv pv lv c bh i al pl n g l:=by
 have f:∀{e:TypeId} {sz:Nat} {v:Value} {n:Nat} {xs:List Value},W.ownsRow base e sz v n xs->e≠290->(∀a,v.ownBlock=some a->cv.ownBlock≠some a)->W'.ownsRow base e sz v n xs:=fun j o p=>
  aU j K fun a e=>by
   rintro(h9|h9)
   .exact bg j h.fJ.blk (iO o) a e h9.symm
   .exact p a e h9
 refine⟨h.hb,bz K h.blk ?_,q,f h.gK ai ?_,f h.iC ai (bu h.iC h.fJ.row ai),f h.dJ ai (bu h.dJ h.fJ.row ai),?_⟩
 .rintro(h9|h9)
  .exact dV h.blk h.fJ.blk ai h9
  .exact bg h.fJ.row h.blk ai _ h9 rfl
 .intro a e m;rcases h.sep with h9|h9
  .rw[h9]at e;cases e
  .exact h9 (e.trans m.symm)
 .rcases r with h9|h9|⟨b,h9,s⟩
  .rw[h9];exact h.sep
  .rw[h9];rcases Ia bv.ownBlock with d|⟨x,d⟩
   .exact .inl d
   .exact .inr (by rw[d];simp)
  .rw[h9];right;intro e;have:=(h.gK.lt b e).2;omega
theorem cO.U0 {g k c:Nat} (h:cO W base A Cb (.slice (some ⟨g,0,none⟩) k c) pv lv cv bh ch al pl n N wk) (f:k=bh.length) (m:Nat) (x:lH):cO (W.setCell ⟨g,m,none⟩ (dS x)) base A Cb (.slice (some ⟨g,0,none⟩) k c) pv lv cv (bh.set m x) ch al pl n N wk:=by
 subst f;have⟨i,b⟩:=zP h.gK;have d:∀a,cv.ownBlock=some a->g≠a:=by
  rintro a e rfl;rcases h.sep with h9|h9
  .cases h9
  .exact h9 e.symm
 refine⟨h.hb,(aC (dV b h.blk ai)).trans h.blk,⟨h.fJ.hb,h.fJ.ds,(aC (dV b h.fJ.blk ai)).trans h.fJ.blk,aX h.fJ.row fun a e=>aC (d a e)⟩,?_,aX h.iC fun a e=>aC (bg h.iC b ai a e),aX h.dJ fun a e=>aC (bg h.dJ b ai a e),h.sep⟩;rw[kK,kM];exact(h.gK.stored m (dS x)).1
theorem cO.PN {W':World} {c:Value} {bh':List lH} (h:cO W base A Cb bv pv lv cv bh ch al pl n N wk) (j:W.grownBy W' bv.ownBlock) (i:W'.ownsRow base 209 1 c bh'.length (bh'.map dS)) (m:c.ownBlock=bv.ownBlock\/c.ownBlock=none\/∃b,c.ownBlock=some b/\W.heap.size<=b):
  cO (W'.setCell ⟨A,1,none⟩ c) base A Cb c pv lv cv bh' ch al pl n N wk:=by
 have K:ay (fun k=>bv.ownBlock=some k) W W':=(ay.refl _ W).grown j (fun k l=>.inl l);have f:W'.heap[A]? =some (Obj.cells #[.pointer (some ⟨Cb,0,none⟩),bv,pv,lv,.int .i64 n] 207 (0,0)):=bz K h.blk fun e=>bg h.gK h.blk ai _ e rfl;have g:W'.ownsRow base 209 1 cv ch.length (ch.map dS):=aU h.fJ.row K fun a e d=>by
  rcases h.sep with h9|h9
  .rw[h9]at d;cases d
  .exact h9 (d.trans e.symm)
 have o:c.ownBlock=none\/c.ownBlock≠cv.ownBlock:=by
  rcases m with h9|h9|⟨b,h9,p⟩
  .rw[h9];exact h.sep
  .exact .inl h9
  .rw[h9];right;intro e;have:=(h.fJ.row.lt b e.symm).2;omega
 refine⟨h.hb,sM f rfl,⟨h.fJ.hb,h.fJ.ds,(aC (dV h.blk h.fJ.blk ai)).trans (bz K h.fJ.blk fun e=>bg h.gK h.fJ.blk ai _ e rfl),aX g fun a e=>aC (bg g f ai a e)⟩,
  aX i fun a e=>aC (bg i f ai a e),?_,?_,o⟩
 .have:=aU h.iC K fun a e d=>bu h.iC h.gK ai a e d;exact aX this fun a e=>aC (bg this f ai a e)
 .have:=aU h.dJ K fun a e d=>bu h.dJ h.gK ai a e d;exact aX this fun a e=>aC (bg this f ai a e)
end
section
variable {W:World} {base A Cb:Nat} {bv pv lv cv:Value} {bh ch:List lH} {al:List Bool} {pl:List Int} {n N wk:Int}
theorem cO.Wl {W':World} {d k:Nat} {v:Value} {xs:List Value} (h:cO W base A Cb bv pv lv cv bh ch al pl n N wk) (c:W.ownsRow d 204 2 v k xs) (f:W.grownBy W' v.ownBlock):cO W' base A Cb bv pv lv cv bh ch al pl n N wk:=by
 have K:ay (fun k=>v.ownBlock=some k) W W':=(ay.refl _ W).grown f (fun k g=>.inl g);exact⟨h.hb,bz K h.blk fun e=>bg c h.blk ai _ e rfl,⟨h.fJ.hb,h.fJ.ds,bz K h.fJ.blk fun e=>bg c h.fJ.blk ai _ e rfl,aU h.fJ.row K fun b e a=>bu h.fJ.row c ai b e a⟩,
  aU h.gK K fun b e a=>bu h.gK c ai b e a,aU h.iC K fun b e a=>bu h.iC c ai b e a,aU h.dJ K fun b e a=>bu h.dJ c ai b e a,h.sep⟩
theorem cO.eZ {W':World} (h:cO W base A Cb bv pv lv cv bh ch al pl n N wk) {T:Nat->Prop} (K:ay (fun k=>ou A Cb bv pv lv cv k\/T k) W W') (b:Nat) (a:Array Value) (fr:Nat×Nat) (hb:W.heap[b]? =some (Obj.cells a 204 fr)) (c:¬T b):W'.heap[b]? =W.heap[b]? :=by
 refine K.block b (aY.1 hb).1 ?_;rintro((h9|h9|h9|h9|h9|h9)|h9)
 .exact dV hb h.blk ai h9
 .exact dV hb h.fJ.blk ai h9
 .exact bg h.gK hb ai _ h9 rfl
 .exact bg h.iC hb ai _ h9 rfl
 .exact bg h.dJ hb ai _ h9 rfl
 .exact bg h.fJ.row hb ai _ h9 rfl
 .exact c h9
def yX (A:Nat) (w:World):Nat:=match w.cell? ⟨A,1,none⟩with|some (.slice _ n _)=>n|_=>0
theorem cO.yX (h:cO W base A Cb bv pv lv cv bh ch al pl n N wk):yX A W=bh.length:=by
 obtain⟨av,a,rfl,-,-,-⟩:=Rd.aG (enc:=dS) h.gK;unfold Proofs.YtkjdbndekceffaaGreat.yX;rw[h.cell.2.1]
end
def CW (bh:List lH) (k:Nat):List lH:=List.replicate k fH++bh.drop k
theorem Fu {bh:List lH} {k:Nat} (a:k<=bh.length):(CW bh k).length=bh.length:=by simp[CW];omega
theorem Ru {bh:List lH} {k:Nat} (a:k<bh.length):(CW bh k).set k fH=CW bh (k+1):=by
 unfold CW;rw[ui _ _ aA,iw,iM,mE a,oD,ry,dY];rfl
theorem Rv {bh a:List lH} {i:Nat} (h:a=bh/\i<bh.length\/a=bh++[fH]/\i=bh.length) (hd:lH):((CW a i).set i hd).map (·.2.1)=List.replicate i []++hd.2.1::(bh.map (·.2.1)).drop (i+1):=by
 have c:i<a.length:=by rcases h with⟨rfl,h⟩|⟨rfl,h⟩<;>first|omega|(simp;omega)
 have b:(a.drop (i+1)).map (·.2.1)=(bh.map (·.2.1)).drop (i+1):=by
  rcases h with⟨rfl,h⟩|⟨rfl,h⟩
  .rw[xS]
  .rw[ow aF,ow aF];rfl
 unfold CW;rw[ui _ _ aA,iw,iM,mE c,oD,bP,lX,b,Ei]
theorem K4 {bh a:List lH} {i:Nat} (c:a=bh/\i<bh.length\/a=bh++[fH]/\i=bh.length) {hd h:lH} (d:h∈(CW a i).set i hd):h=hd\/h=fH\/h∈bh:=by
 rcases D6 d with h1|h1
 .unfold CW at h1;rw[bO]at h1;rcases h1 with h1|h1
  .exact .inr (.inl (Ag.1 h1).2)
  .have b:=Il h1;rcases c with⟨rfl,-⟩|⟨rfl,-⟩
   .exact .inr (.inr b)
   .rcases bO.1 b with h3|h3
    .exact .inr (.inr h3)
    .exact .inr (.inl (aP h3))
 .exact .inl h1
theorem xu {w:World} {base n:Nat} {v:Value} {l:List iW} (a:l.length=n) (j:n<4611686018427387904) (h:w.ownsRow base 204 2 v n (l.flatMap iK)) (p:base<=w.heap.size):
  Calls prog 133 #[v] w fun e w'=>e=.returned v/\∃l':List iW,l'.Perm l/\l'.Pairwise (fun x y=>x.1<=y.1)/\w'.ownsRow base 204 2 v n (l'.flatMap iK)/\w.grownBy w' v.ownBlock:=by
 rcases h.2 with⟨rfl,b⟩|⟨g,k,m,rfl,q,_⟩
 .subst b;obtain rfl:l=[]:=gU a;have d:=ag h;go_enter func133,ntmps133
  go_wp2_with fail
  refine(EP none 0 _ w).mono ?_;rintro e w' ⟨rfl,rfl⟩;go_wp2;go_ret;exact⟨rfl,[],nS _,List.Pairwise.nil,d.o,⟨rfl,rfl,rfl,aB _,fun _ _ _=>rfl⟩⟩
 .have C:=ag (QF a j h);go_enter func133,ntmps133
  go_wp2_with fail
  refine C.o.mono ?_;rintro e w' ⟨rfl,l',hp,i,f,c⟩;go_wp2;go_ret;exact⟨rfl,l',hp,i,f,c⟩
section
variable {W:World} {base A Cb:Nat} {bv pv lv cv:Value} {bh ch:List lH} {al:List Bool} {pl:List Int} {n N wk:Int}
def Rw (W:World) (base A Cb:Nat) (bv pv lv cv:Value) (bh ch:List lH) (al:List Bool) (pl:List Int) (n N id p:Int) (e:Ending) (w':World):Prop:=
 ∃(R9 VY VX Ct:Value) (bh' qU:List lH) (Kg:Int),e=.returned (.int .i64 0)/\dL w' base A Cb R9 VY VX Ct bh' qU (al++[true]) (pl++[p]) (n+1) (N+1) Kg/\o5 (qU.map (·.2.1)) (bh'.map (·.2.1)) (al++[true]) (pl++[p]) (n+1) (N+1)/\
  (qU.map (·.2.1)).flatten.Perm ((id,(al.length:Int))::(ch.map (·.2.1)).flatten)/\(∀k,ou A Cb R9 VY VX Ct k->ou A Cb bv pv lv cv k\/W.heap.size<=k)/\ay (ou A Cb bv pv lv cv) W w'/\Nw W.heap.size bh bh'/\Nw W.heap.size ch qU
theorem JP (h:dL W base A Cb bv pv lv cv bh ch al pl n N wk) (dU:base<=W.heap.size) (aR:o5 (ch.map (·.2.1)) (bh.map (·.2.1)) al pl n N) (dj:al.length<5000) (id p:Int) (bL:∀x∈(ch.map (·.2.1)).flatten,x.1≠id):
  Calls prog 56 #[.pointer (some ⟨A,0,none⟩),.int .u32 id,.int .i64 p] W (Rw W base A Cb bv pv lv cv bh ch al pl n N id p):=by
 have b3:=ag (Du h);have H:=ag h;have af:=aR.RZ;have cd:=ag (fun W' (F:Below W.heap.size W W')=>oZ A id W' _ bh bv base ((h.below F).cell.2.1) (h.below F).gK rfl (h.below F).bE aR.sorted (by have:=af.1;simp at this;omega) (fun l c5=>by have:=af.2.2.1 l c5;omega));have eg:0<=n/\n<=5000:=by
  have h1:=aR.cnt;have Y:al.count true<=al.length:=Ea;omega
 have aj:=ag aR;go_enter func56,ntmps56
 go_wp2_with fail
 refine b3.o.mono ?_;rintro e w2 ⟨rfl,an⟩
 go_wp2_with fail
 refine(cd.o w2 an).mono ?_;rintro e w3 ⟨k,t,rfl,ht,m,cW⟩;have aS:=an.trans (cW.mono an.size);have a1:=ag (H.o.below aS);have⟨dw,dx,dy,dz,dA⟩:=a1.o.cell;have c4:k=-1:=by
  rcases m with⟨y,bV,h1,Y⟩|⟨rfl,-⟩
  .rw[fT aj.o.perm]at bV;exact absurd h1 (bL _ bV)
  .rfl
 subst c4;have f4:=a1.o.frozen 4;have a3:=a1.o.SV (n+1);have cj:=ag aj.o.len;have eh:pl.length<5000:=by have:=cj.o;omega
 have u:=ag (a3.below ((aJ _ _).alloc (aB _) (.cells #[.int .u32 id,.int .i64 (al.length:Int)] 204)));have bl:Hid (ay (fun k=>k=A) W ((w3.setCell ⟨A,4,none⟩ (.int .i64 (n+1))).alloc (.cells #[.int .u32 id,.int .i64 (al.length:Int)] 204))):=((((ay.refl (fun k=>k=A) W).below aS).set (a:=⟨A,4,none⟩) _ (.inl rfl)).alloc _);have ds:((w3.setCell ⟨A,4,none⟩ (.int .i64 (n+1))).alloc (.cells #[.int .u32 id,.int .i64 (al.length:Int)] 204)).cell? ⟨w3.heap.size,0,none⟩=some (.int .u32 id):=by rw[eu _ _ _ _ aA];rfl
 have x1:((w3.setCell ⟨A,4,none⟩ (.int .i64 (n+1))).alloc (.cells #[.int .u32 id,.int .i64 (al.length:Int)] 204)).cell? ⟨w3.heap.size,1,none⟩=some (.int .i64 (al.length:Int)):=by rw[eu _ _ _ _ aA];rfl
 have bT:w3.heap.size<((w3.setCell ⟨A,4,none⟩ (.int .i64 (n+1))).alloc (.cells #[.int .u32 id,.int .i64 (al.length:Int)] 204)).heap.size:=aA;have dR:W.heap.size<=w3.heap.size:=aS.size;have cA:=ag ds;have cB:=ag x1;have⟨d0,d1,d2,d3,d4⟩:=a3.cell;obtain⟨dn,dm,c9,-,-,-⟩:=Rd.aG a3.dJ;subst c9
 go_upto_region 11 with fail
 generalize((w3.setCell ⟨A,4,none⟩ (.int .i64 (n+1))).alloc (.cells #[.int .u32 id,.int .i64 (al.length:Int)] 204))=ah at*;generalize Value.slice dn al.length dm=M at*
 go_cut []from 61 to 79 (fun D=>∃s r,Hid (dL D base A Cb bv s r cv bh ch (al++[true]) (pl++[p]) (n+1) N wk)/\Hid (s.ownBlock=pv.ownBlock\/∃b,s.ownBlock=some b/\W.heap.size<=b)/\Hid (r.ownBlock=M.ownBlock\/∃b,r.ownBlock=some b/\W.heap.size<=b)/\Hid (ay (fun k=>k=A\/pv.ownBlock=some k\/M.ownBlock=some k) ah D))
 case first=>
  obtain⟨-,b0,dp,ei,-⟩:=u.o.cell;have dG:∀j,ah.frozen? ⟨A,j,none⟩=false:=u.o.frozen;have dK:=u.o.lt;have dP:=H.o.lt;have dd:∀d,pv.ownBlock=some d->d<ah.heap.size/\d≠A:=fun d e=>⟨(u.o.iC.lt d e).2,fun a6=>bg u.o.iC u.o.blk ai d e a6.symm⟩;have c7:∀d,M.ownBlock=some d->d<ah.heap.size/\d≠A:=fun d e=>⟨(u.o.dJ.lt d e).2,fun a6=>bg u.o.dJ u.o.blk ai d e a6.symm⟩;have de:∀d,pv.ownBlock=some d->M.ownBlock≠some d:=fun d e e2=>by
   rcases u.o.dJ.2 with⟨rfl,_⟩|⟨g,dC,X,rfl,_,aq,_⟩
   .cases e2
   .simp only[Value.ownBlock,jk]at e2;subst e2;exact bg u.o.iC aq ai _ e rfl
  have aH:=ag dd;have az:=ag c7;have bk:=ag de;have dW:base<=ah.heap.size:=by have:=bl.o.size;omega
  have cQ:=u.o.blk
  go_region_law (first
   |(refine bC yf base (aU (S:=fun _=>False) u.o.dJ (by repeat(first|exact ay.refl _ _|refine ay.drew ?_|refine ay.alloc ?_ _)) (fun _ _ h=>h)) [.bool true] rfl (by simp[Value.oneCell']) rfl (.tmp 66) (.tmp 67) rfl rfl _ rfl (by first|exact kZ _ _|exact C9 _ _ _|exact Da _ _ _) dI aa (by first|(simp;done)|(simp;omega)) ?_
     intro ak cC b1 cS Z bt dN;have⟨ej,ek⟩:=bY ((ay.refl (fun k=>M.ownBlock=some k) _).grown Z (fun k m=>.inl m)) (b:=A) (by first|(simp;done)|(simp;omega)) (fun e=>(az.o _ e).2 rfl);have dO:A<b1.heap.size:=by(have:=Z.size;simp at this;omega)
     have aT:Hid (ak≠A/\pv.ownBlock≠some ak/\(M.ownBlock=some ak\/W.heap.size<=ak)):=(by
      rcases bt with h9|h9
      .exact⟨(az.o _ h9).2,fun e=>bk.o _ e h9,.inl h9⟩
      .simp at h9;exact⟨aa,fun e=>by(have:=(aH.o _ e).1;omega),.inr aa⟩)
     clear bt)
   |(refine bC nD base (aU (S:=fun k=>M.ownBlock=some k) u.o.iC (by repeat(first|exact ay.refl _ _|refine ay.drew ?_|refine ay.alloc ?_ _|refine ay.grown ?_ Z (fun k m=>.inl m))) (fun d e e2=>bk.o d e e2)) [.int .i64 p] rfl (by simp[Value.oneCell']) rfl (.tmp 72) (.tmp 74) rfl rfl _ rfl (by first|exact df _ _|(refine(Z.block _ (by first|(simp;done)|(simp;omega)) (fun e=>by have:=(az.o _ e.symm).1;omega)).trans ?_;first|exact kZ _ _|exact C9 _ _ _|exact Da _ _ _)) dI aa (by have:=Z.size;simp at this |-;omega) ?_
     intro am cD wp cV a7 bx dQ;have⟨el,em⟩:=bY ((ay.refl (fun k=>pv.ownBlock=some k) _).grown a7 (fun k m=>.inl m)) (b:=A) (by have:=Z.size;simp at this |-;omega) (fun e=>(aH.o _ e).2 rfl);have bf:Hid (am≠A/\(pv.ownBlock=some am\/W.heap.size<=am)):=(by
      rcases bx with h9|h9
      .exact⟨(aH.o _ h9).2,.inl h9⟩
      .have P:=Z.size;simp at h9 P;exact⟨aa,.inr aa⟩)
     clear bx))
  all_goals go_wp2_with fail
  all_goals go_meet
  all_goals
   have aZ:ay (fun k=>pv.ownBlock=some k\/M.ownBlock=some k) ah wp:=(by repeat(first|exact ay.refl _ _|with_reducible refine ay.drew ?_|with_reducible refine ay.alloc ?_ _|refine ay.grown ?_ a7 (fun k m=>.inl (.inl m))|refine ay.grown ?_ Z (fun k m=>.inl (.inr m))));have cy:ay (fun k=>k=A\/pv.ownBlock=some k) b1 wp:=(by repeat(first|exact ay.refl _ _|with_reducible refine ay.drew ?_|with_reducible refine ay.alloc ?_ _|refine ay.grown ?_ a7 (fun k m=>.inl (.inr m))));have F:=bz aZ cQ (fun e=>e.elim (fun e=>(aH.o _ e).2 rfl) (fun e=>(az.o _ e).2 rfl));refine⟨.slice (some ⟨am,0,none⟩) (pl.length+1) cD,.slice (some ⟨ak,0,none⟩) (al.length+1) cC,u.o.rows (al':=al++[true]) (pl':=pl++[p]) ?_ ?_ ?_ ?_,?_,?_,?_⟩
   .exact((aZ.mono (fun k h=>.inr h)).set _ (.inl (.inl rfl))).set _ (.inl (.inl rfl))
   .first|exact sM (sM F rfl) rfl|exact sM (sM F rfl) rfl
   .rw[bQ,bP];exact aU (S:=fun k=>k=A) cV (((ay.refl (fun k=>k=A) wp).set (a:=⟨A,_,none⟩) _ (.inl rfl)).set (a:=⟨A,_,none⟩) _ (.inl rfl)) (fun d e e2=>by
     have aL:am=d:=by injection e
     exact bf.o.1 (aL.trans e2))
   .rw[bQ,bP];exact aU (S:=fun k=>k=A\/pv.ownBlock=some k) cS ((cy.set _ (.inl (.inl rfl))).set _ (.inl (.inl rfl))) (fun d e e2=>by
     injection e with e;subst e;rcases e2 with e2|e2
     .exact aT.o.1 e2
     .exact aT.o.2.1 e2)
   .rcases bf.o.2 with h9|h9
    .exact .inl h9.symm
    .exact .inr ⟨am,rfl,h9⟩
   .rcases aT.o.2.2 with h9|h9
    .exact .inl h9.symm
    .exact .inr ⟨ak,rfl,h9⟩
   .exact((aZ.mono (fun k h=>.inr h)).set _ (.inl (.inl rfl))).set _ (.inl (.inl rfl))
 case rest=>
  have⟨s,r,R,cq,ci,aV⟩:=hcut;obtain⟨w6,cK⟩:∃w6:World,w6=wc:=⟨_,rfl⟩;subst cK;have dM:=H.o.lt;have bK:¬(w3.heap.size=A\/pv.ownBlock=some w3.heap.size\/M.ownBlock=some w3.heap.size):=by
   rintro(h9|h9|h9)
   .omega
   .have:=(H.o.iC.lt _ h9).2;omega
   .have:=(H.o.dJ.lt _ h9).2;omega
  have ep:=((bY aV.o bT bK).1 0).trans cA.o;have y1:=((bY aV.o bT bK).1 1).trans cB.o;have bm:Hid (ay (ou A Cb bv pv M cv) W w6):=by
   refine(bl.o.mono (fun k h=>.inl h)).trans (W:=W) (w1:=ah) (w2:=w6) ?_;exact aV.o.mono (fun k h=>by
    rcases h with h|h|h
    .exact .inl h
    .exact .inr (.inr (.inr (.inl h)))
    .exact .inr (.inr (.inr (.inr (.inl h)))))
  have bB:=bm.o.size;have⟨dD,dE,e2,aL,dF⟩:=R.o.cell;have a2:Hid (dL w6.drew base A Cb bv s r cv bh ch (al++[true]) (pl++[p]) (n+1) N wk):=R.o.below (aJ _ _).drew;have cU:0<=N/\N<=100000:=by
   have h1:=aj.o.stored;have Y:=af.2.2.2;omega
  have c0:ch.length<=1000:=by
   have h1:=aj.o.levels.1;simp at h1;omega
  have b2:=ag (QG a2.o.fJ (by have:=bB;simp;omega) a2.o.cE id (al.length:Int) cU c0 (by have:=af.2.2.2;omega))
  go_upto_region 12 with fail
  go_cut [10,11]from 80 to 88 (fun dl dq D=>∃(i:Nat) (bb a4:Value) (aK:List lH) (dr:Int),dl=.int .i64 i/\bb=dq/\i<=ch.length/\Hid (∀j (bI:j<ch.length),j<i->ch[j].2.1≠[])/\Hid (∀hi:i<ch.length,ch[i].2.1=[])/\
   Hid (cO D base A Cb bv s r a4 bh aK (al++[true]) (pl++[p]) (n+1) (N+1) dr)/\Hid (∀bq:World,(∀(b:Nat) X fr,D.heap[b]? =some (Obj.cells X 204 fr)->bb.ownBlock≠some b->bq.heap[b]? =D.heap[b]?)->jX bq aK)/\Hid (aK.map (·.2.1)=kC (ch.map (·.2.1)) i (id,(al.length:Int)))/\
   Hid (D.ownsRow w6.heap.size 204 2 bb (eO (ch.map (·.2.1)) i++[(id,(al.length:Int))]).length ((eO (ch.map (·.2.1)) i++[(id,(al.length:Int))]).flatMap iK))/\
   Hid (a4.ownBlock=cv.ownBlock\/∃b,a4.ownBlock=some b/\W.heap.size<=b)/\Hid (ay (fun k=>k=Cb\/cv.ownBlock=some k) w6 D)/\Hid (Nw W.heap.size ch aK))
  case first=>
   go_region_with (go_at_call 132;(with_reducible refine b2.o.mono ?_);rintro e G ⟨i,ba,L,K,O,rfl,hi,aO,ap,bD,⟨dh,bS⟩,bJ,bN,bF,bw,bM,-⟩;have co:=ag bM;have cm:=ag aO;have cc:=ag ap;have b9:=ag bD;have ct:=ag bS;have ck:=ag bJ;have cp:=ag bN;have bd:=ag bF;have ac:=ag bw;clear aO ap bD dh bS bJ bN bF bw bM)
   all_goals go_wp2_with fail
   all_goals go_meet
   all_goals
    refine⟨i,ba,L,K,O,rfl,rfl,hi,cm,cc,?_,ct,ck,cp,?_,?_,Nw.refl.trans co.o aF⟩
    .exact a2.o.core.add ac.o b9.o (bd.o.imp (fun h=>h) .inr)
    .rcases bd.o with h9|⟨b,h9,P⟩
     .exact .inl h9
     .exact .inr ⟨b,h9,by simp at P;omega⟩
    .exact((ay.refl _ w6).drew).trans ac.o
  case rest=>
   obtain⟨i,ba,L,K,O,rfl,rfl,hi,cl,cb,au,cs,bj,aE,ca,ac,cn⟩:=hcut;obtain⟨G,cL⟩:∃G:World,G=wc:=⟨_,rfl⟩;subst cL;have b5:Hid (bh.length=ch.length):=ag (by have:=aj.o.perm.1;simpa using this);have dY:bh.length<=13:=by have:=af.1;simpa using this
   have cx:Hid ((eO (ch.map (·.2.1)) i++[(id,(al.length:Int))]).length<=5001):=by
    show _<=_;rw[bQ,(jy _ i).length_eq];have aL:((ch.map (·.2.1)).take i).flatten++((ch.map (·.2.1)).drop i).flatten=(ch.map (·.2.1)).flatten:=by rw[<-kY,jB]
    have cI:=congrArg List.length aL;rw[bQ]at cI;have:=af.2.2.2;simp only[ed,fC];omega
   have du:=ag af
   go_upto_block 0 with fail
   go_cut []from 89 to 104 (fun D=>∃(q:Value) (c:List lH),Hid (cO D base A Cb q s r L c K (al++[true]) (pl++[p]) (n+1) (N+1) O)/\Hid (c=bh/\i<bh.length\/c=bh++[fH]/\i=bh.length)/\Hid (q.ownBlock=bv.ownBlock\/∃b,q.ownBlock=some b/\G.heap.size<=b)/\Hid (ay (fun k=>k=A\/bv.ownBlock=some k) G D))
   case first=>
    go_wp2_with fail
    go_loopw [] (fun wr=>∃(q:Value) (c:List lH),Hid (cO wr base A Cb q s r L c K (al++[true]) (pl++[p]) (n+1) (N+1) O)/\Hid (c=bh/\q=bv/\wr=G\/c=bh++[fH]/\i=bh.length)/\Hid (q.ownBlock=bv.ownBlock\/∃b,q.ownBlock=some b/\G.heap.size<=b)/\Hid (ay (fun k=>k=A\/bv.ownBlock=some k) G wr)) (fun wr=>i+1-yX A wr)
    case atStart=>exact⟨bv,bh,au,.inl ⟨rfl,rfl,rfl⟩,.inl rfl,ay.refl _ _⟩
    case round=>
     have⟨q,c,E,V,aI,ax⟩:=hrel;obtain⟨av,cF,aM,-,dZ,-⟩:=Rd.aG (enc:=dS) E.o.gK;obtain⟨-,br,-⟩:=E.o.cell;by_cases aN:i<c.length
     .have b4:Hid (c=bh/\i<bh.length\/c=bh++[fH]/\i=bh.length):=by
       rcases V.o with⟨h1,-⟩|h1
       .exact .inl ⟨h1,h1▸aN⟩
       .exact .inr h1
      have cH:decide (c.length<=i)=false:=aF;rw[aM]at br
      go_wp2_with fail
      go_meet;exact⟨q,c,E,b4,aI,ax⟩
     .obtain⟨rfl,rfl,rfl⟩:c=bh/\q=bv/\wr=G:=by
       rcases V.o with h1|⟨h1,Y⟩
       .exact h1
       .rw[h1]at aN;simp at aN;omega
      have c2:i=c.length:=by have:=b5.o;omega
      subst c2;have cH:decide (c.length<=c.length)=true:=aA;have Q:=E.o.gK;have dt:Hid (wr.heap[A]? =some (Obj.cells #[.pointer (some ⟨Cb,0,none⟩),q,s,r,.int .i64 (n+1)] 207 (0,0))):=E.o.blk;have b6:Hid (∀C,wr.grownBy C q.ownBlock->C.heap[A]? =some (Obj.cells #[.pointer (some ⟨Cb,0,none⟩),q,s,r,.int .i64 (n+1)] 207 (0,0))):=fun C ab=>bz ((ay.refl (fun k=>q.ownBlock=some k) wr).grown ab (fun k m=>.inl m)) E.o.blk (fun e=>bg E.o.gK E.o.blk ai _ e rfl);have cY:base<=wr.heap.size:=by have:=ac.o.size;omega
      subst aM
      go_wp2_with (at_builtin;go_loud (refine bX Kq base Q [.slice none 0 0] rfl (by simp[Value.oneCell']) rfl _ _ rfl rfl _ rfl dI aa cY ?_;intro eo C bO ab cX;obtain⟨cP,cG,rfl,d7,d8,d9,ea⟩:=aQ bO aa;have bW:=b6.o C ab;have b0:C.cell? ⟨A,1,none⟩=some (.slice av c.length cF):=(aD bW);have dp:C.frozen? ⟨A,1,none⟩=false:=(aD bW)))
      have dc:C.ownsRow base 209 1 (.slice (some ⟨cP,0,none⟩) (c.length+1) cG) (c++[fH]).length ((c++[fH]).map dS):=by
       rw[bQ,bP];exact bO
      have an:=gH cX;have ao:=E.o.PN ab dc (an.imp (fun h=>h) .inr);go_roundw
      case rel=>
       refine⟨_,c++[fH],ao,.inr ⟨rfl,by first|rfl|trivial⟩,an,(ax.o.grown ab (fun k m=>.inl (.inr m))).set (a:=⟨A,1,none⟩) _ (.inl (.inl rfl))⟩
      case measure=>
       rw[ao.yX,E.o.yX];simp
   case rest=>
    have⟨q,c,E,V,aI,ax⟩:=hcut;obtain⟨C,cM⟩:∃C:World,C=wc:=⟨_,rfl⟩;subst cM;have ec:i<c.length:=by
     rcases V.o with⟨h1,Y⟩|⟨h1,Y⟩
     .rw[h1];exact Y
     .rw[h1];simp;omega
    have ee:c.length<=14:=by
     rcases V.o with⟨h1,Y⟩|⟨h1,Y⟩
     .rw[h1];omega
     .rw[h1];simp;omega
    obtain⟨f,ad,aM,d5,d6,-,-⟩:=aQ E.o.gK aa;subst aM;have b7:Hid (cO C base A Cb (.slice (some ⟨f,0,none⟩) c.length ad) s r L (CW c 0) K (al++[true]) (pl++[p]) (n+1) (N+1) O):=E.o;have eb:(0:Int)<=(i:Int):=aa
    go_upto_block 2 with fail
    go_cut []from 106 to 115 (fun D=>Hid (cO D base A Cb (.slice (some ⟨f,0,none⟩) c.length ad) s r L (CW c i) K (al++[true]) (pl++[p]) (n+1) (N+1) O)/\Hid (ay (fun k=>k=f) C D))
    case first=>
     go_wp2_with fail
     go_loopw [106] (fun a9 wr=>∃k:Nat,a9=.int .i64 k/\k<=i/\Hid (cO wr base A Cb (.slice (some ⟨f,0,none⟩) c.length ad) s r L (CW c k) K (al++[true]) (pl++[p]) (n+1) (N+1) O)/\Hid (ay (fun k=>k=f) C wr)) (fun a9 _=>i-(intOf a9).toNat)
     case atStart=>exact⟨0,rfl,bH _,b7,ay.refl _ _⟩
     case round=>
      obtain⟨k,rfl,ef,aw,bi⟩:=hrel;by_cases aN:k<i
      .have Q:=aw.o.gK;have ae:(CW c k).length=c.length:=Fu aa;rw[ae]at Q;have ar:=Q.cellAt k aa;rw[bZ (show k<((CW c k).map dS).length by rw[bR];omega)]at ar;generalize((CW c k).map dS)[k]'(by rw[bR];omega)=zv at ar;have dH:=Q.frozenAt k;obtain⟨-,br,-⟩:=aw.o.cell;have cw:Hid (cO (wr.setCell ⟨f,k,none⟩ (.slice none 0 0)) base A Cb (.slice (some ⟨f,0,none⟩) c.length ad) s r L (CW c (k+1)) K (al++[true]) (pl++[p]) (n+1) (N+1) O):=by
        have h9:=aw.o.U0 ae.symm k fH;rw[Ru aa]at h9;exact h9
       have c8:(k:Int)<(c.length:Int):=aa
       go_wp2_with fail
       go_roundw
       case rel=>exact⟨k+1,by go_num,aa,cw,bi.o.set (a:=⟨f,k,none⟩) _ (.inl rfl)⟩
       case measure=>exact dX
      .obtain rfl:k=i:=aa
       go_wp2_with fail
       go_meet;exact⟨aw,bi⟩
    case rest=>
     have⟨be,cg⟩:=hcut;obtain⟨U,cN⟩:∃U:World,U=wc:=⟨_,rfl⟩;subst cN;generalize cT:eO (ch.map (·.2.1)) i++[(id,(al.length:Int))]=I at*;have ce:=ag cT;have aX:Hid (ay (fun k=>k=A\/bv.ownBlock=some k) G U):=by
      refine ay.strip ((ax.o.mono (fun k h=>.inl h)).trans (cg.o.mono (fun k h=>?_)));rcases aI.o with h9|⟨b,h9,P⟩
      .exact .inl (.inr (by rw[<-h9,h];rfl))
      .have cR:f=b:=by injection h9
       exact .inr aa
     have a0:U.ownsRow w6.heap.size 204 2 ba I.length (I.flatMap iK):=aU aE.o aX.o (fun d e=>by
      rintro(h9|h9)
      .exact bg aE.o au.o.blk ai d e h9.symm
      .exact bu au.o.gK aE.o ai d h9 e)
     have dk:w6.heap.size<=U.heap.size:=bA ac.o.size aX.o.size;obtain⟨v,B,cJ,-,cZ,-⟩:=LY.aG a0;subst cJ;have b8:=ag cZ;have ST:=ag (xu (w:=U.drew) (base:=w6.heap.size) rfl (by have:=cx.o;omega) (a0.bn 1) dk);have cz:Calls prog 133 #[.slice v I.length B] U.drew fun e J=>∃(l':List iW) (z:Value),e=.returned (.slice v I.length B)/\Hid (l'.Perm I)/\Hid (l'.Pairwise (fun x y=>x.1<=y.1))/\Hid (LY J v l')/\
       Hid (cO J base A Cb (.slice (some ⟨f,0,none⟩) c.length ad) s r L (CW c i) K (al++[true]) (pl++[p]) (n+1) (N+1) O)/\Hid (ay (fun k=>Value.ownBlock (.slice v I.length B)=some k) U J)/\
       J.cell? ⟨A,1,none⟩=some (.slice (some ⟨f,0,none⟩) c.length ad)/\J.cell? ⟨f,i,none⟩=some z/\J.frozen? ⟨f,i,none⟩=false:=by
      refine ST.o.mono ?_;rintro e J ⟨rfl,l',hp,di,da,ab⟩;have ao:=(be.o.below (aJ _ _).drew).Wl (a0.bn 1) ab;have Q:=ao.gK;have ae:(CW c i).length=c.length:=Fu aa;rw[ae]at Q;have ar:=Q.cellAt i aa;rw[bZ (show i<((CW c i).map dS).length by rw[bR];omega)]at ar;have db:J.ownsRow w6.heap.size 204 2 (.slice v I.length B) l'.length (l'.flatMap iK):=by rw[hp.length_eq];exact da
      obtain⟨dv,dB,a5,-,dg⟩:=LY.aG db;injection a5 with a5 _ _;subst a5;exact⟨l',_,rfl,hp,di,dg.2,ao,((ay.refl _ U).drew).grown ab (fun k m=>.inl m),ao.cell.2.1,ar,Q.frozenAt i⟩
     have c8:(i:Int)<(c.length:Int):=aa;obtain⟨-,en,-⟩:=be.o.cell
     go_upto_region 20 with fail
     go_region_with (go_at_call 133;(with_reducible refine cz.mono ?_);rintro e J ⟨l',z,rfl,aW,cu,cr,bc,cf,b0,eq,f10⟩)
     all_goals go_wp2_with fail
     all_goals go_ret
     all_goals
      have c6:Value.slice v I.length B=dS (v,l',B):=by unfold dS;simp only;rw[aW.o.length_eq]
      rw[c6];have ae:(CW c i).length=c.length:=Fu aa;have bG:bv.ownBlock=some f\/G.heap.size<=f:=by
       rcases aI.o with h9|⟨b,h9,P⟩
       .exact .inl h9.symm
       .have cR:f=b:=by injection h9
        exact .inr aa
      have dT:W.heap.size<=G.heap.size:=bA bB ac.o.size;have bU:∀k,Value.ownBlock (.slice v I.length B)=some k->w6.heap.size<=k:=fun k h=>(aE.o.lt k h).1;have bp:ay (fun k=>(k=A\/bv.ownBlock=some k)\/Value.ownBlock (.slice v I.length B)=some k) G (J.setCell ⟨f,i,none⟩ (dS (v,l',B))):=
       ((aX.o.mono (fun k h=>.inl h)).trans (cf.o.mono (fun k h=>.inr h))).set (a:=⟨f,i,none⟩) _ (by
        rcases bG with h9|h9
        .exact .inl (.inl (.inr h9))
        .exact .inr h9)
      have bo:ay (fun k=>((k=Cb\/cv.ownBlock=some k)\/(k=A\/bv.ownBlock=some k))\/w6.heap.size<=k) w6 (J.setCell ⟨f,i,none⟩ (dS (v,l',B))):=
       (ac.o.mono (fun k h=>.inl (.inl h))).trans (bp.mono (fun k h=>by
        rcases h with h|h
        .exact .inl (.inr h)
        .exact .inr (bU k h)))
      have ap:∀h:i<(ch.map (·.2.1)).length,(ch.map (·.2.1))[i]=[]:=fun h=>by
       have:=cb.o (aP h);simpa using this
      refine⟨.slice (some ⟨f,0,none⟩) c.length ad,s,r,L,(CW c i).set i (v,l',B),K,O,rfl,(bc.o.U0 ae.symm i (v,l',B)).rep ?_ ?_,?_,?_,?_,?_,?_,cn.o⟩
      .intro h aq;rcases K4 V.o aq with rfl|rfl|h1
       .obtain⟨X,c1⟩:=zP (k:=c.length) (by have h9:=bc.o.gK;rw[ae]at h9;exact h9);exact⟨cr.o.kept fun b X fr F=>aC (dV c1 F ai),by show l'.length<=B;rw[aW.o.length_eq];exact b8.o⟩
       .exact⟨.inl rfl,aB _⟩
       .refine⟨(R.o.bE h h1).1.kept fun b X fr F=>R.o.core.eZ (T:=fun k=>w6.heap.size<=k) (bo.mono (fun k h=>?_)) b X fr F (by have:=(aY.1 F).1;omega),(R.o.bE h h1).2⟩;rcases h with((h|h)|(h|h))|h
        .exact .inl (.inr (.inl h))
        .exact .inl (.inr (.inr (.inr (.inr (.inr h)))))
        .exact .inl (.inl h)
        .exact .inl (.inr (.inr (.inl h)))
        .exact .inr h
      .refine cs.o _ fun b X fr F aO=>au.o.eZ (T:=fun k=>Value.ownBlock (.slice v I.length B)=some k) (bp.mono (fun k h=>?_)) b X fr F aO;rcases h with(h|h)|h
       .exact .inl (.inl h)
       .exact .inl (.inr (.inr (.inl h)))
       .exact .inr h
      .rw[bj.o,Rv V.o];refine Ov aj.o id p bL dj i (aP hi) (fun j bI c3=>?_) ap l' (by rw[ce.o];exact aW.o) cu.o;have:=cl.o j (aP bI) c3;simpa using this
      .rw[bj.o];exact tJ _ i _ ap
      .rintro k (h|h|h|h|h|h)
       .exact .inl (.inl h)
       .exact .inl (.inr (.inl h))
       .rcases bG with h9|h9
        .exact .inl (.inr (.inr (.inl (h9.trans h))))
        .have P:f=k:=by injection h
         exact .inr aa
       .rcases cq.o with h9|⟨b,h9,P⟩
        .exact .inl (.inr (.inr (.inr (.inl (h9.symm.trans h)))))
        .have bs:b=k:=by rw[h9]at h;injection h
         exact .inr aa
       .rcases ci.o with h9|⟨b,h9,P⟩
        .exact .inl (.inr (.inr (.inr (.inr (.inl (h9.symm.trans h))))))
        .have bs:b=k:=by rw[h9]at h;injection h
         exact .inr aa
       .rcases ca.o with h9|⟨b,h9,P⟩
        .exact .inl (.inr (.inr (.inr (.inr (.inr (h9.symm.trans h))))))
        .have bs:b=k:=by rw[h9]at h;injection h
         exact .inr aa
      .refine ay.strip ((bm.o.mono (fun k h=>.inl h)).trans (bo.mono (fun k h=>?_)));rcases h with((h|h)|(h|h))|h
       .exact .inl (.inr (.inl h))
       .exact .inl (.inr (.inr (.inr (.inr (.inr h)))))
       .exact .inl (.inl h)
       .exact .inl (.inr (.inr (.inl h)))
       .exact .inr aa
      .intro h aq;rcases K4 V.o aq with rfl|rfl|h1
       .exact .inr fun a a8=>by
         have:=bU a.block (by rw[show v=some a from a8];rfl);omega
       .exact .inr fun a a8=>by cases a8
       .exact .inl h1
end
section
variable {W:World} {base A Cb:Nat} {bv pv lv cv:Value} {bh ch:List lH} {al:List Bool} {pl:List Int} {n N wk:Int}
def ku (al:List Bool) (CB:List (List iW)) (m:Nat):List iW:=((CB.drop m).reverse.flatten).filter (dF al)
theorem M8 (al:List Bool) (CB:List (List iW)):ku al CB CB.length=[]:=by unfold ku;rw[List.drop_length];rfl
theorem JQ (al:List Bool) (CB:List (List iW)) (k:Nat) (h:k<CB.length):ku al CB k=ku al CB (k+1)++CB[k].filter (dF al):=by
 unfold ku;rw[mE h,Ao,kY,lU];simp
theorem M9 (al:List Bool) (CB:List (List iW)) (m:Nat):(ku al CB m).length<=CB.flatten.length:=by
 unfold ku;refine bA (gV _ _) ?_;rw[((uN (CB.drop m)).flatten).length_eq];have a:(CB.take m).flatten++(CB.drop m).flatten=CB.flatten:=by rw[<-kY,jB]
 have:=congrArg List.length a;rw[bQ]at this;omega
def JR (Vh Vu:List lH):Prop:=Vh.length<=Vu.length/\∀(j:Nat) (h:j<Vh.length) (h':j<Vu.length),Vh[j].2.1.Perm Vu[j].2.1/\Vh[j].2.1.Pairwise (fun x y=>x.1<=y.1)
theorem JR.step {a b:List lH} (h:JR a b) {hd:lH} (hi:a.length<b.length) (hp:hd.2.1.Perm b[a.length].2.1) (g:hd.2.1.Pairwise (fun x y=>x.1<=y.1)):JR (a++[hd]) b:=by
 refine⟨aF,fun j d e=>?_⟩;by_cases c:j<a.length
 .rw[qK c];exact h.2 j c e
 .have f:j=a.length:=by simp at d;omega
  subst f;rw[vX aa];simp only[iM,nA];exact⟨hp,g⟩
theorem JR.done {a b:List lH} (h:JR a b) (g:a.length=b.length):Dv (a.map (·.2.1)) (b.map (·.2.1))/\∀l∈a.map (·.2.1),l.Pairwise fun p q=>p.1<=q.1:=by
 refine⟨⟨aP g,fun i c d=>?_⟩,fun l k=>?_⟩
 .rw[fM,fM];exact(h.2 i (aP c) (aP d)).1
 .obtain⟨hd,e,rfl⟩:=cu.1 k;obtain⟨j,f,rfl⟩:=jb e;exact(h.2 j f aa).2
def U1 (W:World) (base A Cb:Nat) (bv pv lv cv:Value) (ch:List lH) (al:List Bool) (pl:List Int) (n:Int) (e:Ending) (w':World):Prop:=
 ∃(R9 Ct:Value) (bh' qU:List lH) (N' Kg:Int),e=.returned (.tuple #[])/\dL w' base A Cb R9 pv lv Ct bh' qU al pl n N' Kg/\o5 (qU.map (·.2.1)) (bh'.map (·.2.1)) al pl n N'/\
  (∀id p,gQ (qU.map (·.2.1)).flatten al pl id p↔gQ (ch.map (·.2.1)).flatten al pl id p)/\(∀k,ou A Cb R9 pv lv Ct k->ou A Cb bv pv lv cv k\/W.heap.size<=k)/\ay (ou A Cb bv pv lv cv) W w'/\Nw W.heap.size [] bh'/\Nw W.heap.size [] qU
theorem CX:gF 210:=dh func210 aN rfl
theorem CY:gF 133:=dh func133 aN rfl
theorem Rx (h:dL W base A Cb bv pv lv cv bh ch al pl n N wk) (dw:base<=W.heap.size) (R:wV (ch.map (·.2.1)) (bh.map (·.2.1)) al pl n N):
  Calls prog 138 #[.pointer (some ⟨A,0,none⟩)] W (U1 W base A Cb bv pv lv cv ch al pl n):=by
 have H:=ag h;have aK:=ag R;have b3:=R.RZ;have dC:ch.length<=13:=by have:=R.levels.1;simpa using this
 have Z:Hid (∀m,(ku al (ch.map (·.2.1)) m).length<=5000):=fun m=>bA (M9 _ _ _) b3.2.2.2;have I:=ag (Bt h.fJ aa);have dy:=R.bound;obtain⟨aV,-⟩:=h.cell;clear h R b3;go_enter func138,ntmps138
 go_wp2_with fail
 refine I.o.mono ?_;rintro e w2 ⟨rfl,ae⟩;have aN:=ag (H.o.below ae);have da:=ae.size;have cq:=ag ae;clear aV I ae
 go_upto_block 0 with fail
 go_cut [2,3,5]from 13 to 40 (fun U z dq ck=>∃lw:Value,lw=U/\Hid (ck.ownsRow w2.heap.size 204 2 lw (ku al (ch.map (·.2.1)) 0).length ((ku al (ch.map (·.2.1)) 0).flatMap iK))/\Hid (Below w2.heap.size w2 ck))
 case first=>
  go_wp2_with fail
  go_loopw [3,2] (fun z U wr=>∃(m:Nat) (lw:Value),z=.int .i64 ((m:Int)-1)/\lw=U/\m<=ch.length/\Hid (wr.ownsRow w2.heap.size 204 2 lw (ku al (ch.map (·.2.1)) m).length ((ku al (ch.map (·.2.1)) m).flatMap iK))/\Below w2.heap.size w2 wr) (fun z _ _=>(intOf z+1).toNat)
  case atStart=>exact⟨ch.length,_,by go_num,rfl,aB _,by have:=M8 al (ch.map (·.2.1));rw[bR]at this;rw[this];exact dA _ _ _ _,aJ _ _⟩
  case round=>
   obtain⟨m,lw,rfl,rfl,dV,HO,g⟩:=hrel;rcases nC m with zz|zz
   .subst zz;have dD:¬(0:Int)<=((0:Nat):Int)-1:=aa;have ar:=ag g
    go_wp2_with fail
    go_meet;exact⟨_,rfl,HO,ar⟩
   .obtain⟨k,rfl⟩:∃k,m=k+1:=⟨m-1,aa⟩;have c6:(((k+1:Nat):Int)-1)=(k:Int):=aa;rw[c6];have dN:(0:Int)<=(k:Int):=aa;have c5:k<(ch.map (·.2.1)).length:=by rw[bR];omega
    have bx:=ag (JQ al (ch.map (·.2.1)) k c5);have aS:=ag (aN.o.below g);obtain⟨aV,-⟩:=aS.o.cell;have a7:k<ch.length:=aa;have d3:ch[k].2.1.length<=5000:=by
     have:=aK.o.RZ.2.2.2;have C:=qD (l:=ch[k].2.1) (CB:=ch.map (·.2.1)) (cu.2 ⟨_,bG a7,rfl⟩);omega
    have cB:Hid (∀x∈ch[k].2.1,∃k:Nat,x.2=(k:Int)/\k<al.length):=fun x dd=>aK.o.uf x (pM.2 ⟨_,cu.2 ⟨_,bG a7,rfl⟩,dd⟩);have CB:=ag (Bu aS.o.fJ aS.o.cE aa k a7 aa);have cN:Hid (ku al (ch.map (·.2.1)) k=ku al (ch.map (·.2.1)) (k+1)++ch[k].2.1.filter (dF al)):=by
     have:=bx.o;rw[fM]at this;exact this
    clear bx;generalize ch[k].2.1=lk at*;have dR:=Z.o (k+1);have dk:=ag (Z.o k);generalize ku al (ch.map (·.2.1)) (k+1)=L at*;obtain⟨aq,cY⟩:∃aq:World,aq=wr:=⟨_,rfl⟩;subst cY;have ar:=ag g;have ce:=g.size;clear g
    go_wp2_with fail
    refine CB.o.mono ?_;rintro e w3 ⟨dj,rfl,D,af⟩;have db:=af.size;have E:Hid (Below w2.heap.size w2 w3):=ar.o.trans (af.mono ce);have cC:=ag (az HO.o af);have cL:Hid (∀f,dj.ownBlock=some f->lw.ownBlock≠some f):=fun f e F=>by
     have h1:=(D.lt f e).1;have C:=(HO.o.lt f F).2;omega
    have cD:=ag D;obtain⟨bF,P,aY,-,-,-⟩:=LY.aG D;subst aY;clear D af aV;have dQ:lk.length<=9223372036854775807:=aa;have dB:w2.heap.size<=w3.heap.size:=aa;clear CB
    go_wp2_with fail
    go_loopw [24,2] (fun ba U wr=>∃(j:Nat) (ap:Value),ba=.int .i64 j/\ap=U/\j<=lk.length/\Hid (wr.ownsRow w2.heap.size 204 2 ap (L++(lk.take j).filter (dF al)).length ((L++(lk.take j).filter (dF al)).flatMap iK))/\Hid (wr.ownsRow aq.heap.size 204 2 (.slice bF lk.length P) lk.length (lk.flatMap iK))/\Hid (∀f,Value.ownBlock (.slice bF lk.length P)=some f->ap.ownBlock≠some f)/\Below w2.heap.size w2 wr) (fun ba _ _=>lk.length-(intOf ba).toNat)
    case atStart=>exact⟨0,_,rfl,rfl,bH _,by rw[lK,Et,iL];exact cC,cD,cL,E.o⟩
    case round=>
     obtain⟨j,ap,rfl,rfl,dG,aw,ax,aE,ah⟩:=hrel;have dc:=ah.size;by_cases ak:j<lk.length
     .obtain⟨dn,dp,aX,-,-,ca⟩:=LY.aG ax.o;injection aX with aX _ aY;subst aX aY;obtain⟨aT,bb,bI,dz,a4⟩:=ca.Nr.get aa;have cl:=a4 j ak 0 aa;have x1:=a4 j ak 1 aa;simp only[iK,fG,dx,dH]at cl x1;obtain⟨q,ao,b8⟩:=cB.o lk[j] (bG ak);have aR:=aN.o.below ah;obtain⟨d6,lc,bK,-,-,b9⟩:=Rd.aG aR.dJ;obtain⟨lb,lo,bJ,dP,b2⟩:=b9.get aa;have cm:=b2 q b8;obtain⟨-,-,-,cn,-⟩:=aR.cell;have O:Hid (L++(lk.take (j+1)).filter (dF al)=(L++(lk.take j).filter (dF al))++(if al[q]=true then[lk[j]]else[])):=by
       show _=_;rw[ig ak,lU,<-dY];congr 1;unfold dF;rw[lW,ao];simp only[ib,bZ b8];cases al[q]<;>simp
      have dM:(L++(lk.take j).filter (dF al)).length<=5000+5000:=by
       rw[bQ];have h1:=gV (dF al) (lk.take j);have C:(lk.take j).length<=lk.length:=by rw[eX];omega
       omega
      have ci:(lk[j]).2=(q:Int):=ao;rw[ao]at x1;have bj:=ag bI;have bk:=ag bJ;have bl:=ag bK;have aL:=ag ci;have dl:Hid (lk.length=lk.length):=ag rfl;clear a4 bI b2 bJ bK ao ci b9 ca aR;generalize cZ:L++(lk.take j).filter (dF al)=dm at*;generalize c2:al[q]=cT at*;generalize lk[j]=x at*;obtain⟨r,eg⟩:=x;simp only at cl x1 O aL;obtain rfl:=aL.o;obtain rfl:=bj.o;obtain rfl:=bk.o;obtain rfl:=bl.o;clear bj bk bl aL c2 cZ;have dK:(j:Int)<(lk.length:Int):=aa;have dW:(q:Int)<(al.length:Int):=aa;have X:Below wr.heap.size wr (wr.alloc (.cells #[.int .u32 r,.int .i64 (q:Int)] 204)):=(aJ _ _).alloc (aB _) _;have bc:(wr.alloc (.cells #[.int .u32 r,.int .i64 (q:Int)] 204)).cell? ⟨wr.heap.size,0,none⟩=some (.int .u32 r):=by rw[eu _ _ _ _ rfl];rfl
      have dg:(wr.alloc (.cells #[.int .u32 r,.int .i64 (q:Int)] 204)).cell? ⟨wr.heap.size,1,none⟩=some (.int .i64 (q:Int)):=by rw[eu _ _ _ _ rfl];rfl
      have eh:=(X.cell (p:=⟨lb,lo+q,none⟩) (gX wr _ cm)).trans cm;have ei:=(X.cell (p:=⟨A,3,none⟩) (gX wr _ cn)).trans cn;have aC:=ag ((aw.o.alloc (.cells #[.int .u32 r,.int .i64 (q:Int)] 204)).bn 1);have bu:=ag ((ax.o.alloc (.cells #[.int .u32 r,.int .i64 (q:Int)] 204)).bn 1);have bm:=ag ((ah.alloc dc (.cells #[.int .u32 r,.int .i64 (q:Int)] 204)).drew);cases cT
      .rw[aM ai,iL]at O;clear X;go_wp2;go_region
       all_goals
        go_wp2;go_roundw
        case rel=>exact⟨j+1,_,by go_num,rfl,aa,by rw[O.o];exact aC,bu,aE,bm.o⟩
        case measure=>exact dX
      .rw[aO rfl]at O;clear X;go_wp2;go_region;have ed:((wr.alloc (.cells #[.int .u32 r,.int .i64 (q:Int)] 204)).drew).cell? ⟨wr.heap.size,0,none⟩=some (.int .u32 r):=bc;have ee:((wr.alloc (.cells #[.int .u32 r,.int .i64 (q:Int)] 204)).drew).cell? ⟨wr.heap.size,1,none⟩=some (.int .i64 (q:Int)):=dg
       go_wp2_with (at_builtin;refine bX Gj w2.heap.size aC.o [.int .u32 r,.int .i64 q] rfl (by simp[Value.oneCell']) rfl _ _ rfl rfl _ (by show Value.slice (some ⟨wr.heap.size+1,0,none⟩) 1 1=_;simp) dI aa aF ?_;intro dh w6 c8 b1 c3)
       have cS:Below w2.heap.size w2 w6:=bm.o.grown b1 aF (fun b e=>(aC.o.lt b e).1);have cF:Hid (w6.ownsRow aq.heap.size 204 2 (.slice (some ⟨aT,bb,none⟩) lk.length P) lk.length (lk.flatMap iK)):=by
        refine bu.o.kept b1 ?_;rcases Ia (Value.ownBlock (.slice (some ⟨aT,bb,none⟩) lk.length P))with h9|⟨f,h9⟩
        .exact .inl h9
        .exact .inr (fun e=>aE.o f h9 (e.symm.trans h9))
       have cM:Hid (∀f,Value.ownBlock (.slice (some ⟨aT,bb,none⟩) lk.length P)=some f->dh.ownBlock≠some f):=fun f e F=>by
        have h1:=(ax.o.lt f e).2;rcases gH c3 with h9|⟨b,h9,ad⟩
        .exact aE.o f e (h9.symm.trans F)
        .rw[h9]at F;injection F with F;simp at ad;omega
       go_roundw
       case rel=>exact⟨j+1,_,by go_num,rfl,aa,by rw[O.o,bQ,gZ];exact c8,cF,cM,cS⟩
       case measure=>exact dX
     .obtain rfl:j=lk.length:=aa;rw[jK,<-cN.o]at aw;go_wp2;go_roundw
      case rel=>exact⟨k,_,by go_num,rfl,aa,aw,ah⟩
      case measure=>simp[intOf]
 case rest=>
  obtain⟨lw,rfl,bq,au⟩:=hcut;obtain⟨w3,cX⟩:∃w3:World,w3=wc:=⟨_,rfl⟩;subst cX;have aQ:=ag (aN.o.below au.o);have E:=ag (cq.o.trans (au.o.mono da));have dO:=Z.o 0;obtain⟨cR,cU,cV,-,bT,cb⟩:=LY.aG bq.o;subst cV;have bi:=ag (QJ aQ.o.fJ (by have:=E.o.size;omega) cR (ku al (ch.map (·.2.1)) 0) cU cb bT aa);obtain⟨cj,-⟩:=aQ.o.cell;have br:Hid (ku al (ch.map (·.2.1)) 0=((ch.map (·.2.1)).reverse.flatten).filter (dF al)):=ag (by unfold ku;rw[kE]);generalize ku al (ch.map (·.2.1)) 0=L at*;clear cb bT au Z bq
  go_wp2_with fail
  refine bi.o.mono ?_;rintro e w4 ⟨aW,d,bf,rfl,bV,cd,an,a5,a0,b4,-⟩;have J:=ag (aQ.o.core.add (a0.mono (fun k h=>.inl h)) bV (.inr a5));have bw:=ag cd;have cA:=ag b4;have bs:=ag an;have cQ:=ag a5;have av:=ag a0;have du:d.length<=14:=by
   have h1:=congrArg List.length an;rw[eD,bR]at h1;have C:=fA (a:=L.length) (b:=5000) aa ai;have dr:Lib.bitLen 5000<=14:=ai;omega
  have bz:Hid (∀h∈d,h.2.1.length<=5000):=fun h Q=>by
   have h1:=qD (l:=h.2.1) (CB:=d.map (·.2.1)) (cu.2 ⟨_,Q,rfl⟩);rw[an]at h1;have C:L.length<2^Lib.bitLen L.length:=by
    by_cases bL:L.length=0
    .rw[bL];decide
    .exact(bB _ aa bL).2.2
   rw[(kQ _ L C).length_eq]at h1;omega
  obtain⟨-,de,-⟩:=J.o.cell;have f1:=J.o.frozen 1;clear bV cd an a5 a0 cj bi b4;have Y:Hid (cO (w4.setCell ⟨A,1,none⟩ (.slice none 0 0)) base A Cb (.slice none 0 0) pv lv aW [] d al pl n L.length bf):=J.o.PN (bh':=[]) (bM (aJ _ _)|>fun h=>⟨h.os,h.tape,h.output,h.size,fun k G _=>rfl⟩) (dA _ _ _ _) (.inr (.inl rfl));have bo:Hid (ay (fun k=>k=A) w4 (w4.setCell ⟨A,1,none⟩ (.slice none 0 0))):=(ay.refl (fun k=>k=A) w4).set (a:=⟨A,1,none⟩) _ (.inl rfl);have I:=ag (Bt Y.o.fJ aa);obtain⟨bc,-⟩:=Y.o.cell
  go_wp2_with fail
  generalize w4.setCell ⟨A,1,none⟩ (.slice none 0 0)=ef at*;refine I.o.mono ?_;rintro e w6 ⟨rfl,a1⟩;have ct:=ag (Y.o.below a1);have cz:Hid (ay (fun k=>k=A) w4 w6):=bo.o.below a1;clear bc de f1 I a1 Y bo
  go_wp2_with fail
  go_loopw [55] (fun z wr=>∃(s:Value) (c:List lH),z=.int .i64 c.length/\Hid (cO wr base A Cb s pv lv aW c d al pl n L.length bf)/\Hid (JR c d)/\Hid (Nw W.heap.size [] c)/\Hid (jX wr c)/\Hid (s.ownBlock=none\/∃b,s.ownBlock=some b/\w4.heap.size<=b)/\Hid (ay (fun k=>k=A) w4 wr)) (fun z _=>d.length-(intOf z).toNat)
  case atStart=>exact⟨.slice none 0 0,[],rfl,ct,⟨bH _,fun j h=>absurd h (jL _)⟩,Nw.Sy (k:=0),(fun h Q=>absurd Q iA),.inl rfl,cz⟩
  case round=>
   obtain⟨s,c,rfl,i,aH,bt,aD,aI,K⟩:=hrel;by_cases am:c.length<d.length
   .have cI:Hid (jX wr d):=bw.o.kept fun b v fr g=>J.o.eZ (T:=fun _=>False) (K.o.mono fun k h=>.inl (.inl h)) b v fr g (fun h=>h);have co:=ag (Bu (W:=wr.drew) (i.o.below (aJ _ _).drew).fJ (cI.o.kept fun b v fr g=>rfl) aa c.length am (bA (bz.o _ (bG am)) ai));have cP:Hid (∀hd:lH,hd.2.1.Perm d[c.length].2.1->hd.2.1.Pairwise (fun x y=>x.1<=y.1)->JR (c++[hd]) d):=fun hd h1 C=>aH.o.step am h1 C;have d2:=bz.o _ (bG am);generalize d[c.length].2.1=lb at*;obtain⟨cj,d4,-⟩:=i.o.cell;have d5:∀o,wr.frozen? ⟨A,o,none⟩=false:=i.o.frozen;have bN:=i.o.lt;have dT:(c.length:Int)<(d.length:Int):=aa;have d0:=K.o.size;have dv:W.heap.size<=w4.heap.size:=bA E.o.size av.o.size;have c7:Hid (s.ownBlock≠some A):=fun e=>bg i.o.gK i.o.blk ai _ e rfl
    go_wp2_with fail
    go_region_law (first
     |(refine aZ (vals:=#[.pointer (some ⟨Cb,0,none⟩),.int .i64 c.length]) CX rfl _ _ rfl rfl co.o ?_
       rintro e bd ⟨di,rfl,b6,a2⟩;refine⟨_,rfl,?_⟩;have cg:=a2.size;have ds:A<bd.heap.size:=(by(have h9:wr.heap.size<=bd.heap.size:=cg);omega);obtain⟨d9,ea⟩:=bY ((ay.refl (fun _=>False) wr.drew).below a2) (b:=A) bN (fun h=>h))
     |(refine aZ (vals:=#[di]) CY rfl _ _ rfl rfl (xu (w:=bd) (base:=wr.heap.size) rfl aa b6 cg) ?_
       rintro e V ⟨rfl,l',b7,cf,a8,c4⟩;refine⟨_,rfl,?_⟩;have cH:=ag b7;have cK:=ag cf;have ab:ay (fun _=>False) wr V:=ay.strip (((ay.refl _ wr).drew.below a2).grown c4 (fun k G=>.inl (.inr (b6.lt k G).1)));have M:=ag ab;obtain⟨eb,ec⟩:=bY ab (b:=A) bN (fun h=>h);have dZ:=ab.size;have dt:A<V.heap.size:=aa;obtain⟨t,u,cW,-,bU,cc⟩:=LY.aG a8;have cw:=ag bU;have cJ:=ag cc;subst cW;have cp:Hid (∀a,t=some a->W.heap.size<=a.block):=fun a c1=>(by have h1:=(a8.lt a.block (by rw[c1];rfl)).1;omega);clear b7 cf ab a8 bU cc)
     |(refine bC Kq base (aU (S:=fun _=>False) i.o.gK (M.o.alloc _) (fun _ _ h=>h)) [.slice t l'.length u] rfl (by simp[Value.oneCell']) rfl (.tmp 62) (.tmp 70) rfl rfl _ rfl (by first|exact df _ _|exact kZ _ _) dI aa aF ?_
       intro B ac be D a6 bS dU;have cG:=ag D;have cs:=ag bS;obtain⟨d7,d8⟩:=bY ((ay.refl (fun k=>s.ownBlock=some k) _).grown a6 (fun k G=>.inl G)) (b:=A) (by first|(simp;done)|(simp;omega)) (fun e=>c7.o e);clear D bS))
    all_goals
     have aj:=i.o.below (M.o.toBelow (aB _) (fun k h=>h.elim));have bW:=aj.below ((aJ _ _).alloc (aB _) (.cells #[.slice t l'.length u] 209));have b5:be.ownsRow base 209 1 (.slice (some ⟨B,0,none⟩) (c.length+1) ac) (c++[(t,l',u)]).length ((c++[(t,l',u)]).map dS):=by
      rw[bQ,bP];exact cG.o
     have a3:Value.ownBlock (.slice (some ⟨B,0,none⟩) (c.length+1) ac)=s.ownBlock\/(V.alloc (.cells #[.slice t l'.length u] 209)).heap.size<=B:=by
      rcases cs.o with h9|h9
      .exact .inl h9.symm
      .exact .inr (by rw[h9];first|exact aB _|simp)
     have cx:=ag (bW.PN a6 b5 (a3.imp (fun h=>h) (fun h=>.inr ⟨B,rfl,h⟩)));have cr:=ag a3;have bD:ay (fun k=>k=A\/s.ownBlock=some k) V (be.setCell ⟨A,1,none⟩ (.slice (some ⟨B,0,none⟩) (c.length+1) ac)):=(((ay.refl _ V).alloc _).grown a6 (fun k G=>.inl (.inr G))).set (a:=⟨A,1,none⟩) _ (.inl (.inl rfl));have bp:=ag bD;clear aj bW b5 a3 bD;go_wp2;go_roundw
     case rel=>
      have aj:=i.o.below (M.o.toBelow (aB _) (fun k h=>h.elim));have d1:=M.o.size;have bE:ay (fun k=>k=A\/s.ownBlock=some k) wr (be.setCell ⟨A,1,none⟩ (.slice (some ⟨B,0,none⟩) (c.length+1) ac)):=(M.o.mono (fun k h=>h.elim)).trans bp.o;refine⟨_,c++[(t,l',u)],aA,cx.o,cP.o (t,l',u) cH.o cK.o,bt.o.snoc cp.o,?_,?_,?_⟩
      .intro h Q;rcases bO.1 Q with h1|h1
       .exact⟨(aD.o h h1).1.kept fun b v fr g=>i.o.eZ (T:=fun _=>False) (bE.mono fun k h=>.inl (h.imp id (fun h=>.inr (.inl h)))) b v fr g (fun h=>h),(aD.o h h1).2⟩
       .obtain rfl:h=(t,l',u):=aP h1;exact⟨cJ.o.kept fun b v fr g=>aj.eZ (T:=fun _=>False) (bp.o.mono fun k h=>.inl (h.imp id (fun h=>.inr (.inl h)))) b v fr g (fun h=>h),cw.o⟩
      .rcases cr.o with h9|h9
       .rw[h9];exact aI.o
       .exact .inr ⟨B,rfl,by simp at h9;omega⟩
      .refine ay.strip ((K.o.mono (fun k h=>.inl h)).trans (bE.mono (fun k h=>?_)));rcases h with h|h
       .exact .inl h
       .rcases aI.o with h9|⟨b,h9,ad⟩
        .rw[h9]at h;cases h
        .rw[h9]at h;injection h with h;exact .inr aa
     case measure=>exact dX
   .have b0:c.length=d.length:=by have:=aH.o.1;omega
    have hd:decide ((c.length:Int)<(d.length:Int))=false:=aF;have dE:¬(c.length:Int)<(d.length:Int):=aa;have cy:=ag b0;clear b0;go_wp2
    go_end0
    have c0:jX wr d:=bw.o.kept fun b v fr g=>J.o.eZ (T:=fun _=>False) (K.o.mono fun k h=>.inl (.inl h)) b v fr g (fun h=>h);obtain⟨hp,c9⟩:=aH.o.done cy.o;have a9:=Ku aK.o (NB':=c.map (·.2.1)) (by rw[<-br.o,<-bs.o];exact hp) c9;rw[<-br.o,<-bs.o]at a9;have ce:=E.o.size;have db:=av.o.size;refine⟨s,aW,c,d,_,bf,rfl,i.o.rep aD.o c0,a9.1,a9.2,?_,?_,bt.o,Nw.refl.trans cA.o aa⟩
    .rintro k (h|h|h|h|h|h)
     .exact .inl (.inl h)
     .exact .inl (.inr (.inl h))
     .rcases aI.o with h9|⟨b,h9,ad⟩
      .rw[h9]at h;cases h
      .rw[h9]at h;injection h with h;exact .inr aa
     .exact .inl (.inr (.inr (.inr (.inl h))))
     .exact .inl (.inr (.inr (.inr (.inr (.inl h)))))
     .rcases cQ.o with h9|⟨b,h9,ad⟩
      .rw[h9]at h;cases h
      .rw[h9]at h;injection h with h;exact .inr aa
    .exact(((ay.refl (ou A Cb bv pv lv cv) W).below E.o).trans (av.o.mono (fun k h=>.inr (.inl h)))).trans (K.o.mono (fun k h=>.inl h))
end
section
variable {W:World} {base A Cb:Nat} {bv pv lv cv:Value} {bh ch:List lH} {al:List Bool} {pl:List Int} {n N wk:Int}
def PO (t:TypeId):Bool:=t==207||t==290||t==209||t==3||t==4
theorem yY (a:dL W base A Cb bv pv lv cv bh ch al pl n N wk):∀k,ou A Cb bv pv lv cv k->∃cs t fr,W.heap[k]? =some (Obj.cells cs t fr)/\PO t=true:=by
 have d:∀{e:TypeId} {sz:Nat} {v:Value} {n:Nat} {xs:List Value} {k:Nat},W.ownsRow base e sz v n xs->v.ownBlock=some k->∃b,W.heap[k]? =some (Obj.cells b e (0,0)):=by
  intro e sz v n xs k a f;rcases a.2 with⟨rfl,_⟩|⟨g,l,b,rfl,_,i,_⟩
  .cases f
  .simp only[Value.ownBlock,jk]at f;subst f;exact⟨b,i⟩
 intro k j;rcases j with h|h|h|h|h|h
 .exact⟨_,_,_,h▸a.blk,ai⟩
 .exact⟨_,_,_,h▸a.fJ.blk,ai⟩
 .obtain⟨b,c⟩:=d a.gK h;exact⟨_,_,_,c,ai⟩
 .obtain⟨b,c⟩:=d a.iC h;exact⟨_,_,_,c,ai⟩
 .obtain⟨b,c⟩:=d a.dJ h;exact⟨_,_,_,c,ai⟩
 .obtain⟨b,c⟩:=d a.fJ.row h;exact⟨_,_,_,c,ai⟩
theorem JS (h:dL W base A Cb bv pv lv cv bh ch al pl n N wk) (f:o5 (ch.map (·.2.1)) (bh.map (·.2.1)) al pl n N) (id:Int) (F:∀p,¬gQ (ch.map (·.2.1)).flatten al pl id p):
  Calls prog 58 #[.pointer (some ⟨A,0,none⟩),.int .u32 id] W fun e w'=>e=.returned (.tuple #[.int .i64 0,.bool false])/\Below W.heap.size W w':=by
 have r:=ag (Du h);have H:=ag h;have i:=f.RZ;have u:=ag (fun W' (a:Below W.heap.size W W')=>oZ A id W' _ bh bv base ((h.below a).cell.2.1) (h.below a).gK rfl (h.below a).bE f.sorted (by have:=i.1;simp at this;omega) (fun l D=>by have:=i.2.2.1 l D;omega));have c:=ag f;go_enter func58,ntmps58
 go_wp2_with fail
 refine r.o.mono ?_;rintro e w2 ⟨rfl,d⟩
 go_wp2_with fail
 refine(u.o w2 d).mono ?_;rintro e w3 ⟨k,t,rfl,ht,C,z⟩;have b:=d.trans (z.mono d.size);obtain⟨-,-,-,O,-⟩:=(H.o.below b).cell;rcases C with⟨y,g,w,rfl⟩|⟨rfl,-⟩
 .rw[fT c.o.perm]at g;have⟨m,j,q⟩:=c.o.uf y g;obtain⟨K,L,rfl,-,-,G⟩:=Rd.aG (H.o.below b).dJ;obtain⟨J,M,v,-,x⟩:=G.get aa;have I:=x m q;have B:al[m]=false:=by
   cases a:al[m]with
   |false=>rfl
   |true=>
    have E:m<pl.length:=by have:=c.o.len;omega
    exact absurd ⟨m,by rw[<-w,<-j];exact g,by rw[bZ q,a],bZ E⟩ (F pl[m])
  rw[B]at I;have s:=ag v;rw[j];obtain rfl:=s.o;have Q:(m:Int)<(al.length:Int):=aa;have P:decide ((m:Int)<0)=false:=aA;go_wp2;go_ret2;exact⟨rfl,b⟩
 .go_wp2;go_ret2;exact⟨rfl,b⟩
def TK (W:World) (base A Cb:Nat) (bv pv lv cv:Value) (bh ch:List lH) (al:List Bool) (pl:List Int) (n:Int) (k:Nat) (p:Int) (e:Ending) (w':World):Prop:=
 ∃(R9 Ct:Value) (bh' qU:List lH) (N' Kg:Int),e=.returned (.tuple #[.int .i64 p,.bool true])/\dL w' base A Cb R9 pv lv Ct bh' qU (al.set k false) pl (n-1) N' Kg/\o5 (qU.map (·.2.1)) (bh'.map (·.2.1)) (al.set k false) pl (n-1) N'/\
  (∀id p,gQ (qU.map (·.2.1)).flatten (al.set k false) pl id p↔gQ (ch.map (·.2.1)).flatten (al.set k false) pl id p)/\(∀k,ou A Cb R9 pv lv Ct k->ou A Cb bv pv lv cv k\/W.heap.size<=k)/\ay (ou A Cb bv pv lv cv) W w'/\Nw W.heap.size bh bh'/\Nw W.heap.size ch qU
theorem He (h:dL W base A Cb bv pv lv cv bh ch al pl n N wk) (a5:base<=W.heap.size) (r:o5 (ch.map (·.2.1)) (bh.map (·.2.1)) al pl n N) (id p:Int) (m:Nat) (V:(id,(m:Int))∈(ch.map (·.2.1)).flatten) (B:al[m]? =some true) (hp:pl[m]? =some p):
  Calls prog 58 #[.pointer (some ⟨A,0,none⟩),.int .u32 id] W (TK W base A Cb bv pv lv cv bh ch al pl n m p):=by
 have ai:=ag (Du h);have H:=ag h;have U:=r.RZ;have ak:=ag (fun W' (G:Below W.heap.size W W')=>oZ A id W' _ bh bv base ((h.below G).cell.2.1) (h.below G).gK rfl (h.below G).bE r.sorted (by have:=U.1;simp at this;omega) (fun l aR=>by have:=U.2.2.1 l aR;omega));have E:=ag r;have be:1<=n/\n<=5000:=by
  have Q:=r.cnt;have S:al.count true<=al.length:=Ea;have a3:=r.bound;have⟨X,aT⟩:=fo.1 B;have a6:0<al.count true:=List.count_pos_iff.2 (aT▸bG X);omega
 have M:=ag (Kt r m B);go_enter func58,ntmps58
 go_wp2_with fail
 refine ai.o.mono ?_;rintro e w2 ⟨rfl,I⟩
 go_wp2_with fail
 refine(ak.o w2 I).mono ?_;rintro e w3 ⟨k,t,rfl,ht,u,aL⟩;have K:=ag (I.trans (aL.mono I.size));have s:=ag (H.o.below K.o);have⟨aC,aY,aD,aZ,aE⟩:=s.o.cell;have aO:k=(m:Int):=by
  rcases u with⟨y,Z,Q,S⟩|⟨-,aV⟩
  .rw[fT E.o.perm]at Z;have:=mo E.o.ids Z V (aP Q);rw[<-S,this]
  .exact absurd rfl (aV _ ((fT E.o.perm _).2 V))
 subst aO;obtain⟨X,-⟩:=fo.1 B;obtain⟨bd,-⟩:=fo.1 hp;obtain⟨b,f,aF,a7,a8,-,-⟩:=aQ s.o.dJ aa;subst aF;have ac:=s.o.dJ.cellAt m aa;rw[iy,B]at ac;simp only[fP]at ac;have a1:=s.o.dJ.frozenAt m;have F:=ag (s.o.SX rfl m false);have⟨d0,d1,d2,d3,d4⟩:=F.o.cell;have f4:=F.o.frozen 4;have z:=ag (F.o.SV (n-1));have ap:Hid (ay (ou A Cb bv pv (.slice (some ⟨b,0,none⟩) al.length f) cv) W ((w3.setCell ⟨b,m,none⟩ (.bool false)).setCell ⟨A,4,none⟩ (.int .i64 (n-1)))):=
  (((ay.refl _ W).below K.o).set (a:=⟨b,m,none⟩) _ (.inl (.inr (.inr (.inr (.inr (.inl rfl))))))).set (a:=⟨A,4,none⟩) _ (.inl (.inl rfl))
 have bb:(m:Int)<(al.length:Int):=aa;have bc:(m:Int)<(pl.length:Int):=aa;have a0:decide ((m:Int)<0)=false:=aA;have Y:(-9223372036854775808:Int)<=n-1/\n-1<=9223372036854775807:=aa;have aw:=ag hp
 go_upto_region 8 with fail
 generalize(w3.setCell ⟨b,m,none⟩ (.bool false)).setCell ⟨A,4,none⟩ (.int .i64 (n-1))=J at*
 go_cut [51]from 41 to 50 (fun tv w=>tv=.bool (decide (2*(n-1)<N))/\Hid (dL w base A Cb bv pv (.slice (some ⟨b,0,none⟩) al.length f) cv bh ch (al.set m false) pl (n-1) N wk)/\Hid (ay (ou A Cb bv pv (.slice (some ⟨b,0,none⟩) al.length f) cv) W w))
 case first=>
  obtain⟨aC,-,-,-,aE⟩:=z.o.cell;have af:=ag (QH (z.o.below (aJ _ _).drew).fJ);have a4:(-9223372036854775808:Int)<=2*(n-1)/\2*(n-1)<=9223372036854775807:=aa;have ah:Hid (Calls prog 137 #[.pointer (some ⟨Cb,0,none⟩)] J.drew fun e d=>e=.returned (.int .i64 N)/\Hid (Below J.drew.heap.size J.drew d)/\d.cell? ⟨A,0,none⟩=some (.pointer (some ⟨Cb,0,none⟩))/\d.cell? ⟨A,4,none⟩=some (.int .i64 (n-1))):=ag (by
   refine af.o.mono ?_;rintro e d ⟨rfl,T⟩;obtain⟨O,-,-,-,P⟩:=((z.o.below (aJ _ _).drew).below T).cell;exact⟨rfl,T,O,P⟩)
  go_region_with (go_at_call 137;(with_reducible refine ah.o.mono ?_);rintro e d ⟨rfl,L,O,P⟩)
  all_goals
   have x:=ag ((z.o.below (aJ _ _).drew).below L.o)
   go_wp2_with fail
   go_meet;exact⟨by rw[show IntKind.i64.wrap (2*(n-1))=2*(n-1)from IntWalk.i64_in _ aa],x,(ap.o.drew).below L.o⟩
 case rest=>
 obtain⟨rfl,x,g⟩:=hcut;obtain⟨d,aH⟩:∃d:World,d=wc:=⟨_,rfl⟩;subst aH;generalize aM:decide (2*(n-1)<N)=dg;have aj:=ag aM
 go_upto_if 51 with fail
 go_cut []from 51 to 53 (fun w=>∃(j q:Value) (bh' c:List lH) (i v:Int),Hid (dL w base A Cb j pv (.slice (some ⟨b,0,none⟩) al.length f) q bh' c (al.set m false) pl (n-1) i v)/\Hid (o5 (c.map (·.2.1)) (bh'.map (·.2.1)) (al.set m false) pl (n-1) i)/\
  Hid (∀id p,gQ (c.map (·.2.1)).flatten (al.set m false) pl id p↔gQ (ch.map (·.2.1)).flatten (al.set m false) pl id p)/\Hid (∀k,ou A Cb j pv (.slice (some ⟨b,0,none⟩) al.length f) q k->ou A Cb bv pv (.slice (some ⟨b,0,none⟩) al.length f) cv k\/W.heap.size<=k)/\Hid (ay (ou A Cb bv pv (.slice (some ⟨b,0,none⟩) al.length f) cv) W w)/\Hid (Nw W.heap.size bh bh')/\Hid (Nw W.heap.size ch c))
 case first=>
  cases dg
  .have au:Hid (N<=2*(n-1)):=ag (by have:=aj.o;simp at this;omega)
   go_wp2_with fail
   go_meet;exact⟨bv,cv,bh,ch,N,wk,x,⟨M.o,au.o⟩,fun _ _=>Iff.rfl,fun k u=>.inl u,g,Nw.refl,Nw.refl⟩
  .have ae:=ag (Rx x.o (by have:=g.o.size;omega) M.o)
   go_wp2_with fail
   refine ae.o.mono ?_;rintro e bg ⟨j,q,bh',c,i,v,rfl,aW,aX,aN,aS,aK,Y,aU⟩;have C:=ag Y;have D:=ag aU;have ax:=ag aW;have aB:=ag aX;have am:=ag aN;have ar:=ag aS;have aq:=ag aK
   go_wp2_with fail
   go_meet;exact⟨j,q,bh',c,i,v,ax,aB,am,fun k u=>(ar.o k u).imp (fun h=>h) (fun h=>by have:=g.o.size;omega),g.o.trans aq.o,Nw.nil C.o g.o.size,Nw.nil D.o g.o.size⟩
 case rest=>
  have⟨j,q,bh',c,i,v,R,az,an,av,ao,C,D⟩:=hcut;obtain⟨ab,aI⟩:∃ab:World,ab=wc:=⟨_,rfl⟩;subst aI;obtain⟨-,-,aD,-,-⟩:=R.o.cell;obtain⟨a2,bf,aG,a9,ba,-,-⟩:=aQ R.o.iC aa;subst aG;have ad:=R.o.iC.cellAt m aa;rw[iy,aw.o]at ad;simp only[fP]at ad;go_wp2;go_ret2;exact⟨j,q,bh',c,i,v,rfl,R.o,az.o,an.o,av.o,ao.o,C.o,D.o⟩
end
end
section
open Go.RowKit Go.Maps
def TL (S:Nat->Prop) (ch:List lH):Prop:=∀h∈ch,h.2.1≠[]->∀a,h.1=some a->S a.block
theorem TL.nw {S:Nat->Prop} {n:Nat} {ch b:List lH} (h:TL S ch) (d:Nw n ch b):TL (fun k=>S k\/n<=k) b:=fun x f e a c=>(d x f).elim (fun g=>.inl (h x g e a c)) fun g=>.inr (g a c)
def ky (W:World) (base A:Nat) (S:Nat->Prop) (m:Nat) (D:List (Int×Int)):Prop:=
 ∃(Cb:Nat) (bv pv lv cv:Value) (bh ch:List lH) (al:List Bool) (pl:List Int) (n N wk:Int),dL W base A Cb bv pv lv cv bh ch al pl n N wk/\o5 (ch.map (·.2.1)) (bh.map (·.2.1)) al pl n N/\Dw (ch.map (·.2.1)) al pl D/\al.length<=m/\(∀k,ou A Cb bv pv lv cv k->S k)/\TL S bh/\TL S ch
section
variable {W:World} {base A:Nat} {S:Nat->Prop} {m:Nat} {D:List (Int×Int)}
theorem ky.mono {S':Nat->Prop} {e:Nat} (h:ky W base A S m D) (hS:∀k,S k->S' k) (p:m<=e):ky W base A S' e D:=by
 have⟨Cb,bv,pv,lv,cv,bh,ch,al,pl,n,N,wk,l,o,hd,q,f,g,i⟩:=h;exact⟨Cb,bv,pv,lv,cv,bh,ch,al,pl,n,N,wk,l,o,hd,aa,fun k j=>hS k (f k j),fun h c d a b=>hS _ (g h c d a b),fun h c d a b=>hS _ (i h c d a b)⟩
theorem ky.clip (h:ky W base A S m D):ky W base A (fun k=>S k/\k<W.heap.size) m D:=by
 have⟨Cb,bv,pv,lv,cv,bh,ch,al,pl,n,N,wk,d,w,hd,v,hS,s,u⟩:=h;have j:∀{e:List lH},jX W e->TL S e->TL (fun k=>S k/\k<W.heap.size) e:=fun{e} q hi x l i a f=>by
  refine⟨hi x l i a f,?_⟩;rcases(q x l).1 with p|⟨b,off,y,fr,c,r,-⟩
  .exact absurd p i
  .rw[f]at c;injection c with c;rw[c];exact(aY.1 r).1
 refine⟨Cb,bv,pv,lv,cv,bh,ch,al,pl,n,N,wk,d,w,hd,v,fun k g=>⟨hS k g,?_⟩,j d.bE s,j d.cE u⟩;obtain⟨cs,t,fr,o,-⟩:=yY d k g;exact(aY.1 o).1
theorem ky.kept {W':World} (h:ky W base A S m D) {T:Nat->Prop} (K:ay T W W') (hd:∀k,S k->¬T k):ky W' base A S m D:=by
 have⟨Cb,bv,pv,lv,cv,bh,ch,al,pl,n,N,wk,a,i,f,g,hS,c,d⟩:=h;exact⟨Cb,bv,pv,lv,cv,bh,ch,al,pl,n,N,wk,⟨a.hb,bz K a.blk (hd _ (hS _ (.inl rfl))),⟨a.fJ.hb,a.fJ.ds,bz K a.fJ.blk (hd _ (hS _ (.inr (.inl rfl)))),aU a.fJ.row K fun b e=>hd _ (hS _ (.inr (.inr (.inr (.inr (.inr e))))))⟩,aU a.gK K fun b e=>hd _ (hS _ (.inr (.inr (.inl e)))),aU a.iC K fun b e=>hd _ (hS _ (.inr (.inr (.inr (.inl e))))),aU a.dJ K fun b e=>hd _ (hS _ (.inr (.inr (.inr (.inr (.inl e)))))),a.bE.NK c K hd,a.cE.NK d K hd,a.sep⟩,i,f,g,hS,c,d⟩
theorem VI (W:World):aK 54 #[] W fun e w'=>e=.returned (aj (W.heap.size+1))/\ky w' W.heap.size (W.heap.size+1) (fun k=>W.heap.size<=k) 0 []/\Below W.heap.size W w':=by
 refine(SS W).mono ?_;rintro e w' ⟨c,d,b⟩;refine⟨c,⟨W.heap.size,aL,aL,aL,aL,[],[],[],[],0,0,0,d,Ot,Dw.new,aB _,?_,(fun h a=>absurd a iA),fun h a=>absurd a iA⟩,b⟩;rintro k (h|h|h|h|h|h)
 .show _<=k;omega
 .show _<=k;omega
 all_goals cases h
def TM (W:World) (D:List (Int×Int)) (id:Int) (e:Ending) (w':World):Prop:=
 ∃t:Nat,t<=(Lib.bitLen (2*D.length+1)+1)*(Lib.bitLen (2*D.length+1)+1)/\((∃p,(id,p)∈D/\e=.returned (.tuple #[ae p,.bool true,ae t]))\/((∀p,(id,p)∉D)/\e=.returned (.tuple #[ae 0,.bool false,ae t])))/\Below W.heap.size W w'
theorem U2 (h:ky W base A S m D) (id:Int):aK 72 #[aj A,ak id] W (TM W D id):=by
 obtain⟨Cb,bv,pv,lv,cv,bh,ch,al,pl,n,N,wk,j,c,hd,q,hS,k,o⟩:=h;have d:=c.RZ;refine(QI j c (by have:=d.1;simp at this;omega) (fun l i=>by have:=d.2.2.1 l i;omega) id).mono ?_;rintro e w' ⟨t,ht,g,f⟩;refine⟨t,?_,?_,f⟩
 .rw[hd.len];exact bA ht (L8 c)
 .rcases g with⟨p,a,b⟩|⟨a,b⟩
  .exact .inl ⟨p,(hd.iff _ _).2 a,b⟩
  .exact .inr ⟨fun p hp=>a p ((hd.iff _ _).1 hp),b⟩
theorem JU (h:ky W base A S m D) (id p c:Int) (hid:(id,c)∈D):aK 56 #[aj A,ak id,ae p] W (fV W (ae 2)):=by
 have⟨Cb,bv,pv,lv,cv,bh,ch,al,pl,n,N,wk,e,a,hd,i,hS,f,g⟩:=h;have b:=a.RZ;exact ER e a (by have:=b.1;simp at this;omega) (fun l d=>by have:=b.2.2.1 l d;omega) id p c ((hd.iff _ _).1 hid)
def K5 (S:Nat->Prop) (W w':World):Prop:=∃T:Nat->Prop,ay T W w'/\∀k,T k->S k/\∃cs t fr,W.heap[k]? =some (Obj.cells cs t fr)/\PO t=true
theorem K5.TN {w':World} (h:K5 S W w'):ay S W w':=by
 have⟨T,K,a⟩:=h;exact K.mono fun k b=>(a k b).1
def U3 (W:World) (base A:Nat) (S:Nat->Prop) (m:Nat) (D:List (Int×Int)) (id p:Int) (e:Ending) (w':World):Prop:=
 e=.returned (ae 0)/\ky w' base A (fun k=>S k\/W.heap.size<=k) (m+1) (D++[(id,p)])/\K5 S W w'
theorem PQ (h:ky W base A S m D) (M:base<=W.heap.size) (af:m<5000) (id p:Int) (hid:∀q,(id,q)∉D):aK 56 #[aj A,ak id,ae p] W (U3 W base A S m D id p):=by
 have⟨Cb,bv,pv,lv,cv,bh,ch,al,pl,n,N,wk,u,c,hd,ad,hS,z,B⟩:=h;have F:∀k,ou A Cb bv pv lv cv k->∃cs t fr,W.heap[k]? =some (Obj.cells cs t fr)/\PO t=true:=yY u;have G:=c.RZ;by_cases d:∃x∈(ch.map (·.2.1)).flatten,x.1=id
 .obtain⟨x,d,X⟩:=d;have⟨k,b,C⟩:=c.uf x d;have f:(id,(k:Int))∈(ch.map (·.2.1)).flatten:=by rw[<-X,<-b];exact d
  have j:al[k]? =some false:=by
   rw[bZ C];cases L:al[k]with
   |false=>rfl
   |true=>
    obtain⟨q,U,-⟩:=hd.val c.towV f (by rw[bZ C,L]);exact absurd U (hid q)
  have Q:0<=n/\n<=100000:=by
   have w:=c.cnt;have y:al.count true<=al.length:=Ea;have ac:=c.bound;omega
  refine(ET u c (by have:=G.1;simp at this;omega) (fun l O=>by have:=G.2.2.1 l O;omega) id p k f j Q).mono ?_;rintro e w' ⟨o,v,g⟩;have K:ay (ou A Cb bv pv lv cv) W w':=g.mono fun k b=>by
   rcases b with h|h|h
   .exact .inl h
   .exact .inr (.inr (.inr (.inl h)))
   .exact .inr (.inr (.inr (.inr (.inl h))))
  exact⟨o,⟨Cb,bv,pv,lv,cv,bh,ch,_,_,_,N,wk,v,QK c k p id f j,hd.again c.towV f j,aF,fun k b=>.inl (hS k b),(fun h r s a i=>.inl (z h r s a i)),fun h r s a i=>.inl (B h r s a i)⟩,⟨_,K,fun k b=>⟨hS k b,F k b⟩⟩⟩
 .have E:∀x∈(ch.map (·.2.1)).flatten,x.1≠id:=fun x w y=>d ⟨x,w,y⟩;refine(JP u M c aa id p E).mono ?_;rintro e w' ⟨H,Z,Y,J,bh',I,ab,o,v,V,hP,P,g,R,T⟩;exact⟨o,⟨Cb,H,Z,Y,J,bh',I,_,_,_,_,ab,v,V,hd.put c.towV E hP,aF,fun k b=>(P k b).imp (hS k) (fun h=>h),z.nw R,B.nw T⟩,⟨_,g,fun k b=>⟨hS k b,F k b⟩⟩⟩
theorem PR (h:ky W base A S m D) (id:Int) (hid:∀q,(id,q)∉D):aK 58 #[aj A,ak id] W (fV W (.tuple #[ae 0,.bool false])):=by
 have⟨Cb,bv,pv,lv,cv,bh,ch,al,pl,n,N,wk,b,c,hd,f,hS,d,e⟩:=h;exact JS b c id (fun q a=>hid q ((hd.iff _ _).2 a))
def TP (W:World) (base A:Nat) (S:Nat->Prop) (m:Nat) (D:List (Int×Int)) (id p:Int) (e:Ending) (w':World):Prop:=
 e=.returned (.tuple #[ae p,.bool true])/\ky w' base A (fun k=>S k\/W.heap.size<=k) m (D.filter fun x=>decide (x.1≠id))/\K5 S W w'
theorem Na (h:ky W base A S m D) (s:base<=W.heap.size) (id p:Int) (hid:(id,p)∈D):aK 58 #[aj A,ak id] W (TP W base A S m D id p):=by
 have⟨Cb,bv,pv,lv,cv,bh,ch,al,pl,n,N,wk,d,f,hd,x,hS,u,v⟩:=h;have E:=yY d;have⟨k,b,c,o⟩:=(hd.iff _ _).1 hid;have q:=hd.drop f.towV b c;refine(He d s f id p k b c o).mono ?_;rintro e w' ⟨i,l,bh',j,g,G,t,C,F,w,y,r,z,B⟩;exact⟨t,⟨Cb,i,pv,lv,l,bh',j,_,_,_,g,G,C,F,q.turn w,aP x,fun k a=>(y k a).imp (hS k) (fun h=>h),u.nw z,v.nw B⟩,⟨_,r,fun k a=>⟨hS k a,E k a⟩⟩⟩
end
def Own (W:World) (base A m:Nat) (D:List (Int×Int)):Prop:=ky W base A (fun k=>base<=k) m D
end
section
open Go.RowKit Go.Sort Go.Shelf Go.Lib Go.Maps
attribute [local irreducible] wpQuiet
attribute [local go_sem] Oper.eT
structure Hf (w:World) (Pb Hb Ab base:Nat) (av:Value) (GH SD:Nat->Prop) (m:Nat) (A:List eP) (D:List (Int×Int)) (ALL:List Pt) (N wk eH:Int):Prop where
 blk:w.heap[Pb]? =some (Obj.cells #[aj Hb,aj Ab,av,ae eH] Cj (0,0))
 row:w.ownsRow 0 29 3 av ALL.length (ALL.flatMap dw)
 half:ko w Hb GH m A N wk
 dir:ky w base Ab SD m D
 hb:base<=w.heap.size
 few:ALL.length<=m
 fwd:∀id q,(id,q)∈D->∃(k:Nat) (c:eP),q=k/\c∈A/\ALL[k]? =some c.1/\c.1.2.2=id
 bwd:∀c∈A,∃q,(c.1.2.2,q)∈D
 q9:(∀k,GH k->¬SD k/\k≠Pb/\av.ownBlock≠some k/\k<w.heap.size)/\(∀k,SD k->k≠Pb/\av.ownBlock≠some k/\k<w.heap.size)/\av.ownBlock≠some Pb
def ek (w:World) (Pb:Nat) (G:Nat->Prop) (m:Nat) (now:List Pt) (N wk eH:Int):Prop:=
 ∃(Hb Ab base:Nat) (av:Value) (GH SD:Nat->Prop) (A:List eP) (D:List (Int×Int)) (ALL:List Pt),Hf w Pb Hb Ab base av GH SD m A D ALL N wk eH/\A.map (·.1)=now/\∀k,GH k\/SD k\/k=Pb\/av.ownBlock=some k->G k
theorem ko.clip {w:World} {Hb m:Nat} {G:Nat->Prop} {A:List eP} {N wk:Int} (h:ko w Hb G m A N wk):ko w Hb (fun k=>G k/\k<w.heap.size) m A N wk:=by
 have⟨X,F,Cb,mb,cv,tv,av,lv,ch,T,al,eU,d,e,f,c,g,j,b,l,n⟩:=h;exact⟨X,F,Cb,mb,cv,tv,av,lv,ch,T,al,eU,d,e,f,c,g,j,fun k a=>⟨(b k a).1,(b k a).2,(b k a).1⟩,fun i k a=>⟨l i k a,c.lt i k a⟩,n⟩
section
variable {w w':World} {Pb Hb Ab base m:Nat} {av:Value} {G GH SD S:Nat->Prop} {A:List eP} {D:List (Int×Int)} {ALL now:List Pt} {N wk eH Ry:Int}
theorem Hf.kept (h:Hf w Pb Hb Ab base av GH SD m A D ALL N wk eH) (K:ay S w w') (hS:∀k,GH k\/SD k\/k=Pb\/av.ownBlock=some k->¬S k):Hf w' Pb Hb Ab base av GH SD m A D ALL N wk eH:=
 ⟨bz K h.blk (hS _ (.inr (.inr (.inl rfl)))),aU h.row K fun b e=>hS _ (.inr (.inr (.inr e))),h.half.kept K fun k a=>hS k (.inl a),h.dir.kept K fun k a=>hS k (.inr (.inl a)),bA h.hb K.size,h.few,h.fwd,h.bwd,⟨fun k a=>⟨(h.q9.1 k a).1,(h.q9.1 k a).2.1,(h.q9.1 k a).2.2.1,bT (h.q9.1 k a).2.2.2 K.size⟩,fun k a=>⟨(h.q9.2.1 k a).1,(h.q9.2.1 k a).2.1,bT (h.q9.2.1 k a).2.2 K.size⟩,h.q9.2.2⟩⟩
theorem Hf.Sa (h:Hf w Pb Hb Ab base av GH SD m A D ALL N wk eH) (K:ay (fun k=>k=Pb) w w') (hb:w'.heap[Pb]? =some (Obj.cells #[aj Hb,aj Ab,av,ae Ry] Cj (0,0))):Hf w' Pb Hb Ab base av GH SD m A D ALL N wk Ry:=
 ⟨hb,aU h.row K fun c e b=>h.q9.2.2 (by rw[e,b]),h.half.kept K fun k a=>(h.q9.1 k a).2.1,h.dir.kept K fun k a=>(h.q9.2.1 k a).1,bA h.hb K.size,h.few,h.fwd,h.bwd,⟨fun k a=>⟨(h.q9.1 k a).1,(h.q9.1 k a).2.1,(h.q9.1 k a).2.2.1,bT (h.q9.1 k a).2.2.2 K.size⟩,fun k a=>⟨(h.q9.2.1 k a).1,(h.q9.2.1 k a).2.1,bT (h.q9.2.1 k a).2.2 K.size⟩,h.q9.2.2⟩⟩
theorem ek.kept (h:ek w Pb G m now N wk eH) (K:ay S w w') (hS:∀k,G k->¬S k):ek w' Pb G m now N wk eH:=by
 have⟨Hb,Ab,base,av,GH,SD,A,D,ALL,b,c,a⟩:=h;exact⟨Hb,Ab,base,av,GH,SD,A,D,ALL,b.kept K fun k d=>hS k (a k d),c,a⟩
theorem ek.below (h:ek w Pb G m now N wk eH) (a:Below w.heap.size w w'):ek w' Pb G m now N wk eH:=h.kept (S:=fun _=>False) ((ay.refl _ _).below a) fun _ _ h=>h
theorem ek.more {a:Nat->Prop} (h:ek w Pb G m now N wk eH) (e:∀k,G k->a k):ek w Pb a m now N wk eH:=by
 have⟨Hb,Ab,base,av,GH,SD,A,D,ALL,b,c,d⟩:=h;exact⟨Hb,Ab,base,av,GH,SD,A,D,ALL,b,c,fun k f=>e k (d k f)⟩
theorem ek.facts (h:ek w Pb G m now N wk eH):(now.length:Int)<=N/\N<=2*now.length/\N<=m/\(ids now).Nodup/\(∀p∈now,Be p)/\0<=wk/\(∀L,m<2^L->wk<=(L*m:Nat))/\G Pb:=by
 obtain⟨Hb,Ab,base,av,GH,SD,A,D,ALL,a,rfl,b⟩:=h;obtain⟨f1,f2,f3,f4,f5,f6,f7,-⟩:=a.half.facts;rw[bR];exact⟨f1,f2,f3,f4,fun p hp=>by obtain⟨c,d,rfl⟩:=cu.1 hp;exact f5 c d,f6,f7,b _ (.inr (.inr (.inl rfl)))⟩
theorem Sb (w:World):aK 11 #[] w fun e w'=>∃Pb,e=.returned (aj Pb)/\ek w' Pb (fun k=>w.heap.size<=k/\k<w'.heap.size) 0 [] 0 0 0/\Below w.heap.size w w':=by
 have g:=ag (UU w);go_enter func11,ntmps11
 go_wp2_with fail
 refine g.o.mono ?_;rintro e w1 ⟨rfl,m,n⟩;have c:=ag m.clip;have b:=ag n;have f:=ag (VI w1)
 go_wp2_with fail
 refine f.o.mono ?_;rintro e w2 ⟨rfl,l,p⟩;have i:=ag l.clip;have a:=ag p;go_wp2;go_ret;have q:=b.o.size;have t:=a.o.size;have d:ay (fun _=>False) w2 (w2.alloc (.cells #[aj (w.heap.size+2),aj (w1.heap.size+1),aL,ae 0] Cj)):=(ay.refl _ w2).alloc _;have r:ay (fun _=>False) w1 w2:=(ay.refl _ w1).below a.o;have s:=c.o.facts;refine⟨w2.heap.size,rfl,⟨w.heap.size+2,w1.heap.size+1,w1.heap.size,aL,_,_,[],[],[],⟨df w2 _,dA _ _ _ _,(c.o.kept r (fun _ _ h=>h)).kept d (fun _ _ h=>h),i.o.kept d (fun _ _ h=>h),aF,bH _,fun _ _ h=>absurd h iA,fun _ h=>absurd h iA,⟨fun k hk=>⟨fun j=>by have:=j.1;have:=hk.2;omega,by have:=hk.2;omega,by simp[Value.ownBlock],by have:=hk.2;simp;omega⟩,fun k hk=>⟨by have:=hk.2;omega,by simp[Value.ownBlock],by have:=hk.2;simp;omega⟩,by simp[Value.ownBlock]⟩⟩,rfl,fun k hk=>?_⟩,?_⟩
 .rcases hk with hk|hk|hk|hk
  .exact⟨hk.1,by have:=hk.2;simp;omega⟩
  .exact⟨by have:=hk.1;omega,by have:=hk.2;simp;omega⟩
  .exact⟨aa,aF⟩
  .cases hk
 .exact b.o.trans ((a.o.mono q).alloc aa _)
end
end
end Go.Proofs.YtkjdbndekceffaaGreat
