/- Made small by a program. -/
import Derived.Test.YtkjdbndekceffaaGreatW16
set_option linter.unusedSimpArgs false
set_option linter.unusedVariables false
set_option maxRecDepth 100000
set_option maxHeartbeats 16000000
namespace Go.Proofs.YtkjdbndekceffaaGreat
open Tryz
section
open Go.RowKit Go.Sort Go.Shelf Go.Lib Go.Maps
attribute [local irreducible] wpQuiet
attribute [local go_sem] Oper.fo
def Ev (l:List Pt) (x y way:Int):List Int:=if way<=3 then AA l (AB x y (decide (way%2=1)) (decide (2<=way)))else[]
theorem LX {a:Int} (b:0<=a) (h:a<=3):a=(if decide (a%2=1)then 1 else 0)+(if decide (2<=a)then 2 else 0):=by
 have:a=0\/a=1\/a=2\/a=3:=by omega
 rcases this with rfl|rfl|rfl|rfl<;>decide
theorem TK {w:World} {lo hi cb n0:Nat} {l:List Pt} (h:sU w lo hi cb n0 l) (f:SA l) (x y a:Int) (d:0<=a):
  aH 40 #[ah cb,aa x,aa y,.int .u8 a] w fun e w'=>∃v,∃c:Nat,e=.returned (.tuple #[v,aa ((c+(Ev l x y a).length:Nat):Int)])/\c<=8*Lib.bitLen n0+1/\w'.ownsRow w.heap.size 27 1 v (Ev l x y a).length ((Ev l x y a).map (Value.int .u32))/\Below w.heap.size w w':=by
 unfold Ev;by_cases b:a<=3
 .rw[aK b];exact NA h f x y _ _ a (LX d b)
 .rw[aI b];refine(FJ h x y a (by omega)).mono ?_;rintro e w' ⟨rfl,rfl⟩;exact⟨_,0,rfl,bf _,dz _ _ _ _,aB _ _⟩
theorem Gg:∀args w,(callFunc 39 args).run prog w=.ok (.enter 39 args) w:=cK func39 (by kernel_rfl) rfl
theorem Gh:∀args w,(callFunc 66 args).run prog w=.ok (.enter 66 args) w:=cK func66 (by kernel_rfl) rfl
theorem LY {u:World} {F:Nat->Prop} {tb n0:Nat} {l:List Pt} (h:Bk u F tb n0 l) (x1 x2 y1 y2 d:Int) {b:Nat} (m:u.cell? (ae b 0)=some (aa x1)) (n:u.cell? (ae b 1)=some (aa x2)) (q:u.cell? (ae b 2)=some (aa y1)) (r:u.cell? (ae b 3)=some (aa y2)) (s:u.cell? (ae b 4)=some (ai d)):
  aH 66 #[ah tb,ah b] u fun e f=>∃v,∃t:Nat,e=.returned (.tuple #[v,aa t])/\(∃c:Nat,t=c+(hasB l x1 x2 y1 y2).length/\c<=8*Lib.bitLen n0+1)/\f.ownsRow u.heap.size 27 1 v (hasB l x1 x2 y1 y2).length ((hasB l x1 x2 y1 y2).map (Value.int .u32))/\Below u.heap.size u f:=by
 have⟨lo,m0,m1,m2,m3,m4,hi,bx,cn,hp,lw,ob,tl,sv,dn,h⟩:=h;have H:=af h;have k:u.cell? (ae tb 1)=some (ah bx):=by simp[World.cell?,h.blk]
 have j:au (fun _=>False) u u.drew:=(au.refl _ u).drew;have g:=af (JH (H.o.box.kept j (fun _ _ _ h=>h)) x1 x2 y1 y2 d);have E:=ag k;have z:=ag m;have A:=ag n;have B:=ag q;have C:=ag r;have D:=ag s;go_enter func66,ntmps66
 go_wp2_with fail
 refine ak (fun W=>∃p:aT u,W=p.W) [5,6,7,8,9] [(0,false),(1,false),(2,false),(3,true),(4,true)] ⟨⟨_,(aB _ _).drew⟩,rfl⟩ 5 ?_;simp only[bn,aX,aY,aW,aN,aM,aO]
 repeat(refine aD (fun K a=>?_);go_simp;first|(refine a _ ?_;clear a K)|(apply Exists.intro;refine⟨fun _=>?_,a _ ?_⟩;rfl;clear a K))
 refine aJ ?_;refine aA 5 rfl fun K a=>?_;refine bg Gg rfl _ _ rfl (vals:=#[ah bx,.agg #[aa x1,aa x2,aa y1,aa y2,ai d]]) rfl g.o ?_;rintro e u1 ⟨v,c,rfl,x,y,w⟩;have i:Hid (Below u.heap.size u u1):=(aB _ _).drew.trans w;refine⟨_,rfl,?_⟩;refine a _ _ (fun _ h=>absurd (by decide) h) ?_;have HO:=af y;refine iI (fun _=>True) [8,9] (by kernel_rfl) ?_;refine bG [(6,false),(7,false)] trivial rfl ?_;simp only[bn,aX,aY,aW,aN,aM,aO]
 repeat(refine aD (fun K a=>?_);go_simp;first|(refine a _ ?_;clear a K)|(apply Exists.intro;refine⟨fun _=>?_,a _ ?_⟩;rfl;clear a K))
 refine aJ ?_;refine aF [8,9] _ _ _ (by kernel_rfl) ?_;simp only[pick,aX,aY,aW,aN,aM];go_wp2;go_ret2;exact⟨_,_,rfl,⟨c,rfl,x⟩,HO.o,i.o⟩
theorem I8:∀args w,(callFunc 41 args).run prog w=.ok (.enter 41 args) w:=cK func41 (by kernel_rfl) rfl
theorem I9:∀args w,(callFunc 68 args).run prog w=.ok (.enter 68 args) w:=cK func68 (by kernel_rfl) rfl
theorem OB {u:World} {F:Nat->Prop} {tb n0:Nat} {l:List Pt} (h:Bk u F tb n0 l) (x1 x2 y:Int) {b d f:Nat} (n:u.cell? (ae b 0)=some (aa x1)) (q:u.cell? (ae d 0)=some (aa x2)) (r:u.cell? (ae f 0)=some (aa y)):
  aH 68 #[ah tb,ah b,ah d,ah f] u fun e g=>∃v,∃t:Nat,e=.returned (.tuple #[v,aa t])/\((vZ l x1 x2 y).length<=t/\t<=2*(vZ l x1 x2 y).length+JW n0)/\g.ownsRow u.heap.size 27 1 v (vZ l x1 x2 y).length ((vZ l x1 x2 y).map (Value.int .u32))/\Below u.heap.size u g:=by
 have⟨lo,m0,m1,m2,m3,m4,hi,bx,cn,hp,lw,ob,tl,sv,dn,h⟩:=h;have H:=af h;have m:u.cell? (ae tb 3)=some (ah hp):=by simp[World.cell?,h.blk]
 have k:au (fun _=>False) u u.drew:=(au.refl _ u).drew;have i:=af (RO (H.o.Tv.kept k (fun _ _ _ h=>h)) x1 x2 y);have C:=ag m;have z:=ag n;have A:=ag q;have B:=ag r;go_enter func68,ntmps68
 go_wp2_with fail
 refine ak (fun W=>∃p:aT u,W=p.W) [7,8,9,10,11] [(0,false),(1,false),(2,false),(3,true),(4,true),(5,true),(6,true)] ⟨⟨_,(aB _ _).drew⟩,rfl⟩ 5 ?_;simp only[bn,aX,aY,aW,aN,aM,aO]
 repeat(refine aD (fun K a=>?_);go_simp;first|(refine a _ ?_;clear a K)|(apply Exists.intro;refine⟨fun _=>?_,a _ ?_⟩;rfl;clear a K))
 refine aJ ?_;refine aA 7 rfl fun K a=>?_;refine bg I8 rfl _ _ rfl (vals:=#[ah hp,aa x1,aa x2,aa y]) rfl i.o ?_;rintro e u1 ⟨v,c,rfl,w,x,s⟩;have j:Hid (Below u.heap.size u u1):=(aB _ _).drew.trans s;refine⟨_,rfl,?_⟩;refine a _ _ (fun _ h=>absurd (by decide) h) ?_;have HO:=af x;refine iI (fun _=>True) [10,11] (by kernel_rfl) ?_;refine bG [(8,false),(9,false)] trivial rfl ?_;simp only[bn,aX,aY,aW,aN,aM,aO]
 repeat(refine aD (fun K a=>?_);go_simp;first|(refine a _ ?_;clear a K)|(apply Exists.intro;refine⟨fun _=>?_,a _ ?_⟩;rfl;clear a K))
 refine aJ ?_;refine aF [10,11] _ _ _ (by kernel_rfl) ?_;simp only[pick,aX,aY,aW,aN,aM];go_wp2;go_ret2;exact⟨_,_,rfl,w,HO.o,j.o⟩
theorem Gi:∀args w,(callFunc 40 args).run prog w=.ok (.enter 40 args) w:=cK func40 (by kernel_rfl) rfl
theorem Gj:∀args w,(callFunc 67 args).run prog w=.ok (.enter 67 args) w:=cK func67 (by kernel_rfl) rfl
theorem LZ {u:World} {F:Nat->Prop} {tb n0:Nat} {l:List Pt} (h:Bk u F tb n0 l) (x y b:Int) (C:SA l) (B:0<=b) {d f g:Nat} (q:u.cell? (ae d 0)=some (aa x)) (r:u.cell? (ae f 0)=some (aa y)) (s:u.cell? (ae g 0)=some (.int .u8 b)):
  aH 67 #[ah tb,ah d,ah f,ah g] u fun e i=>∃v,∃t:Nat,e=.returned (.tuple #[v,aa t])/\(∃c:Nat,t=c+(Ev l x y b).length/\c<=8*Lib.bitLen n0+1)/\i.ownsRow u.heap.size 27 1 v (Ev l x y b).length ((Ev l x y b).map (Value.int .u32))/\Below u.heap.size u i:=by
 have⟨lo,m0,m1,m2,m3,m4,hi,bx,cn,hp,lw,ob,tl,sv,dn,h⟩:=h;have H:=af h;have n:u.cell? (ae tb 2)=some (ah cn):=by simp[World.cell?,h.blk]
 have m:au (fun _=>False) u u.drew:=(au.refl _ u).drew;have j:=af (TK (H.o.Tu.kept m (fun _ _ _ h=>h)) C x y b B);have I:=ag n;have D:=ag q;have E:=ag r;have G:=ag s;go_enter func67,ntmps67
 go_wp2_with fail
 refine ak (fun W=>∃p:aT u,W=p.W) [7,8,9,10,11] [(0,false),(1,false),(2,false),(3,true),(4,true),(5,true),(6,true)] ⟨⟨_,(aB _ _).drew⟩,rfl⟩ 5 ?_;simp only[bn,aX,aY,aW,aN,aM,aO]
 repeat(refine aD (fun K a=>?_);go_simp;first|(refine a _ ?_;clear a K)|(apply Exists.intro;refine⟨fun _=>?_,a _ ?_⟩;rfl;clear a K))
 refine aJ ?_;refine aA 7 rfl fun K a=>?_;refine bg Gi rfl _ _ rfl (vals:=#[ah cn,aa x,aa y,.int .u8 b]) rfl j.o ?_;rintro e u1 ⟨v,c,rfl,z,A,w⟩;have k:Hid (Below u.heap.size u u1):=(aB _ _).drew.trans w;refine⟨_,rfl,?_⟩;refine a _ _ (fun _ h=>absurd (by decide) h) ?_;have HO:=af A;refine iI (fun _=>True) [10,11] (by kernel_rfl) ?_;refine bG [(8,false),(9,false)] trivial rfl ?_;simp only[bn,aX,aY,aW,aN,aM,aO]
 repeat(refine aD (fun K a=>?_);go_simp;first|(refine a _ ?_;clear a K)|(apply Exists.intro;refine⟨fun _=>?_,a _ ?_⟩;rfl;clear a K))
 refine aJ ?_;refine aF [10,11] _ _ _ (by kernel_rfl) ?_;simp only[pick,aX,aY,aW,aN,aM];go_wp2;go_ret2;exact⟨_,_,rfl,⟨c,rfl,z⟩,HO.o,k.o⟩
end
section
open Go.RowKit Go.Maps
attribute [local irreducible] wpQuiet
section
variable {W:World} {base A Cb:Nat} {bv pv lv cv:Value} {bh ch:List kX} {al:List Bool} {pl:List Int} {n N wk:Int}
theorem dR.rows {W':World} {l j:Value} {al':List Bool} {pl':List Int} (h:dR W base A Cb bv pv lv cv bh ch al pl n N wk) (K:au (fun k=>k=A\/pv.ownBlock=some k\/lv.ownBlock=some k) W W')
  (hb:W'.heap[A]? =some (Obj.cells #[.pointer (some ⟨Cb,0,none⟩),bv,l,j,.int .i64 n] 207 (0,0)))
  (hp:W'.ownsRow base 3 1 l pl'.length (pl'.map (Value.int .i64))) (q:W'.ownsRow base 4 1 j al'.length (al'.map Value.bool)):dR W' base A Cb bv l j cv bh ch al' pl' n N wk:=by
 have c:∀{b:Nat} {cs:Array Value} {t:TypeId} {fr:Nat×Nat},W.heap[b]? =some (Obj.cells cs t fr)->t≠207->t≠3->t≠4->¬(b=A\/pv.ownBlock=some b\/lv.ownBlock=some b):=by
  rintro b cs t fr hb d f i (h9|h9|h9)
  .exact dU hb h.blk d h9
  .exact bz h.iq hb f _ h9 rfl
  .exact bz h.dP hb i _ h9 rfl
 have p:∀{e:TypeId} {sz:Nat} {v:Value} {n:Nat} {xs:List Value},W.ownsRow base e sz v n xs->e≠207->e≠3->e≠4->W'.ownsRow base e sz v n xs:=fun o d f i=>
  aS o K fun u e=>by
   rcases o.2 with⟨rfl,_⟩|⟨g,s,m,rfl,_,r,_⟩
   .cases e
   .simp only[Value.ownBlock,iV]at e;subst e;exact c r d f i
 exact⟨h.hb,hb,⟨h.fH.hb,h.fH.ds,bF K h.fH.blk (c h.fH.blk (by decide) (by decide) (by decide)),p h.fH.row (by decide) (by decide) (by decide)⟩,p h.gI (by decide) (by decide) (by decide),hp,q,
  h.bE.kept fun b m fr a=>K.block b (aZ.1 a).1 (c a (by decide) (by decide) (by decide)),h.cE.kept fun b m fr a=>K.block b (aZ.1 a).1 (c a (by decide) (by decide) (by decide)),h.sep⟩
theorem rM {w:World} {A i:Nat} {cs a:Array Value} {t:TypeId} {v:Value} (h:w.heap[A]? =some (Obj.cells cs t (0,0))) (e:a=cs.setIfInBounds i v):(w.setCell ⟨A,i,none⟩ v).heap[A]? =some (Obj.cells a t (0,0)):=by
 rw[dA w A i _ _ _ h,e]
structure df (W:World) (base A Cb:Nat) (bv pv lv cv:Value) (bh ch:List kX) (al:List Bool) (pl:List Int) (n N wk:Int):Prop where
 hb:base<=A
 blk:W.heap[A]? =some (Obj.cells #[.pointer (some ⟨Cb,0,none⟩),bv,pv,lv,.int .i64 n] 207 (0,0))
 fH:iK W base Cb cv ch N wk
 gI:W.ownsRow base 209 1 bv bh.length (bh.map dQ)
 iq:W.ownsRow base 3 1 pv pl.length (pl.map (Value.int .i64))
 dP:W.ownsRow base 4 1 lv al.length (al.map Value.bool)
 sep:bv.ownBlock=none\/bv.ownBlock≠cv.ownBlock
theorem dR.core (h:dR W base A Cb bv pv lv cv bh ch al pl n N wk):df W base A Cb bv pv lv cv bh ch al pl n N wk:=⟨h.hb,h.blk,h.fH,h.gI,h.iq,h.dP,h.sep⟩
theorem df.rep (h:df W base A Cb bv pv lv cv bh ch al pl n N wk) (hb:jI W bh) (a:jI W ch):dR W base A Cb bv pv lv cv bh ch al pl n N wk:=⟨h.hb,h.blk,h.fH,h.gI,h.iq,h.dP,hb,a,h.sep⟩
theorem df.cell (h:df W base A Cb bv pv lv cv bh ch al pl n N wk):
  W.cell? ⟨A,0,none⟩=some (.pointer (some ⟨Cb,0,none⟩))/\W.cell? ⟨A,1,none⟩=some bv/\W.cell? ⟨A,2,none⟩=some pv/\W.cell? ⟨A,3,none⟩=some lv/\W.cell? ⟨A,4,none⟩=some (.int .i64 n):=by
 have:=h.blk;refine⟨?_,?_,?_,?_,?_⟩<;>simp[World.cell?,this]
theorem df.frozen (h:df W base A Cb bv pv lv cv bh ch al pl n N wk) (j:Nat):W.frozen? ⟨A,j,none⟩=false:=by
 have:=h.blk;simp[World.frozen?,this]
theorem df.lt (h:df W base A Cb bv pv lv cv bh ch al pl n N wk):A<W.heap.size:=(aZ.1 h.blk).1
theorem df.below {W':World} (h:df W base A Cb bv pv lv cv bh ch al pl n N wk) (hb:Below W.heap.size W W'):df W' base A Cb bv pv lv cv bh ch al pl n N wk:=
 ⟨h.hb,(aL hb h.blk).trans h.blk,h.fH.below hb,ax h.gI hb,ax h.iq hb,ax h.dP hb,h.sep⟩
def nK (A Cb:Nat) (bv pv lv cv:Value) (k:Nat):Prop:=k=A\/k=Cb\/bv.ownBlock=some k\/pv.ownBlock=some k\/lv.ownBlock=some k\/cv.ownBlock=some k
theorem df.add {W':World} {c:Value} {i:List kX} {g l:Int} (h:df W base A Cb bv pv lv cv bh ch al pl n N wk) (K:au (fun k=>k=Cb\/cv.ownBlock=some k) W W') (q:iK W' base Cb c i g l) (r:c.ownBlock=cv.ownBlock\/c.ownBlock=none\/∃b,c.ownBlock=some b/\W.heap.size<=b):
  df W' base A Cb bv pv lv c bh i al pl n g l:=by
 have f:∀{e:TypeId} {sz:Nat} {v:Value} {n:Nat} {xs:List Value},W.ownsRow base e sz v n xs->e≠290->(∀a,v.ownBlock=some a->cv.ownBlock≠some a)->W'.ownsRow base e sz v n xs:=fun j o p=>
  aS j K fun a e=>by
   rintro(h9|h9)
   .exact bz j h.fH.blk (iG o) a e h9.symm
   .exact p a e h9
 refine⟨h.hb,bF K h.blk ?_,q,f h.gI (by decide) ?_,f h.iq (by decide) (bD h.iq h.fH.row (by decide)),f h.dP (by decide) (bD h.dP h.fH.row (by decide)),?_⟩
 .rintro(h9|h9)
  .exact dU h.blk h.fH.blk (by decide) h9
  .exact bz h.fH.row h.blk (by decide) _ h9 rfl
 .intro a e m;rcases h.sep with h9|h9
  .rw[h9]at e;cases e
  .exact h9 (e.trans m.symm)
 .rcases r with h9|h9|⟨b,h9,s⟩
  .rw[h9];exact h.sep
  .rw[h9];rcases GJ bv.ownBlock with d|⟨x,d⟩
   .exact .inl d
   .exact .inr (by rw[d];simp)
  .rw[h9];right;intro e;have:=(h.gI.lt b e).2;omega
theorem df.TL {g k c:Nat} (h:df W base A Cb (.slice (some ⟨g,0,none⟩) k c) pv lv cv bh ch al pl n N wk) (f:k=bh.length) (m:Nat) (x:kX):df (W.setCell ⟨g,m,none⟩ (dQ x)) base A Cb (.slice (some ⟨g,0,none⟩) k c) pv lv cv (bh.set m x) ch al pl n N wk:=by
 subst f;have⟨i,b⟩:=y7 h.gI;have d:∀a,cv.ownBlock=some a->g≠a:=by
  rintro a e rfl;rcases h.sep with h9|h9
  .cases h9
  .exact h9 e.symm
 refine⟨h.hb,(az (dU b h.blk (by decide))).trans h.blk,⟨h.fH.hb,h.fH.ds,(az (dU b h.fH.blk (by decide))).trans h.fH.blk,aV h.fH.row fun a e=>az (d a e)⟩,?_,aV h.iq fun a e=>az (bz h.iq b (by decide) a e),aV h.dP fun a e=>az (bz h.dP b (by decide) a e),h.sep⟩;rw[jY,j3];exact(h.gI.stored m (dQ x)).1
theorem df.OC {W':World} {c:Value} {bh':List kX} (h:df W base A Cb bv pv lv cv bh ch al pl n N wk) (j:W.grownBy W' bv.ownBlock) (i:W'.ownsRow base 209 1 c bh'.length (bh'.map dQ)) (m:c.ownBlock=bv.ownBlock\/c.ownBlock=none\/∃b,c.ownBlock=some b/\W.heap.size<=b):
  df (W'.setCell ⟨A,1,none⟩ c) base A Cb c pv lv cv bh' ch al pl n N wk:=by
 have K:au (fun k=>bv.ownBlock=some k) W W':=(au.refl _ W).grown j (fun k l=>.inl l);have f:W'.heap[A]? =some (Obj.cells #[.pointer (some ⟨Cb,0,none⟩),bv,pv,lv,.int .i64 n] 207 (0,0)):=bF K h.blk fun e=>bz h.gI h.blk (by decide) _ e rfl;have g:W'.ownsRow base 209 1 cv ch.length (ch.map dQ):=aS h.fH.row K fun a e d=>by
  rcases h.sep with h9|h9
  .rw[h9]at d;cases d
  .exact h9 (d.trans e.symm)
 have o:c.ownBlock=none\/c.ownBlock≠cv.ownBlock:=by
  rcases m with h9|h9|⟨b,h9,p⟩
  .rw[h9];exact h.sep
  .exact .inl h9
  .rw[h9];right;intro e;have:=(h.fH.row.lt b e.symm).2;omega
 refine⟨h.hb,rM f rfl,⟨h.fH.hb,h.fH.ds,(az (dU h.blk h.fH.blk (by decide))).trans (bF K h.fH.blk fun e=>bz h.gI h.fH.blk (by decide) _ e rfl),aV g fun a e=>az (bz g f (by decide) a e)⟩,
  aV i fun a e=>az (bz i f (by decide) a e),?_,?_,o⟩
 .have:=aS h.iq K fun a e d=>bD h.iq h.gI (by decide) a e d;exact aV this fun a e=>az (bz this f (by decide) a e)
 .have:=aS h.dP K fun a e d=>bD h.dP h.gI (by decide) a e d;exact aV this fun a e=>az (bz this f (by decide) a e)
end
section
variable {W:World} {base A Cb:Nat} {bv pv lv cv:Value} {bh ch:List kX} {al:List Bool} {pl:List Int} {n N wk:Int}
theorem df.U1 {W':World} {d k:Nat} {v:Value} {xs:List Value} (h:df W base A Cb bv pv lv cv bh ch al pl n N wk) (c:W.ownsRow d 204 2 v k xs) (f:W.grownBy W' v.ownBlock):df W' base A Cb bv pv lv cv bh ch al pl n N wk:=by
 have K:au (fun k=>v.ownBlock=some k) W W':=(au.refl _ W).grown f (fun k g=>.inl g);exact⟨h.hb,bF K h.blk fun e=>bz c h.blk (by decide) _ e rfl,⟨h.fH.hb,h.fH.ds,bF K h.fH.blk fun e=>bz c h.fH.blk (by decide) _ e rfl,aS h.fH.row K fun b e a=>bD h.fH.row c (by decide) b e a⟩,
  aS h.gI K fun b e a=>bD h.gI c (by decide) b e a,aS h.iq K fun b e a=>bD h.iq c (by decide) b e a,aS h.dP K fun b e a=>bD h.dP c (by decide) b e a,h.sep⟩
theorem df.eU {W':World} (h:df W base A Cb bv pv lv cv bh ch al pl n N wk) {T:Nat->Prop} (K:au (fun k=>nK A Cb bv pv lv cv k\/T k) W W') (b:Nat) (a:Array Value) (fr:Nat×Nat) (hb:W.heap[b]? =some (Obj.cells a 204 fr)) (c:¬T b):W'.heap[b]? =W.heap[b]? :=by
 refine K.block b (aZ.1 hb).1 ?_;rintro((h9|h9|h9|h9|h9|h9)|h9)
 .exact dU hb h.blk (by decide) h9
 .exact dU hb h.fH.blk (by decide) h9
 .exact bz h.gI hb (by decide) _ h9 rfl
 .exact bz h.iq hb (by decide) _ h9 rfl
 .exact bz h.dP hb (by decide) _ h9 rfl
 .exact bz h.fH.row hb (by decide) _ h9 rfl
 .exact c h9
def ym (A:Nat) (w:World):Nat:=match w.cell? ⟨A,1,none⟩with|some (.slice _ n _)=>n|_=>0
theorem df.ym (h:df W base A Cb bv pv lv cv bh ch al pl n N wk):ym A W=bh.length:=by
 obtain⟨av,a,rfl,-,-,-⟩:=Rd.aC (enc:=dQ) h.gI;unfold Proofs.YtkjdbndekceffaaGreat.ym;rw[h.cell.2.1]
end
def BP (bh:List kX) (k:Nat):List kX:=List.replicate k fF++bh.drop k
theorem Ew {bh:List kX} {k:Nat} (a:k<=bh.length):(BP bh k).length=bh.length:=by simp[BP];omega
theorem Qq {bh:List kX} {k:Nat} (a:k<bh.length):(BP bh k).set k fF=BP bh (k+1):=by
 unfold BP;rw[sK _ _ (by simp),gX,kE,kZ a,nN,qD,dW];rfl
theorem Qr {bh a:List kX} {i:Nat} (h:a=bh/\i<bh.length\/a=bh++[fF]/\i=bh.length) (hd:kX):((BP a i).set i hd).map (·.2.1)=List.replicate i []++hd.2.1::(bh.map (·.2.1)).drop (i+1):=by
 have c:i<a.length:=by rcases h with⟨rfl,h⟩|⟨rfl,h⟩<;>first|omega|(simp;omega)
 have b:(a.drop (i+1)).map (·.2.1)=(bh.map (·.2.1)).drop (i+1):=by
  rcases h with⟨rfl,h⟩|⟨rfl,h⟩
  .rw[wZ]
  .rw[nL (by simp;omega),nL (by simp;omega)];rfl
 unfold BP;rw[sK _ _ (by simp),gX,kE,kZ c,nN,bS,lC,b,Dj]
theorem Kb {bh a:List kX} {i:Nat} (c:a=bh/\i<bh.length\/a=bh++[fF]/\i=bh.length) {hd h:kX} (d:h∈(BP a i).set i hd):h=hd\/h=fF\/h∈bh:=by
 rcases CY d with h1|h1
 .unfold BP at h1;rw[bT]at h1;rcases h1 with h1|h1
  .exact .inr (.inl (zq.1 h1).2)
  .have b:=GV h1;rcases c with⟨rfl,-⟩|⟨rfl,-⟩
   .exact .inr (.inr b)
   .rcases bT.1 b with h3|h3
    .exact .inr (.inr h3)
    .exact .inr (.inl (by simpa using h3))
 .exact .inl h1
theorem wC {w:World} {base n:Nat} {v:Value} {l:List iR} (a:l.length=n) (j:n<4611686018427387904) (h:w.ownsRow base 204 2 v n (l.flatMap iC)) (p:base<=w.heap.size):
  Calls prog 133 #[v] w fun e w'=>e=.returned v/\∃l':List iR,l'.Perm l/\l'.Pairwise (fun x y=>x.1<=y.1)/\w'.ownsRow base 204 2 v n (l'.flatMap iC)/\w.grownBy w' v.ownBlock:=by
 rcases h.2 with⟨rfl,b⟩|⟨g,k,m,rfl,q,_⟩
 .subst b;obtain rfl:l=[]:=gJ a;have d:=af h;go_enter func133,ntmps133
  go_wp2_with fail
  refine(D8 none 0 _ w).mono ?_;rintro e w' ⟨rfl,rfl⟩;go_wp2;go_ret;exact⟨rfl,[],oL _,List.Pairwise.nil,d.o,⟨rfl,rfl,rfl,ay _,fun _ _ _=>rfl⟩⟩
 .have C:=af (Pw a j h);go_enter func133,ntmps133
  go_wp2_with fail
  refine C.o.mono ?_;rintro e w' ⟨rfl,l',hp,i,f,c⟩;go_wp2;go_ret;exact⟨rfl,l',hp,i,f,c⟩
section
variable {W:World} {base A Cb:Nat} {bv pv lv cv:Value} {bh ch:List kX} {al:List Bool} {pl:List Int} {n N wk:Int}
def Qs (W:World) (base A Cb:Nat) (bv pv lv cv:Value) (bh ch:List kX) (al:List Bool) (pl:List Int) (n N id p:Int) (e:Ending) (w':World):Prop:=
 ∃(QU UQ UO Bw:Value) (bh' qj:List kX) (Jp:Int),e=.returned (.int .i64 0)/\dR w' base A Cb QU UQ UO Bw bh' qj (al++[true]) (pl++[p]) (n+1) (N+1) Jp/\rD (qj.map (·.2.1)) (bh'.map (·.2.1)) (al++[true]) (pl++[p]) (n+1) (N+1)/\
  (qj.map (·.2.1)).flatten.Perm ((id,(al.length:Int))::(ch.map (·.2.1)).flatten)/\(∀k,nK A Cb QU UQ UO Bw k->nK A Cb bv pv lv cv k\/W.heap.size<=k)/\au (nK A Cb bv pv lv cv) W w'/\Nw W.heap.size bh bh'/\Nw W.heap.size ch qj
theorem Ja (h:dR W base A Cb bv pv lv cv bh ch al pl n N wk) (dK:base<=W.heap.size) (aK:rD (ch.map (·.2.1)) (bh.map (·.2.1)) al pl n N) (da:al.length<5000) (id p:Int) (bA:∀x∈(ch.map (·.2.1)).flatten,x.1≠id):
  Calls prog 56 #[.pointer (some ⟨A,0,none⟩),.int .u32 id,.int .i64 p] W (Qs W base A Cb bv pv lv cv bh ch al pl n N id p):=by
 have bT:=af (JC h);have H:=af h;have ae:=aK.Sy;have b5:=af (fun W' (F:Below W.heap.size W W')=>vQ A id W' _ bh bv base ((h.below F).cell.2.1) (h.below F).gI rfl (h.below F).bE aK.sorted (by have:=ae.1;simp at this;omega) (fun l cX=>by have:=ae.2.2.1 l cX;omega));have d8:0<=n/\n<=5000:=by
  have h1:=aK.cnt;have Y:al.count true<=al.length:=GX;omega
 have ah:=af aK;go_enter func56,ntmps56
 go_wp2_with fail
 refine bT.o.mono ?_;rintro e w2 ⟨rfl,ak⟩
 go_wp2_with fail
 refine(b5.o w2 ak).mono ?_;rintro e w3 ⟨k,t,rfl,ht,m,cO⟩;have aL:=ak.trans (cO.mono ak.size);have aU:=af (H.o.below aL);have⟨dp,dq,dr,ds,dt⟩:=aU.o.cell;have cW:k=-1:=by
  rcases m with⟨y,bN,h1,Y⟩|⟨rfl,-⟩
  .rw[iL ah.o.perm]at bN;exact absurd h1 (bA _ bN)
  .rfl
 subst cW;have f4:=aU.o.frozen 4;have aW:=aU.o.Rt (n+1);have ca:=af ah.o.len;have d9:pl.length<5000:=by have:=ca.o;omega
 have u:=af (aW.below ((aB _ _).alloc (ay _) (.cells #[.int .u32 id,.int .i64 (al.length:Int)] 204)));have bd:Hid (au (fun k=>k=A) W ((w3.setCell ⟨A,4,none⟩ (.int .i64 (n+1))).alloc (.cells #[.int .u32 id,.int .i64 (al.length:Int)] 204))):=((((au.refl (fun k=>k=A) W).below aL).set (a:=⟨A,4,none⟩) _ (.inl rfl)).alloc _);have dk:((w3.setCell ⟨A,4,none⟩ (.int .i64 (n+1))).alloc (.cells #[.int .u32 id,.int .i64 (al.length:Int)] 204)).cell? ⟨w3.heap.size,0,none⟩=some (.int .u32 id):=by rw[ed _ _ _ _ (by simp)];rfl
 have x1:((w3.setCell ⟨A,4,none⟩ (.int .i64 (n+1))).alloc (.cells #[.int .u32 id,.int .i64 (al.length:Int)] 204)).cell? ⟨w3.heap.size,1,none⟩=some (.int .i64 (al.length:Int)):=by rw[ed _ _ _ _ (by simp)];rfl
 have bL:w3.heap.size<((w3.setCell ⟨A,4,none⟩ (.int .i64 (n+1))).alloc (.cells #[.int .u32 id,.int .i64 (al.length:Int)] 204)).heap.size:=by simp
 have dI:W.heap.size<=w3.heap.size:=aL.size;have cr:=af dk;have cs:=af x1;have⟨d0,d1,d2,d3,d4⟩:=aW.cell;obtain⟨de,dd,c1,-,-,-⟩:=Rd.aC aW.dP;subst c1
 go_upto_region 11 with fail
 generalize((w3.setCell ⟨A,4,none⟩ (.int .i64 (n+1))).alloc (.cells #[.int .u32 id,.int .i64 (al.length:Int)] 204))=ag at*;generalize Value.slice de al.length dd=M at*
 go_cut []from 61 to 79 (fun D=>∃s r,Hid (dR D base A Cb bv s r cv bh ch (al++[true]) (pl++[p]) (n+1) N wk)/\Hid (s.ownBlock=pv.ownBlock\/∃b,s.ownBlock=some b/\W.heap.size<=b)/\Hid (r.ownBlock=M.ownBlock\/∃b,r.ownBlock=some b/\W.heap.size<=b)/\Hid (au (fun k=>k=A\/pv.ownBlock=some k\/M.ownBlock=some k) ag D))
 case first=>
  obtain⟨-,bP,dg,ea,-⟩:=u.o.cell;have dA:∀j,ag.frozen? ⟨A,j,none⟩=false:=u.o.frozen;have dC:=u.o.lt;have dG:=H.o.lt;have c5:∀d,pv.ownBlock=some d->d<ag.heap.size/\d≠A:=fun d e=>⟨(u.o.iq.lt d e).2,fun a0=>bz u.o.iq u.o.blk (by decide) d e a0.symm⟩;have cZ:∀d,M.ownBlock=some d->d<ag.heap.size/\d≠A:=fun d e=>⟨(u.o.dP.lt d e).2,fun a0=>bz u.o.dP u.o.blk (by decide) d e a0.symm⟩;have c6:∀d,pv.ownBlock=some d->M.ownBlock≠some d:=fun d e e2=>by
   rcases u.o.dP.2 with⟨rfl,_⟩|⟨g,dv,X,rfl,_,ao,_⟩
   .cases e2
   .simp only[Value.ownBlock,iV]at e2;subst e2;exact bz u.o.iq ao (by decide) _ e rfl
  have aD:=af c5;have ax:=af cZ;have bc:=af c6;have dL:base<=ag.heap.size:=by have:=bd.o.size;omega
  have cI:=u.o.blk
  go_region_law (first
   |(refine bH xw base (aS (S:=fun _=>False) u.o.dP (by repeat(first|exact au.refl _ _|refine au.drew ?_|refine au.alloc ?_ _)) (fun _ _ h=>h)) [.bool true] rfl (by simp[Value.oneCell']) rfl (.tmp 66) (.tmp 67) rfl rfl _ rfl (by first|exact kF _ _|exact BX _ _ _|exact BZ _ _ _) (by unfold maxLen;omega) (by omega) (by first|(simp;done)|(simp;omega)) ?_
     intro ai ct bQ cK Z bm dE;have⟨eb,ec⟩:=cu ((au.refl (fun k=>M.ownBlock=some k) _).grown Z (fun k m=>.inl m)) (b:=A) (by first|(simp;done)|(simp;omega)) (fun e=>(ax.o _ e).2 rfl);have dF:A<bQ.heap.size:=by(have:=Z.size;simp at this;omega)
     have aM:Hid (ai≠A/\pv.ownBlock≠some ai/\(M.ownBlock=some ai\/W.heap.size<=ai)):=(by
      rcases bm with h9|h9
      .exact⟨(ax.o _ h9).2,fun e=>bc.o _ e h9,.inl h9⟩
      .simp at h9;exact⟨by omega,fun e=>by(have:=(aD.o _ e).1;omega),.inr (by omega)⟩)
     clear bm)
   |(refine bH mI base (aS (S:=fun k=>M.ownBlock=some k) u.o.iq (by repeat(first|exact au.refl _ _|refine au.drew ?_|refine au.alloc ?_ _|refine au.grown ?_ Z (fun k m=>.inl m))) (fun d e e2=>bc.o d e e2)) [.int .i64 p] rfl (by simp[Value.oneCell']) rfl (.tmp 72) (.tmp 74) rfl rfl _ rfl (by first|exact di _ _|(refine(Z.block _ (by first|(simp;done)|(simp;omega)) (fun e=>by have:=(ax.o _ e.symm).1;omega)).trans ?_;first|exact kF _ _|exact BX _ _ _|exact BZ _ _ _)) (by unfold maxLen;omega) (by omega) (by have:=Z.size;simp at this |-;omega) ?_
     intro aj cw wp cN a1 bo dH;have⟨ee,ef⟩:=cu ((au.refl (fun k=>pv.ownBlock=some k) _).grown a1 (fun k m=>.inl m)) (b:=A) (by have:=Z.size;simp at this |-;omega) (fun e=>(aD.o _ e).2 rfl);have a9:Hid (aj≠A/\(pv.ownBlock=some aj\/W.heap.size<=aj)):=(by
      rcases bo with h9|h9
      .exact⟨(aD.o _ h9).2,.inl h9⟩
      .have P:=Z.size;simp at h9 P;exact⟨by omega,.inr (by omega)⟩)
     clear bo))
  all_goals go_wp2_with fail
  all_goals go_meet
  all_goals
   have aR:au (fun k=>pv.ownBlock=some k\/M.ownBlock=some k) ag wp:=(by repeat(first|exact au.refl _ _|with_reducible refine au.drew ?_|with_reducible refine au.alloc ?_ _|refine au.grown ?_ a1 (fun k m=>.inl (.inl m))|refine au.grown ?_ Z (fun k m=>.inl (.inr m))));have cp:au (fun k=>k=A\/pv.ownBlock=some k) bQ wp:=(by repeat(first|exact au.refl _ _|with_reducible refine au.drew ?_|with_reducible refine au.alloc ?_ _|refine au.grown ?_ a1 (fun k m=>.inl (.inr m))));have F:=bF aR cI (fun e=>e.elim (fun e=>(aD.o _ e).2 rfl) (fun e=>(ax.o _ e).2 rfl));refine⟨.slice (some ⟨aj,0,none⟩) (pl.length+1) cw,.slice (some ⟨ai,0,none⟩) (al.length+1) ct,u.o.rows (al':=al++[true]) (pl':=pl++[p]) ?_ ?_ ?_ ?_,?_,?_,?_⟩
   .exact((aR.mono (fun k h=>.inr h)).set _ (.inl (.inl rfl))).set _ (.inl (.inl rfl))
   .first|exact rM (rM F rfl) rfl|exact rM (rM F rfl) rfl
   .rw[bq,bS];exact aS (S:=fun k=>k=A) cN (((au.refl (fun k=>k=A) wp).set (a:=⟨A,_,none⟩) _ (.inl rfl)).set (a:=⟨A,_,none⟩) _ (.inl rfl)) (fun d e e2=>by
     have aG:aj=d:=by injection e
     exact a9.o.1 (aG.trans e2))
   .rw[bq,bS];exact aS (S:=fun k=>k=A\/pv.ownBlock=some k) cK ((cp.set _ (.inl (.inl rfl))).set _ (.inl (.inl rfl))) (fun d e e2=>by
     injection e with e;subst e;rcases e2 with e2|e2
     .exact aM.o.1 e2
     .exact aM.o.2.1 e2)
   .rcases a9.o.2 with h9|h9
    .exact .inl h9.symm
    .exact .inr ⟨aj,rfl,h9⟩
   .rcases aM.o.2.2 with h9|h9
    .exact .inl h9.symm
    .exact .inr ⟨ai,rfl,h9⟩
   .exact((aR.mono (fun k h=>.inr h)).set _ (.inl (.inl rfl))).set _ (.inl (.inl rfl))
 case rest=>
  have⟨s,r,R,ci,b9,aN⟩:=hcut;obtain⟨w6,cC⟩:∃w6:World,w6=wc:=⟨_,rfl⟩;subst cC;have dD:=H.o.lt;have bx:¬(w3.heap.size=A\/pv.ownBlock=some w3.heap.size\/M.ownBlock=some w3.heap.size):=by
   rintro(h9|h9|h9)
   .omega
   .have:=(H.o.iq.lt _ h9).2;omega
   .have:=(H.o.dP.lt _ h9).2;omega
  have ei:=((cu aN.o bL bx).1 0).trans cr.o;have y1:=((cu aN.o bL bx).1 1).trans cs.o;have be:Hid (au (nK A Cb bv pv M cv) W w6):=by
   refine(bd.o.mono (fun k h=>.inl h)).trans (W:=W) (w1:=ag) (w2:=w6) ?_;exact aN.o.mono (fun k h=>by
    rcases h with h|h|h
    .exact .inl h
    .exact .inr (.inr (.inr (.inl h)))
    .exact .inr (.inr (.inr (.inr (.inl h)))))
  have bp:=be.o.size;have⟨dx,dy,e2,aG,dz⟩:=R.o.cell;have aV:Hid (dR w6.drew base A Cb bv s r cv bh ch (al++[true]) (pl++[p]) (n+1) N wk):=R.o.below (aB _ _).drew;have cM:0<=N/\N<=100000:=by
   have h1:=ah.o.stored;have Y:=ae.2.2.2;omega
  have cS:ch.length<=1000:=by
   have h1:=ah.o.levels.1;simp at h1;omega
  have bR:=af (Px aV.o.fH (by have:=bp;simp;omega) aV.o.cE id (al.length:Int) cM cS (by have:=ae.2.2.2;omega))
  go_upto_region 12 with fail
  go_cut [10,11]from 80 to 88 (fun dc dh D=>∃(i:Nat) (a5 aX:Value) (aF:List kX) (dj:Int),dc=.int .i64 i/\a5=dh/\i<=ch.length/\Hid (∀j (bu:j<ch.length),j<i->ch[j].2.1≠[])/\Hid (∀hi:i<ch.length,ch[i].2.1=[])/\
   Hid (df D base A Cb bv s r aX bh aF (al++[true]) (pl++[p]) (n+1) (N+1) dj)/\Hid (∀bj:World,(∀(b:Nat) X fr,D.heap[b]? =some (Obj.cells X 204 fr)->a5.ownBlock≠some b->bj.heap[b]? =D.heap[b]?)->jI bj aF)/\Hid (aF.map (·.2.1)=jO (ch.map (·.2.1)) i (id,(al.length:Int)))/\
   Hid (D.ownsRow w6.heap.size 204 2 a5 (eF (ch.map (·.2.1)) i++[(id,(al.length:Int))]).length ((eF (ch.map (·.2.1)) i++[(id,(al.length:Int))]).flatMap iC))/\
   Hid (aX.ownBlock=cv.ownBlock\/∃b,aX.ownBlock=some b/\W.heap.size<=b)/\Hid (au (fun k=>k=Cb\/cv.ownBlock=some k) w6 D)/\Hid (Nw W.heap.size ch aF))
  case first=>
   go_region_with (go_at_call 132;(with_reducible refine bR.o.mono ?_);rintro e G ⟨i,a4,L,K,O,rfl,hi,aJ,an,br,⟨c8,bK⟩,bw,bG,bs,bn,bB,-⟩;have cf:=af bB;have cd:=af aJ;have b4:=af an;have b1:=af br;have cl:=af bK;have cb:=af bw;have cg:=af bG;have a7:=af bs;have ab:=af bn;clear aJ an br c8 bK bw bG bs bn bB)
   all_goals go_wp2_with fail
   all_goals go_meet
   all_goals
    refine⟨i,a4,L,K,O,rfl,rfl,hi,cd,b4,?_,cl,cb,cg,?_,?_,Nw.refl.trans cf.o (by simp;omega)⟩
    .exact aV.o.core.add ab.o b1.o (a7.o.imp (fun h=>h) .inr)
    .rcases a7.o with h9|⟨b,h9,P⟩
     .exact .inl h9
     .exact .inr ⟨b,h9,by simp at P;omega⟩
    .exact((au.refl _ w6).drew).trans ab.o
  case rest=>
   obtain⟨i,a4,L,K,O,rfl,rfl,hi,cc,b3,aq,ck,bb,aA,b2,ab,ce⟩:=hcut;obtain⟨G,cD⟩:∃G:World,G=wc:=⟨_,rfl⟩;subst cD;have bV:Hid (bh.length=ch.length):=af (by have:=ah.o.perm.1;simpa using this);have dM:bh.length<=13:=by have:=ae.1;simpa using this
   have co:Hid ((eF (ch.map (·.2.1)) i++[(id,(al.length:Int))]).length<=5001):=by
    show _<=_;rw[bq,(jg _ i).length_eq];have aG:((ch.map (·.2.1)).take i).flatten++((ch.map (·.2.1)).drop i).flatten=(ch.map (·.2.1)).flatten:=by rw[<-kD,ji]
    have cA:=congrArg List.length aG;rw[bq]at cA;have:=ae.2.2.2;simp only[dY,fB];omega
   have dm:=af ae
   go_upto_block 0 with fail
   go_cut []from 89 to 104 (fun D=>∃(q:Value) (c:List kX),Hid (df D base A Cb q s r L c K (al++[true]) (pl++[p]) (n+1) (N+1) O)/\Hid (c=bh/\i<bh.length\/c=bh++[fF]/\i=bh.length)/\Hid (q.ownBlock=bv.ownBlock\/∃b,q.ownBlock=some b/\G.heap.size<=b)/\Hid (au (fun k=>k=A\/bv.ownBlock=some k) G D))
   case first=>
    go_wp2_with fail
    go_loopw [] (fun wr=>∃(q:Value) (c:List kX),Hid (df wr base A Cb q s r L c K (al++[true]) (pl++[p]) (n+1) (N+1) O)/\Hid (c=bh/\q=bv/\wr=G\/c=bh++[fF]/\i=bh.length)/\Hid (q.ownBlock=bv.ownBlock\/∃b,q.ownBlock=some b/\G.heap.size<=b)/\Hid (au (fun k=>k=A\/bv.ownBlock=some k) G wr)) (fun wr=>i+1-ym A wr)
    case atStart=>exact⟨bv,bh,aq,.inl ⟨rfl,rfl,rfl⟩,.inl rfl,au.refl _ _⟩
    case round=>
     have⟨q,c,E,V,aE,aw⟩:=hrel;obtain⟨av,cx,aH,-,dN,-⟩:=Rd.aC (enc:=dQ) E.o.gI;obtain⟨-,bk,-⟩:=E.o.cell;by_cases aI:i<c.length
     .have bU:Hid (c=bh/\i<bh.length\/c=bh++[fF]/\i=bh.length):=by
       rcases V.o with⟨h1,-⟩|h1
       .exact .inl ⟨h1,h1▸aI⟩
       .exact .inr h1
      have cz:decide (c.length<=i)=false:=by simp;omega
      rw[aH]at bk
      go_wp2_with fail
      go_meet;exact⟨q,c,E,bU,aE,aw⟩
     .obtain⟨rfl,rfl,rfl⟩:c=bh/\q=bv/\wr=G:=by
       rcases V.o with h1|⟨h1,Y⟩
       .exact h1
       .rw[h1]at aI;simp at aI;omega
      have cU:i=c.length:=by have:=bV.o;omega
      subst cU;have cz:decide (c.length<=c.length)=true:=by simp
      have Q:=E.o.gI;have dl:Hid (wr.heap[A]? =some (Obj.cells #[.pointer (some ⟨Cb,0,none⟩),q,s,r,.int .i64 (n+1)] 207 (0,0))):=E.o.blk;have bW:Hid (∀C,wr.grownBy C q.ownBlock->C.heap[A]? =some (Obj.cells #[.pointer (some ⟨Cb,0,none⟩),q,s,r,.int .i64 (n+1)] 207 (0,0))):=fun C aa=>bF ((au.refl (fun k=>q.ownBlock=some k) wr).grown aa (fun k m=>.inl m)) E.o.blk (fun e=>bz E.o.gI E.o.blk (by decide) _ e rfl);have cQ:base<=wr.heap.size:=by have:=ab.o.size;omega
      subst aH
      go_wp2_with (at_builtin;go_loud (refine bZ JA base Q [.slice none 0 0] rfl (by simp[Value.oneCell']) rfl _ _ rfl rfl _ rfl (by unfold maxLen;omega) (by omega) cQ ?_;intro eh C bI aa cP;obtain⟨cH,cy,rfl,dT,dV,dW,dX⟩:=aQ bI (by omega);have bO:=bW.o C aa;have bP:C.cell? ⟨A,1,none⟩=some (.slice av c.length cx):=(by simp[World.cell?,bO]);have dg:C.frozen? ⟨A,1,none⟩=false:=(by simp[World.frozen?,bO])))
      have c4:C.ownsRow base 209 1 (.slice (some ⟨cH,0,none⟩) (c.length+1) cy) (c++[fF]).length ((c++[fF]).map dQ):=by
       rw[bq,bS];exact bI
      have ak:=gu cP;have am:=E.o.OC aa c4 (ak.imp (fun h=>h) .inr);go_roundw
      case rel=>
       refine⟨_,c++[fF],am,.inr ⟨rfl,by first|rfl|trivial⟩,ak,(aw.o.grown aa (fun k m=>.inl (.inr m))).set (a:=⟨A,1,none⟩) _ (.inl (.inl rfl))⟩
      case measure=>
       rw[am.ym,E.o.ym];simp
   case rest=>
    have⟨q,c,E,V,aE,aw⟩:=hcut;obtain⟨C,cF⟩:∃C:World,C=wc:=⟨_,rfl⟩;subst cF;have d5:i<c.length:=by
     rcases V.o with⟨h1,Y⟩|⟨h1,Y⟩
     .rw[h1];exact Y
     .rw[h1];simp;omega
    have d6:c.length<=14:=by
     rcases V.o with⟨h1,Y⟩|⟨h1,Y⟩
     .rw[h1];omega
     .rw[h1];simp;omega
    obtain⟨f,ac,aH,dO,dS,-,-⟩:=aQ E.o.gI (by omega);subst aH;have bY:Hid (df C base A Cb (.slice (some ⟨f,0,none⟩) c.length ac) s r L (BP c 0) K (al++[true]) (pl++[p]) (n+1) (N+1) O):=E.o;have dZ:(0:Int)<=(i:Int):=by omega
    go_upto_block 2 with fail
    go_cut []from 106 to 115 (fun D=>Hid (df D base A Cb (.slice (some ⟨f,0,none⟩) c.length ac) s r L (BP c i) K (al++[true]) (pl++[p]) (n+1) (N+1) O)/\Hid (au (fun k=>k=f) C D))
    case first=>
     go_wp2_with fail
     go_loopw [106] (fun a3 wr=>∃k:Nat,a3=.int .i64 k/\k<=i/\Hid (df wr base A Cb (.slice (some ⟨f,0,none⟩) c.length ac) s r L (BP c k) K (al++[true]) (pl++[p]) (n+1) (N+1) O)/\Hid (au (fun k=>k=f) C wr)) (fun a3 _=>i-(intOf a3).toNat)
     case atStart=>exact⟨0,rfl,bf _,bY,au.refl _ _⟩
     case round=>
      obtain⟨k,rfl,d7,ar,ba⟩:=hrel;by_cases aI:k<i
      .have Q:=ar.o.gI;have ad:(BP c k).length=c.length:=Ew (by omega);rw[ad]at Q;have ap:=Q.cellAt k (by omega);rw[dw (show k<((BP c k).map dQ).length by rw[bX];omega)]at ap;generalize((BP c k).map dQ)[k]'(by rw[bX];omega)=zv at ap;have dB:=Q.frozenAt k;obtain⟨-,bk,-⟩:=ar.o.cell;have cn:Hid (df (wr.setCell ⟨f,k,none⟩ (.slice none 0 0)) base A Cb (.slice (some ⟨f,0,none⟩) c.length ac) s r L (BP c (k+1)) K (al++[true]) (pl++[p]) (n+1) (N+1) O):=by
        have h9:=ar.o.TL ad.symm k fF;rw[Qq (by omega)]at h9;exact h9
       have c0:(k:Int)<(c.length:Int):=by omega
       go_wp2_with fail
       go_roundw
       case rel=>exact⟨k+1,by go_num,by omega,cn,ba.o.set (a:=⟨f,k,none⟩) _ (.inl rfl)⟩
       case measure=>simp[intOf];omega
      .obtain rfl:k=i:=by omega
       go_wp2_with fail
       go_meet;exact⟨ar,ba⟩
    case rest=>
     have⟨a8,b8⟩:=hcut;obtain⟨U,cG⟩:∃U:World,U=wc:=⟨_,rfl⟩;subst cG;generalize cL:eF (ch.map (·.2.1)) i++[(id,(al.length:Int))]=I at*;have b6:=af cL;have aP:Hid (au (fun k=>k=A\/bv.ownBlock=some k) G U):=by
      refine au.strip ((aw.o.mono (fun k h=>.inl h)).trans (b8.o.mono (fun k h=>?_)));rcases aE.o with h9|⟨b,h9,P⟩
      .exact .inl (.inr (by rw[<-h9,h];rfl))
      .have cJ:f=b:=by injection h9
       exact .inr (by omega)
     have aT:U.ownsRow w6.heap.size 204 2 a4 I.length (I.flatMap iC):=aS aA.o aP.o (fun d e=>by
      rintro(h9|h9)
      .exact bz aA.o aq.o.blk (by decide) d e h9.symm
      .exact bD aq.o.gI aA.o (by decide) d h9 e)
     have db:w6.heap.size<=U.heap.size:=bJ ab.o.size aP.o.size;obtain⟨v,B,cB,-,cR,-⟩:=KT.aC aT;subst cB;have b0:=af cR;have ST:=af (wC (w:=U.drew) (base:=w6.heap.size) rfl (by have:=co.o;omega) (aT.bC 1) db);have cq:Calls prog 133 #[.slice v I.length B] U.drew fun e J=>∃(l':List iR) (z:Value),e=.returned (.slice v I.length B)/\Hid (l'.Perm I)/\Hid (l'.Pairwise (fun x y=>x.1<=y.1))/\Hid (KT J v l')/\
       Hid (df J base A Cb (.slice (some ⟨f,0,none⟩) c.length ac) s r L (BP c i) K (al++[true]) (pl++[p]) (n+1) (N+1) O)/\Hid (au (fun k=>Value.ownBlock (.slice v I.length B)=some k) U J)/\
       J.cell? ⟨A,1,none⟩=some (.slice (some ⟨f,0,none⟩) c.length ac)/\J.cell? ⟨f,i,none⟩=some z/\J.frozen? ⟨f,i,none⟩=false:=by
      refine ST.o.mono ?_;rintro e J ⟨rfl,l',hp,c9,c2,aa⟩;have am:=(a8.o.below (aB _ _).drew).U1 (aT.bC 1) aa;have Q:=am.gI;have ad:(BP c i).length=c.length:=Ew (by omega);rw[ad]at Q;have ap:=Q.cellAt i (by omega);rw[dw (show i<((BP c i).map dQ).length by rw[bX];omega)]at ap;have c3:J.ownsRow w6.heap.size 204 2 (.slice v I.length B) l'.length (l'.flatMap iC):=by rw[hp.length_eq];exact c2
      obtain⟨dn,du,aY,-,c7⟩:=KT.aC c3;injection aY with aY _ _;subst aY;exact⟨l',_,rfl,hp,c9,c7.2,am,((au.refl _ U).drew).grown aa (fun k m=>.inl m),am.cell.2.1,ap,Q.frozenAt i⟩
     have c0:(i:Int)<(c.length:Int):=by omega
     obtain⟨-,eg,-⟩:=a8.o.cell
     go_upto_region 20 with fail
     go_region_with (go_at_call 133;(with_reducible refine cq.mono ?_);rintro e J ⟨l',z,rfl,aO,cm,cj,a6,b7,bP,ej,f10⟩)
     all_goals go_wp2_with fail
     all_goals go_ret
     all_goals
      have cY:Value.slice v I.length B=dQ (v,l',B):=by unfold dQ;simp only;rw[aO.o.length_eq]
      rw[cY];have ad:(BP c i).length=c.length:=Ew (by omega);have bt:bv.ownBlock=some f\/G.heap.size<=f:=by
       rcases aE.o with h9|⟨b,h9,P⟩
       .exact .inl h9.symm
       .have cJ:f=b:=by injection h9
        exact .inr (by omega)
      have dJ:W.heap.size<=G.heap.size:=bJ bp ab.o.size;have bM:∀k,Value.ownBlock (.slice v I.length B)=some k->w6.heap.size<=k:=fun k h=>(aA.o.lt k h).1;have bi:au (fun k=>(k=A\/bv.ownBlock=some k)\/Value.ownBlock (.slice v I.length B)=some k) G (J.setCell ⟨f,i,none⟩ (dQ (v,l',B))):=
       ((aP.o.mono (fun k h=>.inl h)).trans (b7.o.mono (fun k h=>.inr h))).set (a:=⟨f,i,none⟩) _ (by
        rcases bt with h9|h9
        .exact .inl (.inl (.inr h9))
        .exact .inr h9)
      have bg:au (fun k=>((k=Cb\/cv.ownBlock=some k)\/(k=A\/bv.ownBlock=some k))\/w6.heap.size<=k) w6 (J.setCell ⟨f,i,none⟩ (dQ (v,l',B))):=
       (ab.o.mono (fun k h=>.inl (.inl h))).trans (bi.mono (fun k h=>by
        rcases h with h|h
        .exact .inl (.inr h)
        .exact .inr (bM k h)))
      have an:∀h:i<(ch.map (·.2.1)).length,(ch.map (·.2.1))[i]=[]:=fun h=>by
       have:=b3.o (by simpa using h);simpa using this
      refine⟨.slice (some ⟨f,0,none⟩) c.length ac,s,r,L,(BP c i).set i (v,l',B),K,O,rfl,(a6.o.TL ad.symm i (v,l',B)).rep ?_ ?_,?_,?_,?_,?_,?_,ce.o⟩
      .intro h ao;rcases Kb V.o ao with rfl|rfl|h1
       .obtain⟨X,cT⟩:=y7 (k:=c.length) (by have h9:=a6.o.gI;rw[ad]at h9;exact h9);exact⟨cj.o.kept fun b X fr F=>az (dU cT F (by decide)),by show l'.length<=B;rw[aO.o.length_eq];exact b0.o⟩
       .exact⟨.inl rfl,ay _⟩
       .refine⟨(R.o.bE h h1).1.kept fun b X fr F=>R.o.core.eU (T:=fun k=>w6.heap.size<=k) (bg.mono (fun k h=>?_)) b X fr F (by have:=(aZ.1 F).1;omega),(R.o.bE h h1).2⟩;rcases h with((h|h)|(h|h))|h
        .exact .inl (.inr (.inl h))
        .exact .inl (.inr (.inr (.inr (.inr (.inr h)))))
        .exact .inl (.inl h)
        .exact .inl (.inr (.inr (.inl h)))
        .exact .inr h
      .refine ck.o _ fun b X fr F aJ=>aq.o.eU (T:=fun k=>Value.ownBlock (.slice v I.length B)=some k) (bi.mono (fun k h=>?_)) b X fr F aJ;rcases h with(h|h)|h
       .exact .inl (.inl h)
       .exact .inl (.inr (.inr (.inl h)))
       .exact .inr h
      .rw[bb.o,Qr V.o];refine Ng ah.o id p bA da i (by simpa using hi) (fun j bu cV=>?_) an l' (by rw[b6.o];exact aO.o) cm.o;have:=cc.o j (by simpa using bu) cV;simpa using this
      .rw[bb.o];exact r9 _ i _ an
      .rintro k (h|h|h|h|h|h)
       .exact .inl (.inl h)
       .exact .inl (.inr (.inl h))
       .rcases bt with h9|h9
        .exact .inl (.inr (.inr (.inl (h9.trans h))))
        .have P:f=k:=by injection h
         exact .inr (by omega)
       .rcases ci.o with h9|⟨b,h9,P⟩
        .exact .inl (.inr (.inr (.inr (.inl (h9.symm.trans h)))))
        .have bl:b=k:=by rw[h9]at h;injection h
         exact .inr (by omega)
       .rcases b9.o with h9|⟨b,h9,P⟩
        .exact .inl (.inr (.inr (.inr (.inr (.inl (h9.symm.trans h))))))
        .have bl:b=k:=by rw[h9]at h;injection h
         exact .inr (by omega)
       .rcases b2.o with h9|⟨b,h9,P⟩
        .exact .inl (.inr (.inr (.inr (.inr (.inr (h9.symm.trans h))))))
        .have bl:b=k:=by rw[h9]at h;injection h
         exact .inr (by omega)
      .refine au.strip ((be.o.mono (fun k h=>.inl h)).trans (bg.mono (fun k h=>?_)));rcases h with((h|h)|(h|h))|h
       .exact .inl (.inr (.inl h))
       .exact .inl (.inr (.inr (.inr (.inr (.inr h)))))
       .exact .inl (.inl h)
       .exact .inl (.inr (.inr (.inl h)))
       .exact .inr (by omega)
      .intro h ao;rcases Kb V.o ao with rfl|rfl|h1
       .exact .inr fun a a2=>by
         have:=bM a.block (by rw[show v=some a from a2];rfl);omega
       .exact .inr fun a a2=>by cases a2
       .exact .inl h1
end
section
variable {W:World} {base A Cb:Nat} {bv pv lv cv:Value} {bh ch:List kX} {al:List Bool} {pl:List Int} {n N wk:Int}
def jN (al:List Bool) (CB:List (List iR)) (m:Nat):List iR:=((CB.drop m).reverse.flatten).filter (dG al)
theorem L6 (al:List Bool) (CB:List (List iR)):jN al CB CB.length=[]:=by unfold jN;rw[List.drop_length];rfl
theorem Jb (al:List Bool) (CB:List (List iR)) (k:Nat) (h:k<CB.length):jN al CB k=jN al CB (k+1)++CB[k].filter (dG al):=by
 unfold jN;rw[kZ h,zA,kD,lW];simp
theorem L8 (al:List Bool) (CB:List (List iR)) (m:Nat):(jN al CB m).length<=CB.flatten.length:=by
 unfold jN;refine bJ (gK _ _) ?_;rw[((tO (CB.drop m)).flatten).length_eq];have a:(CB.take m).flatten++(CB.drop m).flatten=CB.flatten:=by rw[<-kD,ji]
 have:=congrArg List.length a;rw[bq]at this;omega
def Jc (T9 Uo:List kX):Prop:=T9.length<=Uo.length/\∀(j:Nat) (h:j<T9.length) (h':j<Uo.length),T9[j].2.1.Perm Uo[j].2.1/\T9[j].2.1.Pairwise (fun x y=>x.1<=y.1)
theorem Jc.step {a b:List kX} (h:Jc a b) {hd:kX} (hi:a.length<b.length) (hp:hd.2.1.Perm b[a.length].2.1) (g:hd.2.1.Pairwise (fun x y=>x.1<=y.1)):Jc (a++[hd]) b:=by
 refine⟨by simp;omega,fun j d e=>?_⟩;by_cases c:j<a.length
 .rw[p9 c];exact h.2 j c e
 .have f:j=a.length:=by simp at d;omega
  subst f;rw[uT (by omega)];simp only[kE,qC];exact⟨hp,g⟩
theorem Jc.done {a b:List kX} (h:Jc a b) (g:a.length=b.length):Fy (a.map (·.2.1)) (b.map (·.2.1))/\∀l∈a.map (·.2.1),l.Pairwise fun p q=>p.1<=q.1:=by
 refine⟨⟨by simpa using g,fun i c d=>?_⟩,fun l k=>?_⟩
 .rw[fJ,fJ];exact(h.2 i (by simpa using c) (by simpa using d)).1
 .obtain⟨hd,e,rfl⟩:=dI.1 k;obtain⟨j,f,rfl⟩:=jk e;exact(h.2 j f (by omega)).2
def TM (W:World) (base A Cb:Nat) (bv pv lv cv:Value) (ch:List kX) (al:List Bool) (pl:List Int) (n:Int) (e:Ending) (w':World):Prop:=
 ∃(QU Bw:Value) (bh' qj:List kX) (N' Jp:Int),e=.returned (.tuple #[])/\dR w' base A Cb QU pv lv Bw bh' qj al pl n N' Jp/\rD (qj.map (·.2.1)) (bh'.map (·.2.1)) al pl n N'/\
  (∀id p,je (qj.map (·.2.1)).flatten al pl id p↔je (ch.map (·.2.1)).flatten al pl id p)/\(∀k,nK A Cb QU pv lv Bw k->nK A Cb bv pv lv cv k\/W.heap.size<=k)/\au (nK A Cb bv pv lv cv) W w'/\Nw W.heap.size [] bh'/\Nw W.heap.size [] qj
theorem BQ:∀args w,(callFunc 210 args).run prog w=.ok (.enter 210 args) w:=cK func210 (by kernel_rfl) rfl
theorem BR:∀args w,(callFunc 133 args).run prog w=.ok (.enter 133 args) w:=cK func133 (by kernel_rfl) rfl
theorem Qt (h:dR W base A Cb bv pv lv cv bh ch al pl n N wk) (dr:base<=W.heap.size) (R:vR (ch.map (·.2.1)) (bh.map (·.2.1)) al pl n N):
  Calls prog 138 #[.pointer (some ⟨A,0,none⟩)] W (TM W base A Cb bv pv lv cv ch al pl n):=by
 have H:=af h;have aG:=af R;have bW:=R.Sy;have dv:ch.length<=13:=by have:=R.levels.1;simpa using this
 have Z:Hid (∀m,(jN al (ch.map (·.2.1)) m).length<=5000):=fun m=>bJ (L8 _ _ _) bW.2.2.2;have I:=af (Aq h.fH (by omega));have ds:=R.bound;obtain⟨aR,-⟩:=h.cell;clear h R bW;go_enter func138,ntmps138
 go_wp2_with fail
 refine I.o.mono ?_;rintro e w2 ⟨rfl,ad⟩;have aJ:=af (H.o.below ad);have c4:=ad.size;have cl:=af ad;clear aR I ad
 go_upto_block 0 with fail
 go_cut [2,3,5]from 13 to 40 (fun U z dk ce=>∃lw:Value,lw=U/\Hid (ce.ownsRow w2.heap.size 204 2 lw (jN al (ch.map (·.2.1)) 0).length ((jN al (ch.map (·.2.1)) 0).flatMap iC))/\Hid (Below w2.heap.size w2 ce))
 case first=>
  go_wp2_with fail
  go_loopw [3,2] (fun z U wr=>∃(m:Nat) (lw:Value),z=.int .i64 ((m:Int)-1)/\lw=U/\m<=ch.length/\Hid (wr.ownsRow w2.heap.size 204 2 lw (jN al (ch.map (·.2.1)) m).length ((jN al (ch.map (·.2.1)) m).flatMap iC))/\Below w2.heap.size w2 wr) (fun z _ _=>(intOf z+1).toNat)
  case atStart=>exact⟨ch.length,_,by go_num,rfl,ay _,by have:=L6 al (ch.map (·.2.1));rw[bX]at this;rw[this];exact dz _ _ _ _,aB _ _⟩
  case round=>
   obtain⟨m,lw,rfl,rfl,dN,HO,g⟩:=hrel;rcases qf m with yO|yO
   .subst yO;have dx:¬(0:Int)<=((0:Nat):Int)-1:=by omega
    have ap:=af g
    go_wp2_with fail
    go_meet;exact⟨_,rfl,HO,ap⟩
   .obtain⟨k,rfl⟩:∃k,m=k+1:=⟨m-1,by omega⟩;have c0:(((k+1:Nat):Int)-1)=(k:Int):=by omega
    rw[c0];have dD:(0:Int)<=(k:Int):=by omega
    have cZ:k<(ch.map (·.2.1)).length:=by rw[bX];omega
    have bt:=af (Jb al (ch.map (·.2.1)) k cZ);have aP:=af (aJ.o.below g);obtain⟨aR,-⟩:=aP.o.cell;have a3:k<ch.length:=by omega
    have dX:ch[k].2.1.length<=5000:=by
     have:=aG.o.Sy.2.2.2;have C:=pQ (l:=ch[k].2.1) (CB:=ch.map (·.2.1)) (dI.2 ⟨_,bN a3,rfl⟩);omega
    have cw:Hid (∀x∈ch[k].2.1,∃k:Nat,x.2=(k:Int)/\k<al.length):=fun x c7=>aG.o.vS x (oH.2 ⟨_,dI.2 ⟨_,bN a3,rfl⟩,c7⟩);have CB:=af (Ar aP.o.fH aP.o.cE (by omega) k a3 (by omega));have cI:Hid (jN al (ch.map (·.2.1)) k=jN al (ch.map (·.2.1)) (k+1)++ch[k].2.1.filter (dG al)):=by
     have:=bt.o;rw[fJ]at this;exact this
    clear bt;generalize ch[k].2.1=lk at*;have dJ:=Z.o (k+1);have dd:=af (Z.o k);generalize jN al (ch.map (·.2.1)) (k+1)=L at*;obtain⟨ao,cS⟩:∃ao:World,ao=wr:=⟨_,rfl⟩;subst cS;have ap:=af g;have b9:=g.size;clear g
    go_wp2_with fail
    refine CB.o.mono ?_;rintro e w3 ⟨dc,rfl,D,ae⟩;have c5:=ae.size;have E:Hid (Below w2.heap.size w2 w3):=ap.o.trans (ae.mono b9);have cx:=af (ax HO.o ae);have cG:Hid (∀f,dc.ownBlock=some f->lw.ownBlock≠some f):=fun f e F=>by
     have h1:=(D.lt f e).1;have C:=(HO.o.lt f F).2;omega
    have cy:=af D;obtain⟨bA,P,aV,-,-,-⟩:=KT.aC D;subst aV;clear D ae aR;have dH:lk.length<=9223372036854775807:=by omega
    have du:w2.heap.size<=w3.heap.size:=by omega
    clear CB
    go_wp2_with fail
    go_loopw [24,2] (fun a6 U wr=>∃(j:Nat) (an:Value),a6=.int .i64 j/\an=U/\j<=lk.length/\Hid (wr.ownsRow w2.heap.size 204 2 an (L++(lk.take j).filter (dG al)).length ((L++(lk.take j).filter (dG al)).flatMap iC))/\Hid (wr.ownsRow ao.heap.size 204 2 (.slice bA lk.length P) lk.length (lk.flatMap iC))/\Hid (∀f,Value.ownBlock (.slice bA lk.length P)=some f->an.ownBlock≠some f)/\Below w2.heap.size w2 wr) (fun a6 _ _=>lk.length-(intOf a6).toNat)
    case atStart=>exact⟨0,_,rfl,rfl,bf _,by rw[zM,Dw,iE];exact cx,cy,cG,E.o⟩
    case round=>
     obtain⟨j,an,rfl,rfl,dA,av,aw,aD,ag⟩:=hrel;have c6:=ag.size;by_cases ai:j<lk.length
     .obtain⟨dh,dj,aU,-,-,b5⟩:=KT.aC aw.o;injection aU with aU _ aV;subst aU aV;obtain⟨aQ,a7,bB,dt,a0⟩:=b5.Mi.get (by omega);have cf:=a0 j ai 0 (by omega);have x1:=a0 j ai 1 (by omega);simp only[iC,aM,aN,dM]at cf x1;obtain⟨q,am,b3⟩:=cw.o lk[j] (bN ai);have aO:=aJ.o.below ag;obtain⟨d1,lc,bE,-,-,b4⟩:=Rd.aC aO.dP;obtain⟨lb,lo,bD,dF,bV⟩:=b4.get (by omega);have cg:=bV q b3;obtain⟨-,-,-,ci,-⟩:=aO.cell;have O:Hid (L++(lk.take (j+1)).filter (dG al)=(L++(lk.take j).filter (dG al))++(if al[q]=true then[lk[j]]else[])):=by
       show _=_;rw[dZ ai,lW,<-dW];congr 1;unfold dG;rw[lu,am];simp only[gN,dw b3];cases al[q]<;>simp
      have dC:(L++(lk.take j).filter (dG al)).length<=5000+5000:=by
       rw[bq];have h1:=gK (dG al) (lk.take j);have C:(lk.take j).length<=lk.length:=by rw[eB];omega
       omega
      have cc:(lk[j]).2=(q:Int):=am;rw[am]at x1;have bd:=af bB;have be:=af bD;have bi:=af bE;have aH:=af cc;have de:Hid (lk.length=lk.length):=af rfl;clear a0 bB bV bD bE am cc b4 b5 aO;generalize cT:L++(lk.take j).filter (dG al)=dg at*;generalize cW:al[q]=cN at*;generalize lk[j]=x at*;obtain⟨r,eb⟩:=x;simp only at cf x1 O aH;obtain rfl:=aH.o;obtain rfl:=bd.o;obtain rfl:=be.o;obtain rfl:=bi.o;clear bd be bi aH cW cT;have dB:(j:Int)<(lk.length:Int):=by omega
      have dO:(q:Int)<(al.length:Int):=by omega
      have X:Below wr.heap.size wr (wr.alloc (.cells #[.int .u32 r,.int .i64 (q:Int)] 204)):=(aB _ _).alloc (ay _) _;have a8:(wr.alloc (.cells #[.int .u32 r,.int .i64 (q:Int)] 204)).cell? ⟨wr.heap.size,0,none⟩=some (.int .u32 r):=by rw[ed _ _ _ _ rfl];rfl
      have c9:(wr.alloc (.cells #[.int .u32 r,.int .i64 (q:Int)] 204)).cell? ⟨wr.heap.size,1,none⟩=some (.int .i64 (q:Int)):=by rw[ed _ _ _ _ rfl];rfl
      have ec:=(X.cell (p:=⟨lb,lo+q,none⟩) (gW wr _ cg)).trans cg;have ee:=(X.cell (p:=⟨A,3,none⟩) (gW wr _ ci)).trans ci;have az:=af ((av.o.alloc (.cells #[.int .u32 r,.int .i64 (q:Int)] 204)).bC 1);have br:=af ((aw.o.alloc (.cells #[.int .u32 r,.int .i64 (q:Int)] 204)).bC 1);have bj:=af ((ag.alloc c6 (.cells #[.int .u32 r,.int .i64 (q:Int)] 204)).drew);cases cN
      .rw[aI (by decide),iE]at O;clear X;go_wp2;go_region
       all_goals
        go_wp2;go_roundw
        case rel=>exact⟨j+1,_,by go_num,rfl,by omega,by rw[O.o];exact az,br,aD,bj.o⟩
        case measure=>simp[intOf];omega
      .rw[aK rfl]at O;clear X;go_wp2;go_region;have d8:((wr.alloc (.cells #[.int .u32 r,.int .i64 (q:Int)] 204)).drew).cell? ⟨wr.heap.size,0,none⟩=some (.int .u32 r):=a8;have d9:((wr.alloc (.cells #[.int .u32 r,.int .i64 (q:Int)] 204)).drew).cell? ⟨wr.heap.size,1,none⟩=some (.int .i64 (q:Int)):=c9
       go_wp2_with (at_builtin;refine bZ Fw w2.heap.size az.o [.int .u32 r,.int .i64 q] rfl (by simp[Value.oneCell']) rfl _ _ rfl rfl _ (by show Value.slice (some ⟨wr.heap.size+1,0,none⟩) 1 1=_;simp) (by unfold maxLen;omega) (by omega) (by simp;omega) ?_;intro da w6 c2 bU cX)
       have cM:Below w2.heap.size w2 w6:=bj.o.grown bU (by simp;omega) (fun b e=>(az.o.lt b e).1);have cz:Hid (w6.ownsRow ao.heap.size 204 2 (.slice (some ⟨aQ,a7,none⟩) lk.length P) lk.length (lk.flatMap iC)):=by
        refine br.o.kept bU ?_;rcases GJ (Value.ownBlock (.slice (some ⟨aQ,a7,none⟩) lk.length P))with h9|⟨f,h9⟩
        .exact .inl h9
        .exact .inr (fun e=>aD.o f h9 (e.symm.trans h9))
       have cH:Hid (∀f,Value.ownBlock (.slice (some ⟨aQ,a7,none⟩) lk.length P)=some f->da.ownBlock≠some f):=fun f e F=>by
        have h1:=(aw.o.lt f e).2;rcases gu cX with h9|⟨b,h9,ac⟩
        .exact aD.o f e (h9.symm.trans F)
        .rw[h9]at F;injection F with F;simp at ac;omega
       go_roundw
       case rel=>exact⟨j+1,_,by go_num,rfl,by omega,by rw[O.o,bq,gM];exact c2,cz,cH,cM⟩
       case measure=>simp[intOf];omega
     .obtain rfl:j=lk.length:=by omega
      rw[jy,<-cI.o]at av;go_wp2;go_roundw
      case rel=>exact⟨k,_,by go_num,rfl,by omega,av,ag⟩
      case measure=>simp[intOf]
 case rest=>
  obtain⟨lw,rfl,bm,aq⟩:=hcut;obtain⟨w3,cR⟩:∃w3:World,w3=wc:=⟨_,rfl⟩;subst cR;have aL:=af (aJ.o.below aq.o);have E:=af (cl.o.trans (aq.o.mono c4));have dE:=Z.o 0;obtain⟨cL,cO,cP,-,bK,b6⟩:=KT.aC bm.o;subst cP;have bc:=af (Pz aL.o.fH (by have:=E.o.size;omega) cL (jN al (ch.map (·.2.1)) 0) cO b6 bK (by omega));obtain⟨cd,-⟩:=aL.o.cell;have bn:Hid (jN al (ch.map (·.2.1)) 0=((ch.map (·.2.1)).reverse.flatten).filter (dG al)):=af (by unfold jN;rw[nk]);generalize jN al (ch.map (·.2.1)) 0=L at*;clear b6 bK aq Z bm
  go_wp2_with fail
  refine bc.o.mono ?_;rintro e w4 ⟨aT,d,bb,rfl,bO,b8,ak,a1,aW,bY,-⟩;have J:=af (aL.o.core.add (aW.mono (fun k h=>.inl h)) bO (.inr a1));have bs:=af b8;have ct:=af bY;have bo:=af ak;have cK:=af a1;have ar:=af aW;have dp:d.length<=14:=by
   have h1:=congrArg List.length ak;rw[ek,bX]at h1;have C:=fw (a:=L.length) (b:=5000) (by omega) (by decide);have dl:Lib.bitLen 5000<=14:=by decide
   omega
  have bu:Hid (∀h∈d,h.2.1.length<=5000):=fun h Q=>by
   have h1:=pQ (l:=h.2.1) (CB:=d.map (·.2.1)) (dI.2 ⟨_,Q,rfl⟩);rw[ak]at h1;have C:L.length<2^Lib.bitLen L.length:=by
    by_cases bF:L.length=0
    .rw[bF];decide
    .exact(bM _ (by omega) bF).2.2
   rw[(j5 _ L C).length_eq]at h1;omega
  obtain⟨-,c8,-⟩:=J.o.cell;have f1:=J.o.frozen 1;clear bO b8 ak a1 aW cd bc bY;have Y:Hid (df (w4.setCell ⟨A,1,none⟩ (.slice none 0 0)) base A Cb (.slice none 0 0) pv lv aT [] d al pl n L.length bb):=J.o.OC (bh':=[]) (bQ (aB _ _)|>fun h=>⟨h.os,h.tape,h.output,h.size,fun k G _=>rfl⟩) (dz _ _ _ _) (.inr (.inl rfl));have bk:Hid (au (fun k=>k=A) w4 (w4.setCell ⟨A,1,none⟩ (.slice none 0 0))):=(au.refl (fun k=>k=A) w4).set (a:=⟨A,1,none⟩) _ (.inl rfl);have I:=af (Aq Y.o.fH (by omega));obtain⟨a8,-⟩:=Y.o.cell
  go_wp2_with fail
  generalize w4.setCell ⟨A,1,none⟩ (.slice none 0 0)=ea at*;refine I.o.mono ?_;rintro e w6 ⟨rfl,aX⟩;have co:=af (Y.o.below aX);have cs:Hid (au (fun k=>k=A) w4 w6):=bk.o.below aX;clear a8 c8 f1 I aX Y bk
  go_wp2_with fail
  go_loopw [55] (fun z wr=>∃(s:Value) (c:List kX),z=.int .i64 c.length/\Hid (df wr base A Cb s pv lv aT c d al pl n L.length bb)/\Hid (Jc c d)/\Hid (Nw W.heap.size [] c)/\Hid (jI wr c)/\Hid (s.ownBlock=none\/∃b,s.ownBlock=some b/\w4.heap.size<=b)/\Hid (au (fun k=>k=A) w4 wr)) (fun z _=>d.length-(intOf z).toNat)
  case atStart=>exact⟨.slice none 0 0,[],rfl,co,⟨bf _,fun j h=>absurd h (jR _)⟩,Nw.Rb (k:=0),(fun h Q=>absurd Q gZ),.inl rfl,cs⟩
  case round=>
   obtain⟨s,c,rfl,i,aE,bp,aA,aF,K⟩:=hrel;by_cases aj:c.length<d.length
   .have cC:Hid (jI wr d):=bs.o.kept fun b v fr g=>J.o.eU (T:=fun _=>False) (K.o.mono fun k h=>.inl (.inl h)) b v fr g (fun h=>h);have cj:=af (Ar (W:=wr.drew) (i.o.below (aB _ _).drew).fH (cC.o.kept fun b v fr g=>rfl) (by omega) c.length aj (bJ (bu.o _ (bN aj)) (by decide)));have cJ:Hid (∀hd:kX,hd.2.1.Perm d[c.length].2.1->hd.2.1.Pairwise (fun x y=>x.1<=y.1)->Jc (c++[hd]) d):=fun hd h1 C=>aE.o.step aj h1 C;have dV:=bu.o _ (bN aj);generalize d[c.length].2.1=lb at*;obtain⟨cd,dY,-⟩:=i.o.cell;have d0:∀o,wr.frozen? ⟨A,o,none⟩=false:=i.o.frozen;have bG:=i.o.lt;have dK:(c.length:Int)<(d.length:Int):=by omega
    have dT:=K.o.size;have dq:W.heap.size<=w4.heap.size:=bJ E.o.size ar.o.size;have c1:Hid (s.ownBlock≠some A):=fun e=>bz i.o.gI i.o.blk (by decide) _ e rfl
    go_wp2_with fail
    go_region_law (first
     |(refine bg (vals:=#[.pointer (some ⟨Cb,0,none⟩),.int .i64 c.length]) BQ rfl _ _ rfl rfl cj.o ?_
       rintro e a9 ⟨db,rfl,b1,aY⟩;refine⟨_,rfl,?_⟩;have cb:=aY.size;have dm:A<a9.heap.size:=(by(have h9:wr.heap.size<=a9.heap.size:=cb);omega);obtain⟨d4,d5⟩:=cu ((au.refl (fun _=>False) wr.drew).below aY) (b:=A) bG (fun h=>h))
     |(refine bg (vals:=#[db]) BR rfl _ _ rfl rfl (wC (w:=a9) (base:=wr.heap.size) rfl (by omega) b1 cb) ?_
       rintro e V ⟨rfl,l',b2,ca,a4,cY⟩;refine⟨_,rfl,?_⟩;have cB:=af b2;have cF:=af ca;have aa:au (fun _=>False) wr V:=au.strip (((au.refl _ wr).drew.below aY).grown cY (fun k G=>.inl (.inr (b1.lt k G).1)));have M:=af aa;obtain⟨d6,d7⟩:=cu aa (b:=A) bG (fun h=>h);have dS:=aa.size;have dn:A<V.heap.size:=(by omega);obtain⟨t,u,cQ,-,bL,b7⟩:=KT.aC a4;have cp:=af bL;have cD:=af b7;subst cQ;have ck:Hid (∀a,t=some a->W.heap.size<=a.block):=fun a cV=>(by have h1:=(a4.lt a.block (by rw[cV];rfl)).1;omega);clear b2 ca aa a4 bL b7)
     |(refine bH JA base (aS (S:=fun _=>False) i.o.gI (M.o.alloc _) (fun _ _ h=>h)) [.slice t l'.length u] rfl (by simp[Value.oneCell']) rfl (.tmp 62) (.tmp 70) rfl rfl _ rfl (by first|exact di _ _|exact kF _ _) (by unfold maxLen;omega) (by omega) (by simp;omega) ?_
       intro B ab ba D a2 bI dL;have cA:=af D;have cn:=af bI;obtain⟨d2,d3⟩:=cu ((au.refl (fun k=>s.ownBlock=some k) _).grown a2 (fun k G=>.inl G)) (b:=A) (by first|(simp;done)|(simp;omega)) (fun e=>c1.o e);clear D bI))
    all_goals
     have ah:=i.o.below (M.o.toBelow (ay _) (fun k h=>h.elim));have bP:=ah.below ((aB _ _).alloc (ay _) (.cells #[.slice t l'.length u] 209));have b0:ba.ownsRow base 209 1 (.slice (some ⟨B,0,none⟩) (c.length+1) ab) (c++[(t,l',u)]).length ((c++[(t,l',u)]).map dQ):=by
      rw[bq,bS];exact cA.o
     have aZ:Value.ownBlock (.slice (some ⟨B,0,none⟩) (c.length+1) ab)=s.ownBlock\/(V.alloc (.cells #[.slice t l'.length u] 209)).heap.size<=B:=by
      rcases cn.o with h9|h9
      .exact .inl h9.symm
      .exact .inr (by rw[h9];first|exact ay _|simp)
     have cq:=af (bP.OC a2 b0 (aZ.imp (fun h=>h) (fun h=>.inr ⟨B,rfl,h⟩)));have cm:=af aZ;have bw:au (fun k=>k=A\/s.ownBlock=some k) V (ba.setCell ⟨A,1,none⟩ (.slice (some ⟨B,0,none⟩) (c.length+1) ab)):=(((au.refl _ V).alloc _).grown a2 (fun k G=>.inl (.inr G))).set (a:=⟨A,1,none⟩) _ (.inl (.inl rfl));have bl:=af bw;clear ah bP b0 aZ bw;go_wp2;go_roundw
     case rel=>
      have ah:=i.o.below (M.o.toBelow (ay _) (fun k h=>h.elim));have dU:=M.o.size;have bx:au (fun k=>k=A\/s.ownBlock=some k) wr (ba.setCell ⟨A,1,none⟩ (.slice (some ⟨B,0,none⟩) (c.length+1) ab)):=(M.o.mono (fun k h=>h.elim)).trans bl.o;refine⟨_,c++[(t,l',u)],by simp,cq.o,cJ.o (t,l',u) cB.o cF.o,bp.o.snoc ck.o,?_,?_,?_⟩
      .intro h Q;rcases bT.1 Q with h1|h1
       .exact⟨(aA.o h h1).1.kept fun b v fr g=>i.o.eU (T:=fun _=>False) (bx.mono fun k h=>.inl (h.imp id (fun h=>.inr (.inl h)))) b v fr g (fun h=>h),(aA.o h h1).2⟩
       .obtain rfl:h=(t,l',u):=by simpa using h1
        exact⟨cD.o.kept fun b v fr g=>ah.eU (T:=fun _=>False) (bl.o.mono fun k h=>.inl (h.imp id (fun h=>.inr (.inl h)))) b v fr g (fun h=>h),cp.o⟩
      .rcases cm.o with h9|h9
       .rw[h9];exact aF.o
       .exact .inr ⟨B,rfl,by simp at h9;omega⟩
      .refine au.strip ((K.o.mono (fun k h=>.inl h)).trans (bx.mono (fun k h=>?_)));rcases h with h|h
       .exact .inl h
       .rcases aF.o with h9|⟨b,h9,ac⟩
        .rw[h9]at h;cases h
        .rw[h9]at h;injection h with h;exact .inr (by omega)
     case measure=>simp[intOf];omega
   .have bR:c.length=d.length:=by have:=aE.o.1;omega
    have hd:decide ((c.length:Int)<(d.length:Int))=false:=by simp;omega
    have dy:¬(c.length:Int)<(d.length:Int):=by omega
    have cr:=af bR;clear bR;go_wp2
    go_end0
    have cU:jI wr d:=bs.o.kept fun b v fr g=>J.o.eU (T:=fun _=>False) (K.o.mono fun k h=>.inl (.inl h)) b v fr g (fun h=>h);obtain⟨hp,c3⟩:=aE.o.done cr.o;have a5:=JE aG.o (NB':=c.map (·.2.1)) (by rw[<-bn.o,<-bo.o];exact hp) c3;rw[<-bn.o,<-bo.o]at a5;have b9:=E.o.size;have c5:=ar.o.size;refine⟨s,aT,c,d,_,bb,rfl,i.o.rep aA.o cU,a5.1,a5.2,?_,?_,bp.o,Nw.refl.trans ct.o (by omega)⟩
    .rintro k (h|h|h|h|h|h)
     .exact .inl (.inl h)
     .exact .inl (.inr (.inl h))
     .rcases aF.o with h9|⟨b,h9,ac⟩
      .rw[h9]at h;cases h
      .rw[h9]at h;injection h with h;exact .inr (by omega)
     .exact .inl (.inr (.inr (.inr (.inl h))))
     .exact .inl (.inr (.inr (.inr (.inr (.inl h)))))
     .rcases cK.o with h9|⟨b,h9,ac⟩
      .rw[h9]at h;cases h
      .rw[h9]at h;injection h with h;exact .inr (by omega)
    .exact(((au.refl (nK A Cb bv pv lv cv) W).below E.o).trans (ar.o.mono (fun k h=>.inr (.inl h)))).trans (K.o.mono (fun k h=>.inl h))
end
section
variable {W:World} {base A Cb:Nat} {bv pv lv cv:Value} {bh ch:List kX} {al:List Bool} {pl:List Int} {n N wk:Int}
def OD (t:TypeId):Bool:=t==207||t==290||t==209||t==3||t==4
theorem yn (a:dR W base A Cb bv pv lv cv bh ch al pl n N wk):∀k,nK A Cb bv pv lv cv k->∃cs t fr,W.heap[k]? =some (Obj.cells cs t fr)/\OD t=true:=by
 have d:∀{e:TypeId} {sz:Nat} {v:Value} {n:Nat} {xs:List Value} {k:Nat},W.ownsRow base e sz v n xs->v.ownBlock=some k->∃b,W.heap[k]? =some (Obj.cells b e (0,0)):=by
  intro e sz v n xs k a f;rcases a.2 with⟨rfl,_⟩|⟨g,l,b,rfl,_,i,_⟩
  .cases f
  .simp only[Value.ownBlock,iV]at f;subst f;exact⟨b,i⟩
 intro k j;rcases j with h|h|h|h|h|h
 .exact⟨_,_,_,h▸a.blk,by decide⟩
 .exact⟨_,_,_,h▸a.fH.blk,by decide⟩
 .obtain⟨b,c⟩:=d a.gI h;exact⟨_,_,_,c,by decide⟩
 .obtain⟨b,c⟩:=d a.iq h;exact⟨_,_,_,c,by decide⟩
 .obtain⟨b,c⟩:=d a.dP h;exact⟨_,_,_,c,by decide⟩
 .obtain⟨b,c⟩:=d a.fH.row h;exact⟨_,_,_,c,by decide⟩
def Sc (W:World) (base A Cb:Nat) (bv pv lv cv:Value) (bh ch:List kX) (al:List Bool) (pl:List Int) (n:Int) (k:Nat) (p:Int) (e:Ending) (w':World):Prop:=
 ∃(QU Bw:Value) (bh' qj:List kX) (N' Jp:Int),e=.returned (.tuple #[.int .i64 p,.bool true])/\dR w' base A Cb QU pv lv Bw bh' qj (al.set k false) pl (n-1) N' Jp/\rD (qj.map (·.2.1)) (bh'.map (·.2.1)) (al.set k false) pl (n-1) N'/\
  (∀id p,je (qj.map (·.2.1)).flatten (al.set k false) pl id p↔je (ch.map (·.2.1)).flatten (al.set k false) pl id p)/\(∀k,nK A Cb QU pv lv Bw k->nK A Cb bv pv lv cv k\/W.heap.size<=k)/\au (nK A Cb bv pv lv cv) W w'/\Nw W.heap.size bh bh'/\Nw W.heap.size ch qj
theorem Gl (h:dR W base A Cb bv pv lv cv bh ch al pl n N wk) (a3:base<=W.heap.size) (r:rD (ch.map (·.2.1)) (bh.map (·.2.1)) al pl n N) (id p:Int) (m:Nat) (V:(id,(m:Int))∈(ch.map (·.2.1)).flatten) (B:al[m]? =some true) (hp:pl[m]? =some p):
  Calls prog 58 #[.pointer (some ⟨A,0,none⟩),.int .u32 id] W (Sc W base A Cb bv pv lv cv bh ch al pl n m p):=by
 have ah:=af (JC h);have H:=af h;have U:=r.Sy;have aj:=af (fun W' (G:Below W.heap.size W W')=>vQ A id W' _ bh bv base ((h.below G).cell.2.1) (h.below G).gI rfl (h.below G).bE r.sorted (by have:=U.1;simp at this;omega) (fun l aN=>by have:=U.2.2.1 l aN;omega));have E:=af r;have bc:1<=n/\n<=5000:=by
  have Q:=r.cnt;have S:al.count true<=al.length:=GX;have a1:=r.bound;have⟨X,aR⟩:=fC.1 B;have a4:0<al.count true:=List.count_pos_iff.2 (aR▸bN X);omega
 have M:=af (JD r m B);go_enter func58,ntmps58
 go_wp2_with fail
 refine ah.o.mono ?_;rintro e w2 ⟨rfl,I⟩
 go_wp2_with fail
 refine(aj.o w2 I).mono ?_;rintro e w3 ⟨k,t,rfl,ht,u,aJ⟩;have K:=af (I.trans (aJ.mono I.size));have s:=af (H.o.below K.o);have⟨aA,aW,aC,aX,aD⟩:=s.o.cell;have aM:k=(m:Int):=by
  rcases u with⟨y,Z,Q,S⟩|⟨-,aT⟩
  .rw[iL E.o.perm]at Z;have:=oh E.o.ids Z V (by simpa using Q);rw[<-S,this]
  .exact absurd rfl (aT _ ((iL E.o.perm _).2 V))
 subst aM;obtain⟨X,-⟩:=fC.1 B;obtain⟨bb,-⟩:=fC.1 hp;obtain⟨b,f,aE,a5,a6,-,-⟩:=aQ s.o.dP (by omega);subst aE;have ab:=s.o.dP.cellAt m (by omega);rw[gY,B]at ab;simp only[aO]at ab;have aZ:=s.o.dP.frozenAt m;have F:=af (s.o.Ru rfl m false);have⟨d0,d1,d2,d3,d4⟩:=F.o.cell;have f4:=F.o.frozen 4;have z:=af (F.o.Rt (n-1));have ao:Hid (au (nK A Cb bv pv (.slice (some ⟨b,0,none⟩) al.length f) cv) W ((w3.setCell ⟨b,m,none⟩ (.bool false)).setCell ⟨A,4,none⟩ (.int .i64 (n-1)))):=
  (((au.refl _ W).below K.o).set (a:=⟨b,m,none⟩) _ (.inl (.inr (.inr (.inr (.inr (.inl rfl))))))).set (a:=⟨A,4,none⟩) _ (.inl (.inl rfl))
 have a9:(m:Int)<(al.length:Int):=by omega
 have ba:(m:Int)<(pl.length:Int):=by omega
 have aY:decide ((m:Int)<0)=false:=by simp
 have Y:(-9223372036854775808:Int)<=n-1/\n-1<=9223372036854775807:=by omega
 have aw:=af hp
 go_upto_region 8 with fail
 generalize(w3.setCell ⟨b,m,none⟩ (.bool false)).setCell ⟨A,4,none⟩ (.int .i64 (n-1))=J at*
 go_cut [51]from 41 to 50 (fun tv w=>tv=.bool (decide (2*(n-1)<N))/\Hid (dR w base A Cb bv pv (.slice (some ⟨b,0,none⟩) al.length f) cv bh ch (al.set m false) pl (n-1) N wk)/\Hid (au (nK A Cb bv pv (.slice (some ⟨b,0,none⟩) al.length f) cv) W w))
 case first=>
  obtain⟨aA,-,-,-,aD⟩:=z.o.cell;have ae:=af (Py (z.o.below (aB _ _).drew).fH);have a2:(-9223372036854775808:Int)<=2*(n-1)/\2*(n-1)<=9223372036854775807:=by omega
  have ag:Hid (Calls prog 137 #[.pointer (some ⟨Cb,0,none⟩)] J.drew fun e d=>e=.returned (.int .i64 N)/\Hid (Below J.drew.heap.size J.drew d)/\d.cell? ⟨A,0,none⟩=some (.pointer (some ⟨Cb,0,none⟩))/\d.cell? ⟨A,4,none⟩=some (.int .i64 (n-1))):=af (by
   refine ae.o.mono ?_;rintro e d ⟨rfl,T⟩;obtain⟨O,-,-,-,P⟩:=((z.o.below (aB _ _).drew).below T).cell;exact⟨rfl,T,O,P⟩)
  go_region_with (go_at_call 137;(with_reducible refine ag.o.mono ?_);rintro e d ⟨rfl,L,O,P⟩)
  all_goals
   have x:=af ((z.o.below (aB _ _).drew).below L.o)
   go_wp2_with fail
   go_meet;exact⟨by rw[show IntKind.i64.wrap (2*(n-1))=2*(n-1)from IntWalk.i64_in _ (by omega)],x,(ao.o.drew).below L.o⟩
 case rest=>
 obtain⟨rfl,x,g⟩:=hcut;obtain⟨d,aG⟩:∃d:World,d=wc:=⟨_,rfl⟩;subst aG;generalize aK:decide (2*(n-1)<N)=dg;have ai:=af aK
 go_upto_if 51 with fail
 go_cut []from 51 to 53 (fun w=>∃(j q:Value) (bh' c:List kX) (i v:Int),Hid (dR w base A Cb j pv (.slice (some ⟨b,0,none⟩) al.length f) q bh' c (al.set m false) pl (n-1) i v)/\Hid (rD (c.map (·.2.1)) (bh'.map (·.2.1)) (al.set m false) pl (n-1) i)/\
  Hid (∀id p,je (c.map (·.2.1)).flatten (al.set m false) pl id p↔je (ch.map (·.2.1)).flatten (al.set m false) pl id p)/\Hid (∀k,nK A Cb j pv (.slice (some ⟨b,0,none⟩) al.length f) q k->nK A Cb bv pv (.slice (some ⟨b,0,none⟩) al.length f) cv k\/W.heap.size<=k)/\Hid (au (nK A Cb bv pv (.slice (some ⟨b,0,none⟩) al.length f) cv) W w)/\Hid (Nw W.heap.size bh bh')/\Hid (Nw W.heap.size ch c))
 case first=>
  cases dg
  .have ar:Hid (N<=2*(n-1)):=af (by have:=ai.o;simp at this;omega)
   go_wp2_with fail
   go_meet;exact⟨bv,cv,bh,ch,N,wk,x,⟨M.o,ar.o⟩,fun _ _=>Iff.rfl,fun k u=>.inl u,g,Nw.refl,Nw.refl⟩
  .have ad:=af (Qt x.o (by have:=g.o.size;omega) M.o)
   go_wp2_with fail
   refine ad.o.mono ?_;rintro e be ⟨j,q,bh',c,i,v,rfl,aU,aV,aL,aP,aI,Y,aS⟩;have C:=af Y;have D:=af aS;have ax:=af aU;have az:=af aV;have ak:=af aL;have aq:=af aP;have ap:=af aI
   go_wp2_with fail
   go_meet;exact⟨j,q,bh',c,i,v,ax,az,ak,fun k u=>(aq.o k u).imp (fun h=>h) (fun h=>by have:=g.o.size;omega),g.o.trans ap.o,Nw.nil C.o g.o.size,Nw.nil D.o g.o.size⟩
 case rest=>
  have⟨j,q,bh',c,i,v,R,ay,am,av,an,C,D⟩:=hcut;obtain⟨aa,aH⟩:∃aa:World,aa=wc:=⟨_,rfl⟩;subst aH;obtain⟨-,-,aC,-,-⟩:=R.o.cell;obtain⟨a0,bd,aF,a7,a8,-,-⟩:=aQ R.o.iq (by omega);subst aF;have ac:=R.o.iq.cellAt m (by omega);rw[gY,aw.o]at ac;simp only[aO]at ac;go_wp2;go_ret2;exact⟨j,q,bh',c,i,v,rfl,R.o,ay.o,am.o,av.o,an.o,C.o,D.o⟩
end
end
section
open Go.RowKit Go.Maps
def Sd (S:Nat->Prop) (ch:List kX):Prop:=∀h∈ch,h.2.1≠[]->∀a,h.1=some a->S a.block
theorem Sd.nw {S:Nat->Prop} {n:Nat} {ch b:List kX} (h:Sd S ch) (d:Nw n ch b):Sd (fun k=>S k\/n<=k) b:=fun x f e a c=>(d x f).elim (fun g=>.inl (h x g e a c)) fun g=>.inr (g a c)
def kP (W:World) (base A:Nat) (S:Nat->Prop) (m:Nat) (D:List (Int×Int)):Prop:=
 ∃(Cb:Nat) (bv pv lv cv:Value) (bh ch:List kX) (al:List Bool) (pl:List Int) (n N wk:Int),dR W base A Cb bv pv lv cv bh ch al pl n N wk/\rD (ch.map (·.2.1)) (bh.map (·.2.1)) al pl n N/\Cu (ch.map (·.2.1)) al pl D/\al.length<=m/\(∀k,nK A Cb bv pv lv cv k->S k)/\Sd S bh/\Sd S ch
section
variable {W:World} {base A:Nat} {S:Nat->Prop} {m:Nat} {D:List (Int×Int)}
theorem kP.mono {S':Nat->Prop} {e:Nat} (h:kP W base A S m D) (hS:∀k,S k->S' k) (p:m<=e):kP W base A S' e D:=by
 have⟨Cb,bv,pv,lv,cv,bh,ch,al,pl,n,N,wk,l,o,hd,q,f,g,i⟩:=h;exact⟨Cb,bv,pv,lv,cv,bh,ch,al,pl,n,N,wk,l,o,hd,by omega,fun k j=>hS k (f k j),fun h c d a b=>hS _ (g h c d a b),fun h c d a b=>hS _ (i h c d a b)⟩
theorem kP.clip (h:kP W base A S m D):kP W base A (fun k=>S k/\k<W.heap.size) m D:=by
 have⟨Cb,bv,pv,lv,cv,bh,ch,al,pl,n,N,wk,d,w,hd,v,hS,s,u⟩:=h;have j:∀{e:List kX},jI W e->Sd S e->Sd (fun k=>S k/\k<W.heap.size) e:=fun{e} q hi x l i a f=>by
  refine⟨hi x l i a f,?_⟩;rcases(q x l).1 with p|⟨b,off,y,fr,c,r,-⟩
  .exact absurd p i
  .rw[f]at c;injection c with c;rw[c];exact(aZ.1 r).1
 refine⟨Cb,bv,pv,lv,cv,bh,ch,al,pl,n,N,wk,d,w,hd,v,fun k g=>⟨hS k g,?_⟩,j d.bE s,j d.cE u⟩;obtain⟨cs,t,fr,o,-⟩:=yn d k g;exact(aZ.1 o).1
theorem kP.kept {W':World} (h:kP W base A S m D) {T:Nat->Prop} (K:au T W W') (hd:∀k,S k->¬T k):kP W' base A S m D:=by
 have⟨Cb,bv,pv,lv,cv,bh,ch,al,pl,n,N,wk,a,i,f,g,hS,c,d⟩:=h;exact⟨Cb,bv,pv,lv,cv,bh,ch,al,pl,n,N,wk,⟨a.hb,bF K a.blk (hd _ (hS _ (.inl rfl))),⟨a.fH.hb,a.fH.ds,bF K a.fH.blk (hd _ (hS _ (.inr (.inl rfl)))),aS a.fH.row K fun b e=>hd _ (hS _ (.inr (.inr (.inr (.inr (.inr e))))))⟩,aS a.gI K fun b e=>hd _ (hS _ (.inr (.inr (.inl e)))),aS a.iq K fun b e=>hd _ (hS _ (.inr (.inr (.inr (.inl e))))),aS a.dP K fun b e=>hd _ (hS _ (.inr (.inr (.inr (.inr (.inl e)))))),a.bE.ME c K hd,a.cE.ME d K hd,a.sep⟩,i,f,g,hS,c,d⟩
theorem UD (W:World):aH 54 #[] W fun e w'=>e=.returned (ah (W.heap.size+1))/\kP w' W.heap.size (W.heap.size+1) (fun k=>W.heap.size<=k) 0 []/\Below W.heap.size W w':=by
 refine(Rs W).mono ?_;rintro e w' ⟨c,d,b⟩;refine⟨c,⟨W.heap.size,aG,aG,aG,aG,[],[],[],[],0,0,0,d,Nc,Cu.new,ay _,?_,(fun h a=>absurd a gZ),fun h a=>absurd a gZ⟩,b⟩;rintro k (h|h|h|h|h|h)
 .show _<=k;omega
 .show _<=k;omega
 all_goals cases h
theorem Jd (h:kP W base A S m D) (id p c:Int) (hid:(id,c)∈D):aH 56 #[ah A,ai id,aa p] W (eY W (aa 2)):=by
 have⟨Cb,bv,pv,lv,cv,bh,ch,al,pl,n,N,wk,e,a,hd,i,hS,f,g⟩:=h;have b:=a.Sy;exact D9 e a (by have:=b.1;simp at this;omega) (fun l d=>by have:=b.2.2.1 l d;omega) id p c ((hd.iff _ _).1 hid)
def Kc (S:Nat->Prop) (W w':World):Prop:=∃T:Nat->Prop,au T W w'/\∀k,T k->S k/\∃cs t fr,W.heap[k]? =some (Obj.cells cs t fr)/\OD t=true
theorem Kc.Sg {w':World} (h:Kc S W w'):au S W w':=by
 have⟨T,K,a⟩:=h;exact K.mono fun k b=>(a k b).1
def TN (W:World) (base A:Nat) (S:Nat->Prop) (m:Nat) (D:List (Int×Int)) (id p:Int) (e:Ending) (w':World):Prop:=
 e=.returned (aa 0)/\kP w' base A (fun k=>S k\/W.heap.size<=k) (m+1) (D++[(id,p)])/\Kc S W w'
theorem OE (h:kP W base A S m D) (M:base<=W.heap.size) (ae:m<5000) (id p:Int) (hid:∀q,(id,q)∉D):aH 56 #[ah A,ai id,aa p] W (TN W base A S m D id p):=by
 have⟨Cb,bv,pv,lv,cv,bh,ch,al,pl,n,N,wk,u,c,hd,ad,hS,z,B⟩:=h;have F:∀k,nK A Cb bv pv lv cv k->∃cs t fr,W.heap[k]? =some (Obj.cells cs t fr)/\OD t=true:=yn u;have G:=c.Sy;by_cases d:∃x∈(ch.map (·.2.1)).flatten,x.1=id
 .obtain⟨x,d,X⟩:=d;have⟨k,b,C⟩:=c.vS x d;have f:(id,(k:Int))∈(ch.map (·.2.1)).flatten:=by rw[<-X,<-b];exact d
  have j:al[k]? =some false:=by
   rw[dw C];cases L:al[k]with
   |false=>rfl
   |true=>
    obtain⟨q,U,-⟩:=hd.val c.tovR f (by rw[dw C,L]);exact absurd U (hid q)
  have Q:0<=n/\n<=100000:=by
   have w:=c.cnt;have y:al.count true<=al.length:=GX;have ac:=c.bound;omega
  refine(Ea u c (by have:=G.1;simp at this;omega) (fun l O=>by have:=G.2.2.1 l O;omega) id p k f j Q).mono ?_;rintro e w' ⟨o,v,g⟩;have K:au (nK A Cb bv pv lv cv) W w':=g.mono fun k b=>by
   rcases b with h|h|h
   .exact .inl h
   .exact .inr (.inr (.inr (.inl h)))
   .exact .inr (.inr (.inr (.inr (.inl h))))
  exact⟨o,⟨Cb,bv,pv,lv,cv,bh,ch,_,_,_,N,wk,v,PD c k p id f j,hd.again c.tovR f j,by simp;omega,fun k b=>.inl (hS k b),(fun h r s a i=>.inl (z h r s a i)),fun h r s a i=>.inl (B h r s a i)⟩,⟨_,K,fun k b=>⟨hS k b,F k b⟩⟩⟩
 .have E:∀x∈(ch.map (·.2.1)).flatten,x.1≠id:=fun x w y=>d ⟨x,w,y⟩;refine(Ja u M c (by omega) id p E).mono ?_;rintro e w' ⟨H,Z,Y,J,bh',I,ab,o,v,V,hP,P,g,R,T⟩;exact⟨o,⟨Cb,H,Z,Y,J,bh',I,_,_,_,_,ab,v,V,hd.put c.tovR E hP,by simp;omega,fun k b=>(P k b).imp (hS k) (fun h=>h),z.nw R,B.nw T⟩,⟨_,g,fun k b=>⟨hS k b,F k b⟩⟩⟩
def Si (W:World) (base A:Nat) (S:Nat->Prop) (m:Nat) (D:List (Int×Int)) (id p:Int) (e:Ending) (w':World):Prop:=
 e=.returned (.tuple #[aa p,.bool true])/\kP w' base A (fun k=>S k\/W.heap.size<=k) m (D.filter fun x=>decide (x.1≠id))/\Kc S W w'
theorem L9 (h:kP W base A S m D) (s:base<=W.heap.size) (id p:Int) (hid:(id,p)∈D):aH 58 #[ah A,ai id] W (Si W base A S m D id p):=by
 have⟨Cb,bv,pv,lv,cv,bh,ch,al,pl,n,N,wk,d,f,hd,x,hS,u,v⟩:=h;have E:=yn d;have⟨k,b,c,o⟩:=(hd.iff _ _).1 hid;have q:=hd.drop f.tovR b c;refine(Gl d s f id p k b c o).mono ?_;rintro e w' ⟨i,l,bh',j,g,G,t,C,F,w,y,r,z,B⟩;exact⟨t,⟨Cb,i,pv,lv,l,bh',j,_,_,_,g,G,C,F,q.turn w,by simpa using x,fun k a=>(y k a).imp (hS k) (fun h=>h),u.nw z,v.nw B⟩,⟨_,r,fun k a=>⟨hS k a,E k a⟩⟩⟩
end
def Own (W:World) (base A m:Nat) (D:List (Int×Int)):Prop:=kP W base A (fun k=>base<=k) m D
end
section
open Go.RowKit Go.Sort Go.Shelf Go.Lib Go.Maps
attribute [local irreducible] wpQuiet
attribute [local go_sem] Oper.fo
structure Gm (w:World) (Pb Hb Ab base:Nat) (av:Value) (GH SD:Nat->Prop) (m:Nat) (A:List eG) (D:List (Int×Int)) (ALL:List Pt) (N wk ik:Int):Prop where
 blk:w.heap[Pb]? =some (Obj.cells #[ah Hb,ah Ab,av,aa ik] uR (0,0))
 row:w.ownsRow 0 29 3 av ALL.length (ALL.flatMap dx)
 half:jM w Hb GH m A N wk
 dir:kP w base Ab SD m D
 hb:base<=w.heap.size
 few:ALL.length<=m
 fwd:∀id q,(id,q)∈D->∃(k:Nat) (c:eG),q=k/\c∈A/\ALL[k]? =some c.1/\c.1.2.2=id
 bwd:∀c∈A,∃q,(c.1.2.2,q)∈D
 qy:(∀k,GH k->¬SD k/\k≠Pb/\av.ownBlock≠some k/\k<w.heap.size)/\(∀k,SD k->k≠Pb/\av.ownBlock≠some k/\k<w.heap.size)/\av.ownBlock≠some Pb
def gL (w:World) (Pb:Nat) (G:Nat->Prop) (m:Nat) (now:List Pt) (N wk ik:Int):Prop:=
 ∃(Hb Ab base:Nat) (av:Value) (GH SD:Nat->Prop) (A:List eG) (D:List (Int×Int)) (ALL:List Pt),Gm w Pb Hb Ab base av GH SD m A D ALL N wk ik/\A.map (·.1)=now/\∀k,GH k\/SD k\/k=Pb\/av.ownBlock=some k->G k
theorem jM.clip {w:World} {Hb m:Nat} {G:Nat->Prop} {A:List eG} {N wk:Int} (h:jM w Hb G m A N wk):jM w Hb (fun k=>G k/\k<w.heap.size) m A N wk:=by
 have⟨X,F,Cb,mb,cv,tv,av,lv,ch,T,al,eP,d,e,f,c,g,j,b,l,n⟩:=h;exact⟨X,F,Cb,mb,cv,tv,av,lv,ch,T,al,eP,d,e,f,c,g,j,fun k a=>⟨(b k a).1,(b k a).2,(b k a).1⟩,fun i k a=>⟨l i k a,c.lt i k a⟩,n⟩
section
variable {w w':World} {Pb Hb Ab base m:Nat} {av:Value} {G GH SD S:Nat->Prop} {A:List eG} {D:List (Int×Int)} {ALL now:List Pt} {N wk ik Qu:Int}
theorem Gm.kept (h:Gm w Pb Hb Ab base av GH SD m A D ALL N wk ik) (K:au S w w') (hS:∀k,GH k\/SD k\/k=Pb\/av.ownBlock=some k->¬S k):Gm w' Pb Hb Ab base av GH SD m A D ALL N wk ik:=
 ⟨bF K h.blk (hS _ (.inr (.inr (.inl rfl)))),aS h.row K fun b e=>hS _ (.inr (.inr (.inr e))),h.half.kept K fun k a=>hS k (.inl a),h.dir.kept K fun k a=>hS k (.inr (.inl a)),bJ h.hb K.size,h.few,h.fwd,h.bwd,⟨fun k a=>⟨(h.qy.1 k a).1,(h.qy.1 k a).2.1,(h.qy.1 k a).2.2.1,bB (h.qy.1 k a).2.2.2 K.size⟩,fun k a=>⟨(h.qy.2.1 k a).1,(h.qy.2.1 k a).2.1,bB (h.qy.2.1 k a).2.2 K.size⟩,h.qy.2.2⟩⟩
theorem Gm.QV (h:Gm w Pb Hb Ab base av GH SD m A D ALL N wk ik) (K:au (fun k=>k=Pb) w w') (hb:w'.heap[Pb]? =some (Obj.cells #[ah Hb,ah Ab,av,aa Qu] uR (0,0))):Gm w' Pb Hb Ab base av GH SD m A D ALL N wk Qu:=
 ⟨hb,aS h.row K fun c e b=>h.qy.2.2 (by rw[e,b]),h.half.kept K fun k a=>(h.qy.1 k a).2.1,h.dir.kept K fun k a=>(h.qy.2.1 k a).1,bJ h.hb K.size,h.few,h.fwd,h.bwd,⟨fun k a=>⟨(h.qy.1 k a).1,(h.qy.1 k a).2.1,(h.qy.1 k a).2.2.1,bB (h.qy.1 k a).2.2.2 K.size⟩,fun k a=>⟨(h.qy.2.1 k a).1,(h.qy.2.1 k a).2.1,bB (h.qy.2.1 k a).2.2 K.size⟩,h.qy.2.2⟩⟩
theorem gL.kept (h:gL w Pb G m now N wk ik) (K:au S w w') (hS:∀k,G k->¬S k):gL w' Pb G m now N wk ik:=by
 have⟨Hb,Ab,base,av,GH,SD,A,D,ALL,b,c,a⟩:=h;exact⟨Hb,Ab,base,av,GH,SD,A,D,ALL,b.kept K fun k d=>hS k (a k d),c,a⟩
theorem gL.below (h:gL w Pb G m now N wk ik) (a:Below w.heap.size w w'):gL w' Pb G m now N wk ik:=h.kept (S:=fun _=>False) ((au.refl _ _).below a) fun _ _ h=>h
theorem gL.facts (h:gL w Pb G m now N wk ik):(now.length:Int)<=N/\N<=2*now.length/\N<=m/\(ids now).Nodup/\(∀p∈now,Gy p)/\0<=wk/\(∀L,m<2^L->wk<=(L*m:Nat))/\G Pb:=by
 obtain⟨Hb,Ab,base,av,GH,SD,A,D,ALL,a,rfl,b⟩:=h;obtain⟨f1,f2,f3,f4,f5,f6,f7,-⟩:=a.half.facts;rw[bX];exact⟨f1,f2,f3,f4,fun p hp=>by obtain⟨c,d,rfl⟩:=dI.1 hp;exact f5 c d,f6,f7,b _ (.inr (.inr (.inl rfl)))⟩
theorem TP (w:World):aH 11 #[] w fun e w'=>∃Pb,e=.returned (ah Pb)/\gL w' Pb (fun k=>w.heap.size<=k/\k<w'.heap.size) 0 [] 0 0 0/\Below w.heap.size w w':=by
 have g:=af (TG w);go_enter func11,ntmps11
 go_wp2_with fail
 refine g.o.mono ?_;rintro e w1 ⟨rfl,m,n⟩;have c:=af m.clip;have b:=af n;have f:=af (UD w1)
 go_wp2_with fail
 refine f.o.mono ?_;rintro e w2 ⟨rfl,l,p⟩;have i:=af l.clip;have a:=af p;go_wp2;go_ret;have q:=b.o.size;have t:=a.o.size;have d:au (fun _=>False) w2 (w2.alloc (.cells #[ah (w.heap.size+2),ah (w1.heap.size+1),aG,aa 0] uR)):=(au.refl _ w2).alloc _;have r:au (fun _=>False) w1 w2:=(au.refl _ w1).below a.o;have s:=c.o.facts;refine⟨w2.heap.size,rfl,⟨w.heap.size+2,w1.heap.size+1,w1.heap.size,aG,_,_,[],[],[],⟨di w2 _,dz _ _ _ _,(c.o.kept r (fun _ _ h=>h)).kept d (fun _ _ h=>h),i.o.kept d (fun _ _ h=>h),by simp;omega,bf _,fun _ _ h=>absurd h gZ,fun _ h=>absurd h gZ,⟨fun k hk=>⟨fun j=>by have:=j.1;have:=hk.2;omega,by have:=hk.2;omega,by simp[Value.ownBlock],by have:=hk.2;simp;omega⟩,fun k hk=>⟨by have:=hk.2;omega,by simp[Value.ownBlock],by have:=hk.2;simp;omega⟩,by simp[Value.ownBlock]⟩⟩,rfl,fun k hk=>?_⟩,?_⟩
 .rcases hk with hk|hk|hk|hk
  .exact⟨hk.1,by have:=hk.2;simp;omega⟩
  .exact⟨by have:=hk.1;omega,by have:=hk.2;simp;omega⟩
  .exact⟨by omega,by simp;omega⟩
  .cases hk
 .exact b.o.trans ((a.o.mono q).alloc (by omega) _)
end
theorem Gn (l l':List Int) (k:Nat) (h:l.take k=l'.take k) (a:k<l.length) (b:k<l'.length) (c:l[k]=l'[k]):l.take (k+1)=l'.take (k+1):=by
 rw[dZ a,dZ b,h,c]
theorem Bl (a a':Option Addr) (l l':List Int) (n n' c J:Nat) (w:World) (M:l.length=n) (N:l'.length=n') (h:Rd (.int .u32) w a l) (h':Rd (.int .u32) w a' l') (V:n<=1000000) (W:n'<=1000000):
  aH 15 #[.slice a n c,.slice a' n' J] w (eY w (.bool (decide (l=l')))):=by
 subst M N;have G:=af h;have H:=af h';clear h h';generalize m:decide (l=l')=r;have d:=af m;clear m;by_cases j:l.length=l'.length
 .have K:((l.length:Int)!=(l'.length:Int))=false:=by simp[j]
  have z:=af j;clear j;go_enter func15,ntmps15;go_wp2
  go_loopw [13] (fun t wr=>∃k:Nat,t=.int .i64 k/\k<=l.length/\Below w.heap.size w wr/\Hid (l.take k=l'.take k)) (fun t _=>l.length-(intOf t).toNat)
  case atStart=>exact⟨0,rfl,bf _,aB _ _,rfl⟩
  case round=>
   obtain⟨k,rfl,S,i,g⟩:=hrel;by_cases E:k<l.length
   .have F:k<l'.length:=by have:=z.o;omega
    obtain⟨b,off,A,Q,C⟩:=(G.o.below i).get (by omega);obtain⟨P,X,B,R,D⟩:=(H.o.below i).get (by omega);have Y:=C k E;have Z:=D k F;have T:(k:Int)<(l.length:Int):=by omega
    have U:(k:Int)<(l'.length:Int):=by omega
    have p:l[k]≠l'[k]->r=false:=fun O=>by
     rw[<-d.o];simp only[iA];intro e;subst e;exact O rfl
    have q:l[k]=l'[k]->Hid (l.take (k+1)=l'.take (k+1)):=fun L=>Gn l l' k g.o E F L;have x:=af A;have y:=af B;clear C D A B;generalize l[k]=u at*;generalize l'[k]=v at*;obtain rfl:=x.o;obtain rfl:=y.o;clear x y;by_cases f:u=v
    .have d0:(u !=v)=false:=by simp[f]
     have I:=q f;clear f p q g;go_wp2;go_region
     all_goals
      go_wp2;go_roundw
      case rel=>exact⟨k+1,by go_num,by omega,i.drew,I⟩
      case measure=>simp[intOf];omega
    .have d0:(u !=v)=true:=by simp[f]
     have m:=p f;subst m;clear f p q d g;go_wp2;go_region
     all_goals
      go_wp2;go_ret;exact⟨rfl,i.drew⟩
   .obtain rfl:k=l.length:=by omega
    have s:r=true:=by
     rw[<-d.o,bW];have:=g.o;rw[jy,z.o,jy]at this;exact this
    subst s;clear g d;go_wp2;go_ret;exact⟨rfl,i⟩
 .have K:((l.length:Int)!=(l'.length:Int))=true:=by simp;omega
  have s:r=false:=by
   rw[<-d.o,iA];rintro rfl;exact j rfl
  subst s;clear d j;go_enter func15,ntmps15;go_wp2;go_ret;exact⟨rfl,aB _ _⟩
end
end Go.Proofs.YtkjdbndekceffaaGreat
