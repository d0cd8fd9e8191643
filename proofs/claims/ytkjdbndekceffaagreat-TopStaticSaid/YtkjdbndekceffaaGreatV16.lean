/- A part of the proof; its text was made small by a program (no remarks, short names). -/
import Derived.Test.YtkjdbndekceffaaGreatV00
import Derived.Test.YtkjdbndekceffaaGreatV08
import Derived.Test.YtkjdbndekceffaaGreatV07
import Derived.Test.YtkjdbndekceffaaGreatV05
import Derived.Test.YtkjdbndekceffaaGreatV15
set_option linter.unusedSimpArgs false
set_option linter.unusedVariables false
set_option maxRecDepth 100000
set_option maxHeartbeats 16000000
namespace Go.Proofs.YtkjdbndekceffaaGreat
open Go.RowKit Go.Maps
attribute [local irreducible] wpQuiet
section
variable {W:World} {base A Cb:Nat} {bv pv lv cv:Value} {bh ch:List mM} {al:List Bool} {pl:List Int} {n N wk:Int}
theorem dZ.rows {W':World} {CQ vM:Value} {al':List Bool} {pl':List Int} (h:dZ W base A Cb bv pv lv cv bh ch al pl n N wk) (K:aC (fun k=>k=A\/pv.ownBlock=some k\/lv.ownBlock=some k) W W')
  (hb:W'.heap[A]? =some (Obj.cells #[.pointer (some ⟨Cb,0,none⟩),bv,CQ,vM,.int .i64 n] 207 (0,0)))
  (hp:W'.ownsRow base 3 1 CQ pl'.length (pl'.map (Value.int .i64))) (ha:W'.ownsRow base 4 1 vM al'.length (al'.map Value.bool)):dZ W' base A Cb bv CQ vM cv bh ch al' pl' n N wk:=by
 have hne:∀{b:Nat} {cs:Array Value} {t:TypeId} {fr:Nat×Nat},W.heap[b]? =some (Obj.cells cs t fr)->t≠207->t≠3->t≠4->¬(b=A\/pv.ownBlock=some b\/lv.ownBlock=some b):=by
  rintro b cs t fr hb h1 h2 h3 (h9|h9|h9)
  .exact dV hb h.blk h1 h9
  .exact bH h.iI hb h2 _ h9 rfl
  .exact bH h.dR hb h3 _ h9 rfl
 have hrow:∀{e:TypeId} {sz:Nat} {v:Value} {n:Nat} {xs:List Value},W.ownsRow base e sz v n xs->e≠207->e≠3->e≠4->W'.ownsRow base e sz v n xs:=fun hr h1 h2 h3=>
  aY hr K fun gb e=>by
   rcases hr.2 with⟨rfl,_⟩|⟨g,cap,cur,rfl,_,hh,_⟩
   .cases e
   .simp only[Value.ownBlock,jB]at e;subst e;exact hne hh h1 h2 h3
 exact⟨h.hb,hb,⟨h.gq.hb,h.gq.ds,bL K h.gq.blk (hne h.gq.blk (by decide) (by decide) (by decide)),hrow h.gq.row (by decide) (by decide) (by decide)⟩,hrow h.iA (by decide) (by decide) (by decide),hp,ha,
  h.bE.kept fun b cur fr hk=>K.block b (bn.1 hk).1 (hne hk (by decide) (by decide) (by decide)),h.cE.kept fun b cur fr hk=>K.block b (bn.1 hk).1 (hne hk (by decide) (by decide) (by decide)),h.sep⟩
theorem uR {w:World} {A i:Nat} {cs cs':Array Value} {t:TypeId} {v:Value} (h:w.heap[A]? =some (Obj.cells cs t (0,0))) (e:cs'=cs.setIfInBounds i v):(w.setCell ⟨A,i,none⟩ v).heap[A]? =some (Obj.cells cs' t (0,0)):=by
 rw[dH w A i _ _ _ h,e]
structure dz (W:World) (base A Cb:Nat) (bv pv lv cv:Value) (bh ch:List mM) (al:List Bool) (pl:List Int) (n N wk:Int):Prop where
 hb:base<=A
 blk:W.heap[A]? =some (Obj.cells #[.pointer (some ⟨Cb,0,none⟩),bv,pv,lv,.int .i64 n] 207 (0,0))
 gq:jh W base Cb cv ch N wk
 iA:W.ownsRow base 209 1 bv bh.length (bh.map dS)
 iI:W.ownsRow base 3 1 pv pl.length (pl.map (Value.int .i64))
 dR:W.ownsRow base 4 1 lv al.length (al.map Value.bool)
 sep:bv.ownBlock=none\/bv.ownBlock≠cv.ownBlock
theorem dZ.core (h:dZ W base A Cb bv pv lv cv bh ch al pl n N wk):dz W base A Cb bv pv lv cv bh ch al pl n N wk:=⟨h.hb,h.blk,h.gq,h.iA,h.iI,h.dR,h.sep⟩
theorem dz.rep (h:dz W base A Cb bv pv lv cv bh ch al pl n N wk) (hb:kM W bh) (hc:kM W ch):dZ W base A Cb bv pv lv cv bh ch al pl n N wk:=⟨h.hb,h.blk,h.gq,h.iA,h.iI,h.dR,hb,hc,h.sep⟩
theorem dz.cell (h:dz W base A Cb bv pv lv cv bh ch al pl n N wk):
  W.cell? ⟨A,0,none⟩=some (.pointer (some ⟨Cb,0,none⟩))/\W.cell? ⟨A,1,none⟩=some bv/\W.cell? ⟨A,2,none⟩=some pv/\W.cell? ⟨A,3,none⟩=some lv/\W.cell? ⟨A,4,none⟩=some (.int .i64 n):=by
 have:=h.blk;refine⟨?_,?_,?_,?_,?_⟩<;>simp[World.cell?,this]
theorem dz.frozen (h:dz W base A Cb bv pv lv cv bh ch al pl n N wk) (j:Nat):W.frozen? ⟨A,j,none⟩=false:=by
 have:=h.blk;simp[World.frozen?,this]
theorem dz.lt (h:dz W base A Cb bv pv lv cv bh ch al pl n N wk):A<W.heap.size:=(bn.1 h.blk).1
theorem dz.below {W':World} (h:dz W base A Cb bv pv lv cv bh ch al pl n N wk) (hb:Below W.heap.size W W'):dz W' base A Cb bv pv lv cv bh ch al pl n N wk:=
 ⟨h.hb,(bI hb h.blk).trans h.blk,h.gq.below hb,au h.iA hb,au h.iI hb,au h.dR hb,h.sep⟩
def pY (A Cb:Nat) (bv pv lv cv:Value) (k:Nat):Prop:=k=A\/k=Cb\/bv.ownBlock=some k\/pv.ownBlock=some k\/lv.ownBlock=some k\/cv.ownBlock=some k
theorem dz.add {W':World} {kW:Value} {iP:List mM} {N' uk:Int} (h:dz W base A Cb bv pv lv cv bh ch al pl n N wk) (K:aC (fun k=>k=Cb\/cv.ownBlock=some k) W W') (hc:jh W' base Cb kW iP N' uk) (hs:kW.ownBlock=cv.ownBlock\/kW.ownBlock=none\/∃b,kW.ownBlock=some b/\W.heap.size<=b):
  dz W' base A Cb bv pv lv kW bh iP al pl n N' uk:=by
 have hrow:∀{e:TypeId} {sz:Nat} {v:Value} {n:Nat} {xs:List Value},W.ownsRow base e sz v n xs->e≠290->(∀gb,v.ownBlock=some gb->cv.ownBlock≠some gb)->W'.ownsRow base e sz v n xs:=fun hr h1 h2=>
  aY hr K fun gb e=>by
   rintro(h9|h9)
   .exact bH hr h.gq.blk (jb h1) gb e h9.symm
   .exact h2 gb e h9
 refine⟨h.hb,bL K h.blk ?_,hc,hrow h.iA (by decide) ?_,hrow h.iI (by decide) (bK h.iI h.gq.row (by decide)),hrow h.dR (by decide) (bK h.dR h.gq.row (by decide)),?_⟩
 .rintro(h9|h9)
  .exact dV h.blk h.gq.blk (by decide) h9
  .exact bH h.gq.row h.blk (by decide) _ h9 rfl
 .intro gb e e2;rcases h.sep with h9|h9
  .rw[h9]at e;cases e
  .exact h9 (e.trans e2.symm)
 .rcases hs with h9|h9|⟨b,h9,h8⟩
  .rw[h9];exact h.sep
  .rw[h9];rcases Om bv.ownBlock with h7|⟨x,h7⟩
   .exact .inl h7
   .exact .inr (by rw[h7];simp)
  .rw[h9];right;intro e;have:=(h.iA.lt b e).2;omega
theorem dz.aoK {g k cp:Nat} (h:dz W base A Cb (.slice (some ⟨g,0,none⟩) k cp) pv lv cv bh ch al pl n N wk) (hk:k=bh.length) (m:Nat) (x:mM):dz (W.setCell ⟨g,m,none⟩ (dS x)) base A Cb (.slice (some ⟨g,0,none⟩) k cp) pv lv cv (bh.set m x) ch al pl n N wk:=by
 subst hk;obtain⟨cur,hg⟩:=Dj h.iA;have hgc:∀gb,cv.ownBlock=some gb->g≠gb:=by
  rintro gb e rfl;rcases h.sep with h9|h9
  .cases h9
  .exact h9 e.symm
 refine⟨h.hb,(aH (dV hg h.blk (by decide))).trans h.blk,⟨h.gq.hb,h.gq.ds,(aH (dV hg h.gq.blk (by decide))).trans h.gq.blk,bB h.gq.row fun gb e=>aH (hgc gb e)⟩,?_,bB h.iI fun gb e=>aH (bH h.iI hg (by decide) gb e),bB h.dR fun gb e=>aH (bH h.dR hg (by decide) gb e),h.sep⟩;rw[qh,lJ];exact(h.iA.stored m (dS x)).1
theorem dz.aaf {W':World} {zP:Value} {bh':List mM} (h:dz W base A Cb bv pv lv cv bh ch al pl n N wk) (hg:W.grownBy W' bv.ownBlock) (ho:W'.ownsRow base 209 1 zP bh'.length (bh'.map dS)) (hs:zP.ownBlock=bv.ownBlock\/zP.ownBlock=none\/∃b,zP.ownBlock=some b/\W.heap.size<=b):
  dz (W'.setCell ⟨A,1,none⟩ zP) base A Cb zP pv lv cv bh' ch al pl n N wk:=by
 have K:aC (fun k=>bv.ownBlock=some k) W W':=(aC.refl _ W).grown hg (fun k hk=>.inl hk);have hA:W'.heap[A]? =some (Obj.cells #[.pointer (some ⟨Cb,0,none⟩),bv,pv,lv,.int .i64 n] 207 (0,0)):=bL K h.blk fun e=>bH h.iA h.blk (by decide) _ e rfl;have hcr:W'.ownsRow base 209 1 cv ch.length (ch.map dS):=aY h.gq.row K fun gb e e2=>by
  rcases h.sep with h9|h9
  .rw[h9]at e2;cases e2
  .exact h9 (e2.trans e.symm)
 have avR:zP.ownBlock=none\/zP.ownBlock≠cv.ownBlock:=by
  rcases hs with h9|h9|⟨b,h9,h8⟩
  .rw[h9];exact h.sep
  .exact .inl h9
  .rw[h9];right;intro e;have:=(h.gq.row.lt b e.symm).2;omega
 refine⟨h.hb,uR hA rfl,⟨h.gq.hb,h.gq.ds,(aH (dV h.blk h.gq.blk (by decide))).trans (bL K h.gq.blk fun e=>bH h.iA h.gq.blk (by decide) _ e rfl),bB hcr fun gb e=>aH (bH hcr hA (by decide) gb e)⟩,
  bB ho fun gb e=>aH (bH ho hA (by decide) gb e),?_,?_,avR⟩
 .have:=aY h.iI K fun gb e e2=>bK h.iI h.iA (by decide) gb e e2;exact bB this fun gb e=>aH (bH this hA (by decide) gb e)
 .have:=aY h.dR K fun gb e e2=>bK h.dR h.iA (by decide) gb e e2;exact bB this fun gb e=>aH (bH this hA (by decide) gb e)
end
section
variable {W:World} {base A Cb:Nat} {bv pv lv cv:Value} {bh ch:List mM} {al:List Bool} {pl:List Int} {n N wk:Int}
theorem dz.ent {W':World} {base' k:Nat} {v:Value} {xs:List Value} (h:dz W base A Cb bv pv lv cv bh ch al pl n N wk) (ho:W.ownsRow base' 204 2 v k xs) (hg:W.grownBy W' v.ownBlock):dz W' base A Cb bv pv lv cv bh ch al pl n N wk:=by
 have K:aC (fun k=>v.ownBlock=some k) W W':=(aC.refl _ W).grown hg (fun k hk=>.inl hk);exact⟨h.hb,bL K h.blk fun e=>bH ho h.blk (by decide) _ e rfl,⟨h.gq.hb,h.gq.ds,bL K h.gq.blk fun e=>bH ho h.gq.blk (by decide) _ e rfl,aY h.gq.row K fun gb e e2=>bK h.gq.row ho (by decide) gb e e2⟩,
  aY h.iA K fun gb e e2=>bK h.iA ho (by decide) gb e e2,aY h.iI K fun gb e e2=>bK h.iI ho (by decide) gb e e2,aY h.dR K fun gb e e2=>bK h.dR ho (by decide) gb e e2,h.sep⟩
theorem dz.fq {W':World} (h:dz W base A Cb bv pv lv cv bh ch al pl n N wk) {T:Nat->Prop} (K:aC (fun k=>pY A Cb bv pv lv cv k\/T k) W W') (b:Nat) (cur:Array Value) (fr:Nat×Nat) (hb:W.heap[b]? =some (Obj.cells cur 204 fr)) (hT:¬T b):W'.heap[b]? =W.heap[b]? :=by
 refine K.block b (bn.1 hb).1 ?_;rintro((h9|h9|h9|h9|h9|h9)|h9)
 .exact dV hb h.blk (by decide) h9
 .exact dV hb h.gq.blk (by decide) h9
 .exact bH h.iA hb (by decide) _ h9 rfl
 .exact bH h.iI hb (by decide) _ h9 rfl
 .exact bH h.dR hb (by decide) _ h9 rfl
 .exact bH h.gq.row hb (by decide) _ h9 rfl
 .exact hT h9
def x9 (A:Nat) (w:World):Nat:=match w.cell? ⟨A,1,none⟩with|some (.slice _ n _)=>n|_=>0
theorem dz.x9 (h:dz W base A Cb bv pv lv cv bh ch al pl n N wk):x9 A W=bh.length:=by
 obtain⟨av,cp,rfl,-,-,-⟩:=Rd.aL (enc:=dS) h.iA;unfold Proofs.YtkjdbndekceffaaGreat.x9;rw[h.cell.2.1]
end
def GI (bh:List mM) (k:Nat):List mM:=List.replicate k fO++bh.drop k
theorem Ke {bh:List mM} {k:Nat} (hk:k<=bh.length):(GI bh k).length=bh.length:=by simp[GI];omega
theorem aeo {bh:List mM} {k:Nat} (hk:k<bh.length):(GI bh k).set k fO=GI bh (k+1):=by
 unfold GI;rw[wu _ _ (by simp),iN,jS,nP hk,qO,sW,ek];rfl
theorem aep {bh ky:List mM} {i:Nat} (h:ky=bh/\i<bh.length\/ky=bh++[fO]/\i=bh.length) (hd:mM):((GI ky i).set i hd).map (·.2.1)=List.replicate i []++hd.2.1::(bh.map (·.2.1)).drop (i+1):=by
 have kE:i<ky.length:=by rcases h with⟨rfl,h⟩|⟨rfl,h⟩<;>first|omega|(simp;omega)
 have hdr:(ky.drop (i+1)).map (·.2.1)=(bh.map (·.2.1)).drop (i+1):=by
  rcases h with⟨rfl,h⟩|⟨rfl,h⟩
  .rw[Am]
  .rw[rX (by simp;omega),rX (by simp;omega)];rfl
 unfold GI;rw[wu _ _ (by simp),iN,jS,nP kE,qO,dh,mY,hdr,IM]
theorem SH {bh ky:List mM} {i:Nat} (hc:ky=bh/\i<bh.length\/ky=bh++[fO]/\i=bh.length) {hd h:mM} (hh:h∈(GI ky i).set i hd):h=hd\/h=fO\/h∈bh:=by
 rcases Iu hh with h1|h1
 .unfold GI at h1;rw[df]at h1;rcases h1 with h1|h1
  .exact .inr (.inl (DC.1 h1).2)
  .have h2:=Ox h1;rcases hc with⟨rfl,-⟩|⟨rfl,-⟩
   .exact .inr (.inr h2)
   .rcases df.1 h2 with h3|h3
    .exact .inr (.inr h3)
    .exact .inr (.inl (by simpa using h3))
 .exact .inl h1
theorem zJ {w:World} {base n:Nat} {v:Value} {l:List jI} (hn:l.length=n) (hsz:n<4611686018427387904) (h:w.ownsRow base 204 2 v n (l.flatMap iZ)) (hb:base<=w.heap.size):
  Calls Tryz.prog 133 #[v] w fun e w'=>e=.returned v/\∃l':List jI,l'.Perm l/\l'.Pairwise (fun x y=>x.1<=y.1)/\w'.ownsRow base 204 2 v n (l'.flatMap iZ)/\w.grownBy w' v.ownBlock:=by
 rcases h.2 with⟨rfl,h0⟩|⟨g,cap,cur,rfl,hg,_⟩
 .subst h0;obtain rfl:l=[]:=jw hn;have hh:=ae h;clear h;go_enter Tryz.func133,Tryz.ntmps133
  go_wp2_with fail
  refine(JI none 0 _ w).mono ?_;rintro e w' ⟨rfl,rfl⟩;go_wp2;go_ret;exact⟨rfl,[],xe _,List.Pairwise.nil,hh.out,⟨rfl,rfl,rfl,aG _,fun _ _ _=>rfl⟩⟩
 .have C:=ae (ac6 hn hsz h);clear h;go_enter Tryz.func133,Tryz.ntmps133
  go_wp2_with fail
  refine C.out.mono ?_;rintro e w' ⟨rfl,l',hp,hs,ho,hgr⟩;go_wp2;go_ret;exact⟨rfl,l',hp,hs,ho,hgr⟩
section
variable {W:World} {base A Cb:Nat} {bv pv lv cv:Value} {bh ch:List mM} {al:List Bool} {pl:List Int} {n N wk:Int}
def aeq (W:World) (base A Cb:Nat) (bv pv lv cv:Value) (bh ch:List mM) (al:List Bool) (pl:List Int) (n N id p:Int) (e:Ending) (w':World):Prop:=
 ∃(zP CQ vM kW:Value) (bh' iP:List mM) (uk:Int),e=.returned (.int .i64 0)/\dZ w' base A Cb zP CQ vM kW bh' iP (al++[true]) (pl++[p]) (n+1) (N+1) uk/\vU (iP.map (·.2.1)) (bh'.map (·.2.1)) (al++[true]) (pl++[p]) (n+1) (N+1)/\
  (iP.map (·.2.1)).flatten.Perm ((id,(al.length:Int))::(ch.map (·.2.1)).flatten)/\(∀k,pY A Cb zP CQ vM kW k->pY A Cb bv pv lv cv k\/W.heap.size<=k)/\aC (pY A Cb bv pv lv cv) W w'/\Nw W.heap.size bh bh'/\Nw W.heap.size ch iP
theorem QU (h:dZ W base A Cb bv pv lv cv bh ch al pl n N wk) (qJ:base<=W.heap.size) (hw:vU (ch.map (·.2.1)) (bh.map (·.2.1)) al pl n N) (WE:al.length<5000) (id p:Int) (hno:∀x∈(ch.map (·.2.1)).flatten,x.1≠id):
  Calls Tryz.prog 56 #[.pointer (some ⟨A,0,none⟩),.int .u32 id,.int .i64 p] W (aeq W base A Cb bv pv lv cv bh ch al pl n N id p):=by
 have CN:=ae (Yg h);have H:=ae h;have hlv:=hw.nsz;have HF:=ae (fun W' (hb:Below W.heap.size W W')=>ET A id W' _ bh bv base ((h.below hb).cell.2.1) (h.below hb).iA rfl (h.below hb).bE hw.sorted (by have:=hlv.1;simp at this;omega) (fun l hl=>by have:=hlv.2.2.1 l hl;omega));have vE:0<=n/\n<=5000:=by
  have h1:=hw.cnt;have h2:al.count true<=al.length:=Oy;have h3:=hw.bound;omega
 have HW:=ae hw;clear h hw;go_enter Tryz.func56,Tryz.ntmps56
 go_wp2_with fail
 refine CN.out.mono ?_;rintro e w2 ⟨rfl,hb2⟩
 go_wp2_with fail
 refine(HF.out w2 hb2).mono ?_;rintro e w3 ⟨k,t,rfl,ht,hk,hb3⟩;have B3:=hb2.trans (hb3.mono hb2.size);have R3:=ae (H.out.below B3);obtain⟨c0,c1,c2,c3,c4⟩:=R3.out.cell;have hkm:k=-1:=by
  rcases hk with⟨y,hy,h1,h2⟩|⟨rfl,-⟩
  .rw[mi HW.out.perm]at hy;exact absurd h1 (hno _ hy)
  .rfl
 subst hkm;have f4:=R3.out.frozen 4;have sM:(-9223372036854775808:Int)<=n+1/\n+1<=9223372036854775807:=by omega
 have S4:=R3.out.ahx (n+1);have zA:=HW.out.bound;have HLP:=ae HW.out.len;have aEH:pl.length<5000:=by have:=HLP.out;omega
 have S5:=ae (S4.below ((aM _ _).alloc (aG _) (.cells #[.int .u32 id,.int .i64 (al.length:Int)] 204)));have K5:Hid (aC (fun k=>k=A) W ((w3.setCell ⟨A,4,none⟩ (.int .i64 (n+1))).alloc (.cells #[.int .u32 id,.int .i64 (al.length:Int)] 204))):=((((aC.refl (fun k=>k=A) W).below B3).set (a:=⟨A,4,none⟩) _ (.inl rfl)).alloc _);have x0:((w3.setCell ⟨A,4,none⟩ (.int .i64 (n+1))).alloc (.cells #[.int .u32 id,.int .i64 (al.length:Int)] 204)).cell? ⟨w3.heap.size,0,none⟩=some (.int .u32 id):=by rw[fw _ _ _ _ (by simp)];rfl
 have x1:((w3.setCell ⟨A,4,none⟩ (.int .i64 (n+1))).alloc (.cells #[.int .u32 id,.int .i64 (al.length:Int)] 204)).cell? ⟨w3.heap.size,1,none⟩=some (.int .i64 (al.length:Int)):=by rw[fw _ _ _ _ (by simp)];rfl
 have hs5:w3.heap.size<((w3.setCell ⟨A,4,none⟩ (.int .i64 (n+1))).alloc (.cells #[.int .u32 id,.int .i64 (al.length:Int)] 204)).heap.size:=by simp
 have hW3:W.heap.size<=w3.heap.size:=B3.size;have X0:=ae x0;have X1:=ae x1;obtain⟨d0,d1,d2,d3,d4⟩:=S4.cell;obtain⟨lav,lac,avS,-,-,-⟩:=Rd.aL S4.dR;subst avS;clear hk HF CN S4 x0 x1
 go_upto_region 11 with fail
 generalize((w3.setCell ⟨A,4,none⟩ (.int .i64 (n+1))).alloc (.cells #[.int .u32 id,.int .i64 (al.length:Int)] 204))=w5 at*;clear c0 c1 c2 c3 c4 f4 d0 d1 d2 d3 d4;generalize Value.slice lav al.length lac=lvv at*
 go_cut []from 61 to 79 (fun wx=>∃CQ vM,Hid (dZ wx base A Cb bv CQ vM cv bh ch (al++[true]) (pl++[p]) (n+1) N wk)/\Hid (CQ.ownBlock=pv.ownBlock\/∃b,CQ.ownBlock=some b/\W.heap.size<=b)/\Hid (vM.ownBlock=lvv.ownBlock\/∃b,vM.ownBlock=some b/\W.heap.size<=b)/\Hid (aC (fun k=>k=A\/pv.ownBlock=some k\/lvv.ownBlock=some k) w5 wx))
 case first=>
  obtain⟨-,q1,q2,q3,-⟩:=S5.out.cell;have fA:∀j,w5.frozen? ⟨A,j,none⟩=false:=S5.out.frozen;have hA5:=S5.out.lt;have hCA:=H.out.lt;have hpA:∀gb,pv.ownBlock=some gb->gb<w5.heap.size/\gb≠A:=fun gb e=>⟨(S5.out.iI.lt gb e).2,fun e9=>bH S5.out.iI S5.out.blk (by decide) gb e e9.symm⟩;have hlA:∀gb,lvv.ownBlock=some gb->gb<w5.heap.size/\gb≠A:=fun gb e=>⟨(S5.out.dR.lt gb e).2,fun e9=>bH S5.out.dR S5.out.blk (by decide) gb e e9.symm⟩;have hpl:∀gb,pv.ownBlock=some gb->lvv.ownBlock≠some gb:=fun gb e e2=>by
   rcases S5.out.dR.2 with⟨rfl,_⟩|⟨g,cap,cur,rfl,_,hh,_⟩
   .cases e2
   .simp only[Value.ownBlock,jB]at e2;subst e2;exact bH S5.out.iI hh (by decide) _ e rfl
  have HPA:=ae hpA;have HLA:=ae hlA;have HPL:=ae hpl;have avT:base<=w5.heap.size:=by have:=K5.out.size;omega
  clear hpA hlA hpl;have h0:=S5.out.blk
  go_region_law (first
   |(refine bM Az base (aY (S:=fun _=>False) S5.out.dR (by repeat(first|exact aC.refl _ _|refine aC.drew ?_|refine aC.alloc ?_ _)) (fun _ _ h=>h)) [.bool true] rfl (by simp[Value.oneCell']) rfl (.tmp 66) (.tmp 67) rfl rfl _ rfl (by first|exact lX _ _|exact GQ _ _ _|exact GR _ _ _) (by unfold maxLen;omega) (by omega) (by first|(simp;done)|(simp;omega)) ?_
     intro ga gz wa Xg hAg LV aso;obtain⟨qa1,qa2⟩:=di ((aC.refl (fun k=>lvv.ownBlock=some k) _).grown hAg (fun k hk=>.inl hk)) (b:=A) (by first|(simp;done)|(simp;omega)) (fun e=>(HLA.out _ e).2 rfl);have aEM:A<wa.heap.size:=by(have:=hAg.size;simp at this;omega)
     have HGA:Hid (ga≠A/\pv.ownBlock≠some ga/\(lvv.ownBlock=some ga\/W.heap.size<=ga)):=(by
      rcases LV with h9|h9
      .exact⟨(HLA.out _ h9).2,fun e=>HPL.out _ e h9,.inl h9⟩
      .simp at h9;exact⟨by omega,fun e=>by(have:=(HPA.out _ e).1;omega),.inr (by omega)⟩)
     clear LV)
   |(refine bM oU base (aY (S:=fun k=>lvv.ownBlock=some k) S5.out.iI (by repeat(first|exact aC.refl _ _|refine aC.drew ?_|refine aC.alloc ?_ _|refine aC.grown ?_ hAg (fun k hk=>.inl hk))) (fun gb e e2=>HPL.out gb e e2)) [.int .i64 p] rfl (by simp[Value.oneCell']) rfl (.tmp 72) (.tmp 74) rfl rfl _ rfl (by first|exact dE _ _|(refine(hAg.block _ (by first|(simp;done)|(simp;omega)) (fun e=>by have:=(HLA.out _ e.symm).1;omega)).trans ?_;first|exact lX _ _|exact GQ _ _ _|exact GR _ _ _)) (by unfold maxLen;omega) (by omega) (by have:=hAg.size;simp at this |-;omega) ?_
     intro gp avU wp LW hPg LX aEN;obtain⟨qp1,qp2⟩:=di ((aC.refl (fun k=>pv.ownBlock=some k) _).grown hPg (fun k hk=>.inl hk)) (b:=A) (by have:=hAg.size;simp at this |-;omega) (fun e=>(HPA.out _ e).2 rfl);have HGP:Hid (gp≠A/\(pv.ownBlock=some gp\/W.heap.size<=gp)):=(by
      rcases LX with h9|h9
      .exact⟨(HPA.out _ h9).2,.inl h9⟩
      .have h8:=hAg.size;simp at h9 h8;exact⟨by omega,.inr (by omega)⟩)
     clear LX))
  all_goals go_wp2_with fail
  all_goals go_meet
  all_goals
   have KP:aC (fun k=>pv.ownBlock=some k\/lvv.ownBlock=some k) w5 wp:=(by repeat(first|exact aC.refl _ _|with_reducible refine aC.drew ?_|with_reducible refine aC.alloc ?_ _|refine aC.grown ?_ hPg (fun k hk=>.inl (.inl hk))|refine aC.grown ?_ hAg (fun k hk=>.inl (.inr hk))));have KA:aC (fun k=>k=A\/pv.ownBlock=some k) wa wp:=(by repeat(first|exact aC.refl _ _|with_reducible refine aC.drew ?_|with_reducible refine aC.alloc ?_ _|refine aC.grown ?_ hPg (fun k hk=>.inl (.inr hk))));have hb:=bL KP h0 (fun e=>e.elim (fun e=>(HPA.out _ e).2 rfl) (fun e=>(HLA.out _ e).2 rfl));refine⟨.slice (some ⟨gp,0,none⟩) (pl.length+1) avU,.slice (some ⟨ga,0,none⟩) (al.length+1) gz,S5.out.rows (al':=al++[true]) (pl':=pl++[p]) ?_ ?_ ?_ ?_,?_,?_,?_⟩
   .exact((KP.mono (fun k h=>.inr h)).set _ (.inl (.inl rfl))).set _ (.inl (.inl rfl))
   .first|exact uR (uR hb rfl) rfl|exact uR (uR hb rfl) rfl
   .rw[bF,dh];exact aY (S:=fun k=>k=A) LW (((aC.refl (fun k=>k=A) wp).set (a:=⟨A,_,none⟩) _ (.inl rfl)).set (a:=⟨A,_,none⟩) _ (.inl rfl)) (fun gb e e2=>by
     have e3:gp=gb:=by injection e
     exact HGP.out.1 (e3.trans e2))
   .rw[bF,dh];exact aY (S:=fun k=>k=A\/pv.ownBlock=some k) Xg ((KA.set _ (.inl (.inl rfl))).set _ (.inl (.inl rfl))) (fun gb e e2=>by
     injection e with e;subst e;rcases e2 with e2|e2
     .exact HGA.out.1 e2
     .exact HGA.out.2.1 e2)
   .rcases HGP.out.2 with h9|h9
    .exact .inl h9.symm
    .exact .inr ⟨gp,rfl,h9⟩
   .rcases HGA.out.2.2 with h9|h9
    .exact .inl h9.symm
    .exact .inr ⟨ga,rfl,h9⟩
   .exact((KP.mono (fun k h=>.inr h)).set _ (.inl (.inl rfl))).set _ (.inl (.inl rfl))
 case rest=>
  obtain⟨CQ,vM,R,HPB,Oc,Sb⟩:=hcut;obtain⟨w6,rO⟩:∃w6:World,w6=wc:=⟨_,rfl⟩;subst rO;have JD:=H.out.lt;have ai4:¬(w3.heap.size=A\/pv.ownBlock=some w3.heap.size\/lvv.ownBlock=some w3.heap.size):=by
   rintro(h9|h9|h9)
   .omega
   .have:=(H.out.iI.lt _ h9).2;omega
   .have:=(H.out.dR.lt _ h9).2;omega
  have y0:=((di Sb.out hs5 ai4).1 0).trans X0.out;have y1:=((di Sb.out hs5 ai4).1 1).trans X1.out;have K6:Hid (aC (pY A Cb bv pv lvv cv) W w6):=by
   refine(K5.out.mono (fun k h=>.inl h)).trans (W:=W) (w1:=w5) (w2:=w6) ?_;exact Sb.out.mono (fun k h=>by
    rcases h with h|h|h
    .exact .inl h
    .exact .inr (.inr (.inr (.inl h)))
    .exact .inr (.inr (.inr (.inr (.inl h)))))
  have hW6:=K6.out.size;obtain⟨e0,e1,e2,e3,e4⟩:=R.out.cell;have RD:Hid (dZ w6.drew base A Cb bv CQ vM cv bh ch (al++[true]) (pl++[p]) (n+1) N wk):=R.out.below (aM _ _).drew;have hN0:0<=N/\N<=100000:=by
   have h1:=HW.out.stored;have h2:=hlv.2.2.2;omega
  have qL:ch.length<=1000:=by
   have h1:=HW.out.levels.1;simp at h1;omega
  have CA:=ae (ada RD.out.gq (by have:=hW6;simp;omega) RD.out.cE id (al.length:Int) hN0 qL (by have:=hlv.2.2.2;omega));clear ai4 X0 X1 Sb K5
  go_upto_region 12 with fail
  go_cut [10,11]from 80 to 88 (fun iv vx wx=>∃(i:Nat) (vv kW:Value) (iP:List mM) (uk:Int),iv=.int .i64 i/\vv=vx/\i<=ch.length/\Hid (∀j (hj:j<ch.length),j<i->ch[j].2.1≠[])/\Hid (∀hi:i<ch.length,ch[i].2.1=[])/\
   Hid (dz wx base A Cb bv CQ vM kW bh iP (al++[true]) (pl++[p]) (n+1) (N+1) uk)/\Hid (∀W2:World,(∀(b:Nat) cur fr,wx.heap[b]? =some (Obj.cells cur 204 fr)->vv.ownBlock≠some b->W2.heap[b]? =wx.heap[b]?)->kM W2 iP)/\Hid (iP.map (·.2.1)=kX (ch.map (·.2.1)) i (id,(al.length:Int)))/\
   Hid (wx.ownsRow w6.heap.size 204 2 vv (eu (ch.map (·.2.1)) i++[(id,(al.length:Int))]).length ((eu (ch.map (·.2.1)) i++[(id,(al.length:Int))]).flatMap iZ))/\
   Hid (kW.ownBlock=cv.ownBlock\/∃b,kW.ownBlock=some b/\W.heap.size<=b)/\Hid (aC (fun k=>k=Cb\/cv.ownBlock=some k) w6 wx)/\Hid (Nw W.heap.size ch iP))
  case first=>
   go_region_with (go_at_call 132;(with_reducible refine CA.out.mono ?_);rintro e w7 ⟨i,v7,cv7,ch7,wk7,rfl,hi,hne,Hg,Vw,⟨hrs,aoM⟩,hmap,hown,Z6,hK,Sk,-⟩;have avW:=ae Sk;have avX:=ae hne;have avY:=ae Hg;have aoN:=ae Vw;have avZ:=ae aoM;have aoO:=ae hmap;have aoP:=ae hown;have afI:=ae Z6;have sw:=ae hK;clear hne Hg Vw hrs aoM hmap hown Z6 hK Sk)
   all_goals go_wp2_with fail
   all_goals go_meet
   all_goals
    refine⟨i,v7,cv7,ch7,wk7,rfl,rfl,hi,avX,avY,?_,avZ,aoO,aoP,?_,?_,Nw.refl.trans avW.out (by simp;omega)⟩
    .exact RD.out.core.add sw.out aoN.out (afI.out.imp (fun h=>h) .inr)
    .rcases afI.out with h9|⟨b,h9,h8⟩
     .exact .inl h9
     .exact .inr ⟨b,h9,by simp at h8;omega⟩
    .exact((aC.refl _ w6).drew).trans sw.out
  case rest=>
   obtain⟨i,v7,cv7,ch7,wk7,rfl,rfl,hi,vP,Jp,HC,RL,Vx,aer,av0,sw,HNW⟩:=hcut;obtain⟨w7,Sv⟩:∃w7:World,w7=wc:=⟨_,rfl⟩;subst Sv;clear y0 y1 e0 e1 e2 e3 e4 CA RD;have U6:Hid (bh.length=ch.length):=ae (by have:=HW.out.perm.1;simpa using this);have hbl:bh.length<=13:=by have:=hlv.1;simpa using this
   have HSZ:Hid ((eu (ch.map (·.2.1)) i++[(id,(al.length:Int))]).length<=5001):=by
    show _<=_;rw[bF,(jW _ i).length_eq];have e3:((ch.map (·.2.1)).take i).flatten++((ch.map (·.2.1)).drop i).flatten=(ch.map (·.2.1)).flatten:=by rw[<-lV,lg]
    have e5:=congrArg List.length e3;rw[bF]at e5;have:=hlv.2.2.2;simp only[fU,iG];omega
   have HLV:=ae hlv;clear hlv
   go_upto_block 0 with fail
   go_cut []from 89 to 104 (fun wx=>∃(Oh:Value) (ky:List mM),Hid (dz wx base A Cb Oh CQ vM cv7 ky ch7 (al++[true]) (pl++[p]) (n+1) (N+1) wk7)/\Hid (ky=bh/\i<bh.length\/ky=bh++[fO]/\i=bh.length)/\Hid (Oh.ownBlock=bv.ownBlock\/∃b,Oh.ownBlock=some b/\w7.heap.size<=b)/\Hid (aC (fun k=>k=A\/bv.ownBlock=some k) w7 wx))
   case first=>
    go_wp2_with fail
    go_loopw [] (fun wr=>∃(Oh:Value) (ky:List mM),Hid (dz wr base A Cb Oh CQ vM cv7 ky ch7 (al++[true]) (pl++[p]) (n+1) (N+1) wk7)/\Hid (ky=bh/\Oh=bv/\wr=w7\/ky=bh++[fO]/\i=bh.length)/\Hid (Oh.ownBlock=bv.ownBlock\/∃b,Oh.ownBlock=some b/\w7.heap.size<=b)/\Hid (aC (fun k=>k=A\/bv.ownBlock=some k) w7 wr)) (fun wr=>i+1-x9 A wr)
    case atStart=>exact⟨bv,bh,HC,.inl ⟨rfl,rfl,rfl⟩,.inl rfl,aC.refl _ _⟩
    case round=>
     obtain⟨Oh,ky,nu,fK,HV1,nL⟩:=hrel;obtain⟨av,cp,ebv,-,VZ,-⟩:=Rd.aL (enc:=dS) nu.out.iA;obtain⟨-,b1,-⟩:=nu.out.cell;have HL:=ae nu.out.x9;by_cases hlt:i<ky.length
     .have fP:Hid (ky=bh/\i<bh.length\/ky=bh++[fO]/\i=bh.length):=by
       rcases fK.out with⟨h1,-⟩|h1
       .exact .inl ⟨h1,h1▸hlt⟩
       .exact .inr h1
      have dle:decide (ky.length<=i)=false:=by simp;omega
      rw[ebv]at b1
      go_wp2_with fail
      go_meet;exact⟨Oh,ky,nu,fP,HV1,nL⟩
     .obtain⟨rfl,rfl,rfl⟩:ky=bh/\Oh=bv/\wr=w7:=by
       rcases fK.out with h1|⟨h1,h2⟩
       .exact h1
       .rw[h1]at hlt;simp at hlt;omega
      have hib:i=ky.length:=by have:=U6.out;omega
      subst hib;have dle:decide (ky.length<=ky.length)=true:=by simp
      have hrow:=nu.out.iA;have Pd:Hid (wr.heap[A]? =some (Obj.cells #[.pointer (some ⟨Cb,0,none⟩),Oh,CQ,vM,.int .i64 (n+1)] 207 (0,0))):=nu.out.blk;have uZ:Hid (∀w8,wr.grownBy w8 Oh.ownBlock->w8.heap[A]? =some (Obj.cells #[.pointer (some ⟨Cb,0,none⟩),Oh,CQ,vM,.int .i64 (n+1)] 207 (0,0))):=fun w8 hg=>bL ((aC.refl (fun k=>Oh.ownBlock=some k) wr).grown hg (fun k hk=>.inl hk)) nu.out.blk (fun e=>bH nu.out.iA nu.out.blk (by decide) _ e rfl);have nJ:base<=wr.heap.size:=by have:=sw.out.size;omega
      subst ebv
      go_wp2_with (at_builtin;go_loud (refine cz RB base hrow [.slice none 0 0] rfl (by simp[Value.oneCell']) rfl _ _ rfl rfl _ rfl (by unfold maxLen;omega) (by omega) nJ ?_;intro v' w8 hown' hg hblk;obtain⟨g8,cp8,rfl,avi,avj,avk,avl⟩:=bf hown' (by omega);have k8:=uZ.out w8 hg;have q1:w8.cell? ⟨A,1,none⟩=some (.slice av ky.length cp):=(by simp[World.cell?,k8]);have q2:w8.frozen? ⟨A,1,none⟩=false:=(by simp[World.frozen?,k8])))
      have hown2:w8.ownsRow base 209 1 (.slice (some ⟨g8,0,none⟩) (ky.length+1) cp8) (ky++[fO]).length ((ky++[fO]).map dS):=by
       rw[bF,dh];exact hown'
      have hb2:=gm hblk;have zF:=nu.out.aaf hg hown2 (hb2.imp (fun h=>h) .inr);go_roundw
      case rel=>
       refine⟨_,ky++[fO],zF,.inr ⟨rfl,by first|rfl|trivial⟩,hb2,(nL.out.grown hg (fun k hk=>.inl (.inr hk))).set (a:=⟨A,1,none⟩) _ (.inl (.inl rfl))⟩
      case measure=>
       rw[zF.x9,nu.out.x9];simp
   case rest=>
    obtain⟨Oh,ky,nu,fK,HV1,nL⟩:=hcut;obtain⟨w8,Zz⟩:∃w8:World,w8=wc:=⟨_,rfl⟩;subst Zz;have iC:i<ky.length:=by
     rcases fK.out with⟨h1,h2⟩|⟨h1,h2⟩
     .rw[h1];exact h2
     .rw[h1];simp;omega
    have oL:ky.length<=14:=by
     rcases fK.out with⟨h1,h2⟩|⟨h1,h2⟩
     .rw[h1];omega
     .rw[h1];simp;omega
    obtain⟨g1,uo,ebv,aEO,aEP,-,-⟩:=bf nu.out.iA (by omega);subst ebv;have av1:Hid (dz w8 base A Cb (.slice (some ⟨g1,0,none⟩) ky.length uo) CQ vM cv7 (GI ky 0) ch7 (al++[true]) (pl++[p]) (n+1) (N+1) wk7):=nu.out;have hi0:(0:Int)<=(i:Int):=by omega
    go_upto_block 2 with fail
    go_cut []from 106 to 115 (fun wx=>Hid (dz wx base A Cb (.slice (some ⟨g1,0,none⟩) ky.length uo) CQ vM cv7 (GI ky i) ch7 (al++[true]) (pl++[p]) (n+1) (N+1) wk7)/\Hid (aC (fun k=>k=g1) w8 wx))
    case first=>
     go_wp2_with fail
     go_loopw [106] (fun kv wr=>∃k:Nat,kv=.int .i64 k/\k<=i/\Hid (dz wr base A Cb (.slice (some ⟨g1,0,none⟩) ky.length uo) CQ vM cv7 (GI ky k) ch7 (al++[true]) (pl++[p]) (n+1) (N+1) wk7)/\Hid (aC (fun k=>k=g1) w8 wr)) (fun kv _=>i-(intOf kv).toNat)
     case atStart=>exact⟨0,rfl,bC _,av1,aC.refl _ _⟩
     case round=>
      obtain⟨k,rfl,KD,HCk,HKk⟩:=hrel;by_cases hlt:k<i
      .have hrow:=HCk.out.iA;have gU:(GI ky k).length=ky.length:=Ke (by omega);rw[gU]at hrow;have zk:=hrow.cellAt k (by omega);rw[dD (show k<((GI ky k).map dS).length by rw[cu];omega)]at zk;generalize((GI ky k).map dS)[k]'(by rw[cu];omega)=zv at zk;have fk:=hrow.frozenAt k;obtain⟨-,b1,-⟩:=HCk.out.cell;have av2:Hid (dz (wr.setCell ⟨g1,k,none⟩ (.slice none 0 0)) base A Cb (.slice (some ⟨g1,0,none⟩) ky.length uo) CQ vM cv7 (GI ky (k+1)) ch7 (al++[true]) (pl++[p]) (n+1) (N+1) wk7):=by
        have h9:=HCk.out.aoK gU.symm k fO;rw[aeo (by omega)]at h9;exact h9
       have um:(k:Int)<(ky.length:Int):=by omega
       clear hrow gU
       go_wp2_with fail
       go_roundw
       case rel=>exact⟨k+1,by go_num,by omega,av2,HKk.out.set (a:=⟨g1,k,none⟩) _ (.inl rfl)⟩
       case measure=>simp[intOf];omega
      .obtain rfl:k=i:=by omega
       go_wp2_with fail
       go_meet;exact⟨HCk,HKk⟩
    case rest=>
     obtain⟨HCi,HKi⟩:=hcut;obtain⟨w9,Cw⟩:∃w9:World,w9=wc:=⟨_,rfl⟩;subst Cw;have HJ:Hid (eu (ch.map (·.2.1)) i++[(id,(al.length:Int))]=eu (ch.map (·.2.1)) i++[(id,(al.length:Int))]):=ae rfl;generalize hJ:eu (ch.map (·.2.1)) i++[(id,(al.length:Int))]=J at*;have HJ2:=ae hJ;clear HJ hJ;have K79:Hid (aC (fun k=>k=A\/bv.ownBlock=some k) w7 w9):=by
      refine aC.strip ((nL.out.mono (fun k h=>.inl h)).trans (HKi.out.mono (fun k h=>?_)));rcases HV1.out with h9|⟨b,h9,h8⟩
      .exact .inl (.inr (by rw[<-h9,h];rfl))
      .have h9':g1=b:=by injection h9
       exact .inr (by omega)
     have OW9:w9.ownsRow w6.heap.size 204 2 v7 J.length (J.flatMap iZ):=aY aer.out K79.out (fun gb e=>by
      rintro(h9|h9)
      .exact bH aer.out HC.out.blk (by decide) gb e h9.symm
      .exact bK HC.out.iA aer.out (by decide) gb h9 e)
     have av4:w6.heap.size<=w9.heap.size:=bO sw.out.size K79.out.size;obtain⟨a7,c7,ev7,-,hc7,-⟩:=Uv.aL OW9;subst ev7;have HC7:=ae hc7;clear hc7;have ST:=ae (zJ (w:=w9.drew) (base:=w6.heap.size) rfl (by have:=HSZ.out;omega) (OW9.bP 1) av4);have ST2:Calls Tryz.prog 133 #[.slice a7 J.length c7] w9.drew fun e sH=>∃(l':List jI) (z:Value),e=.returned (.slice a7 J.length c7)/\Hid (l'.Perm J)/\Hid (l'.Pairwise (fun x y=>x.1<=y.1))/\Hid (Uv sH a7 l')/\
       Hid (dz sH base A Cb (.slice (some ⟨g1,0,none⟩) ky.length uo) CQ vM cv7 (GI ky i) ch7 (al++[true]) (pl++[p]) (n+1) (N+1) wk7)/\Hid (aC (fun k=>Value.ownBlock (.slice a7 J.length c7)=some k) w9 sH)/\
       sH.cell? ⟨A,1,none⟩=some (.slice (some ⟨g1,0,none⟩) ky.length uo)/\sH.cell? ⟨g1,i,none⟩=some z/\sH.frozen? ⟨g1,i,none⟩=false:=by
      refine ST.out.mono ?_;rintro e sH ⟨rfl,l',hp,hs,ho,hg⟩;have zF:=(HCi.out.below (aM _ _).drew).ent (OW9.bP 1) hg;have hrow:=zF.iA;have gU:(GI ky i).length=ky.length:=Ke (by omega);rw[gU]at hrow;have zk:=hrow.cellAt i (by omega);rw[dD (show i<((GI ky i).map dS).length by rw[cu];omega)]at zk;have KL:sH.ownsRow w6.heap.size 204 2 (.slice a7 J.length c7) l'.length (l'.flatMap iZ):=by rw[hp.length_eq];exact ho
      obtain⟨a8,c8,e8,-,hre⟩:=Uv.aL KL;injection e8 with e8 _ _;subst e8;exact⟨l',_,rfl,hp,hs,hre.2,zF,((aC.refl _ w9).drew).grown hg (fun k hk=>.inl hk),zF.cell.2.1,zk,hrow.frozenAt i⟩
     have um:(i:Int)<(ky.length:Int):=by omega
     have hi9:(0:Int)<=(i:Int):=by omega
     obtain⟨-,r1,-⟩:=HCi.out.cell;clear ST OW9
     go_upto_region 20 with fail
     go_region_with (go_at_call 133;(with_reducible refine ST2.mono ?_);rintro e sH ⟨l',z,rfl,HP,HS,WZ,aoR,Fj,q1,z10,f10⟩)
     all_goals go_wp2_with fail
     all_goals go_ret
     all_goals
      have O0:Value.slice a7 J.length c7=dS (a7,l',c7):=by unfold dS;simp only;rw[HP.out.length_eq]
      rw[O0];have gU:(GI ky i).length=ky.length:=Ke (by omega);have hg1:bv.ownBlock=some g1\/w7.heap.size<=g1:=by
       rcases HV1.out with h9|⟨b,h9,h8⟩
       .exact .inl h9.symm
       .have h9':g1=b:=by injection h9
        exact .inr (by omega)
      have aEU:W.heap.size<=w7.heap.size:=bO hW6 sw.out.size;have hv7:∀k,Value.ownBlock (.slice a7 J.length c7)=some k->w6.heap.size<=k:=fun k h=>(aer.out.lt k h).1;have K7F:aC (fun k=>(k=A\/bv.ownBlock=some k)\/Value.ownBlock (.slice a7 J.length c7)=some k) w7 (sH.setCell ⟨g1,i,none⟩ (dS (a7,l',c7))):=
       ((K79.out.mono (fun k h=>.inl h)).trans (Fj.out.mono (fun k h=>.inr h))).set (a:=⟨g1,i,none⟩) _ (by
        rcases hg1 with h9|h9
        .exact .inl (.inl (.inr h9))
        .exact .inr h9)
      have K6F:aC (fun k=>((k=Cb\/cv.ownBlock=some k)\/(k=A\/bv.ownBlock=some k))\/w6.heap.size<=k) w6 (sH.setCell ⟨g1,i,none⟩ (dS (a7,l',c7))):=
       (sw.out.mono (fun k h=>.inl (.inl h))).trans (K7F.mono (fun k h=>by
        rcases h with h|h
        .exact .inl (.inr h)
        .exact .inr (hv7 k h)))
      have Hg:∀h:i<(ch.map (·.2.1)).length,(ch.map (·.2.1))[i]=[]:=fun h=>by
       have:=Jp.out (by simpa using h);simpa using this
      refine⟨.slice (some ⟨g1,0,none⟩) ky.length uo,CQ,vM,cv7,(GI ky i).set i (a7,l',c7),ch7,wk7,rfl,(aoR.out.aoK gU.symm i (a7,l',c7)).rep ?_ ?_,?_,?_,?_,?_,?_,HNW.out⟩
      .intro h hh;rcases SH fK.out hh with rfl|rfl|h1
       .obtain⟨cur,hgb⟩:=Dj (k:=ky.length) (by have h9:=aoR.out.iA;rw[gU]at h9;exact h9);exact⟨WZ.out.kept fun b cur fr hb=>aH (dV hgb hb (by decide)),by show l'.length<=c7;rw[HP.out.length_eq];exact HC7.out⟩
       .exact⟨.inl rfl,aG _⟩
       .refine⟨(R.out.bE h h1).1.kept fun b cur fr hb=>R.out.core.fq (T:=fun k=>w6.heap.size<=k) (K6F.mono (fun k h=>?_)) b cur fr hb (by have:=(bn.1 hb).1;omega),(R.out.bE h h1).2⟩;rcases h with((h|h)|(h|h))|h
        .exact .inl (.inr (.inl h))
        .exact .inl (.inr (.inr (.inr (.inr (.inr h)))))
        .exact .inl (.inl h)
        .exact .inl (.inr (.inr (.inl h)))
        .exact .inr h
      .refine RL.out _ fun b cur fr hb hne=>HC.out.fq (T:=fun k=>Value.ownBlock (.slice a7 J.length c7)=some k) (K7F.mono (fun k h=>?_)) b cur fr hb hne;rcases h with(h|h)|h
       .exact .inl (.inl h)
       .exact .inl (.inr (.inr (.inl h)))
       .exact .inr h
      .rw[Vx.out,aep fK.out];refine Yl HW.out id p hno WE i (by simpa using hi) (fun j hj oK=>?_) Hg l' (by rw[HJ2.out];exact HP.out) HS.out;have:=vP.out j (by simpa using hj) oK;simpa using this
      .rw[Vx.out];exact vC _ i _ Hg
      .rintro k (h|h|h|h|h|h)
       .exact .inl (.inl h)
       .exact .inl (.inr (.inl h))
       .rcases hg1 with h9|h9
        .exact .inl (.inr (.inr (.inl (h9.trans h))))
        .have h8:g1=k:=by injection h
         exact .inr (by omega)
       .rcases HPB.out with h9|⟨b,h9,h8⟩
        .exact .inl (.inr (.inr (.inr (.inl (h9.symm.trans h)))))
        .have h7:b=k:=by rw[h9]at h;injection h
         exact .inr (by omega)
       .rcases Oc.out with h9|⟨b,h9,h8⟩
        .exact .inl (.inr (.inr (.inr (.inr (.inl (h9.symm.trans h))))))
        .have h7:b=k:=by rw[h9]at h;injection h
         exact .inr (by omega)
       .rcases av0.out with h9|⟨b,h9,h8⟩
        .exact .inl (.inr (.inr (.inr (.inr (.inr (h9.symm.trans h))))))
        .have h7:b=k:=by rw[h9]at h;injection h
         exact .inr (by omega)
      .refine aC.strip ((K6.out.mono (fun k h=>.inl h)).trans (K6F.mono (fun k h=>?_)));rcases h with((h|h)|(h|h))|h
       .exact .inl (.inr (.inl h))
       .exact .inl (.inr (.inr (.inr (.inr (.inr h)))))
       .exact .inl (.inl h)
       .exact .inl (.inr (.inr (.inl h)))
       .exact .inr (by omega)
      .intro h hh;rcases SH fK.out hh with rfl|rfl|h1
       .exact .inr fun a ha=>by
         have:=hv7 a.block (by rw[show a7=some a from ha];rfl);omega
       .exact .inr fun a ha=>by cases ha
       .exact .inl h1
end
section
variable {W:World} {base A Cb:Nat} {bv pv lv cv:Value} {bh ch:List mM} {al:List Bool} {pl:List Int} {n N wk:Int}
def kT (al:List Bool) (CB:List (List jI)) (m:Nat):List jI:=((CB.drop m).reverse.flatten).filter (dJ al)
theorem VE (al:List Bool) (CB:List (List jI)):kT al CB CB.length=[]:=by unfold kT;rw[List.drop_length];rfl
theorem QV (al:List Bool) (CB:List (List jI)) (k:Nat) (h:k<CB.length):kT al CB k=kT al CB (k+1)++CB[k].filter (dJ al):=by
 unfold kT;rw[nP h,List.reverse_cons,lV,mU];simp
theorem VF (al:List Bool) (CB:List (List jI)) (m:Nat):(kT al CB m).length<=CB.flatten.length:=by
 unfold kT;refine bO (gG _ _) ?_;rw[((wV (CB.drop m)).flatten).length_eq];have e3:(CB.take m).flatten++(CB.drop m).flatten=CB.flatten:=by rw[<-lV,lg]
 have:=congrArg List.length e3;rw[bF]at this;omega
def QW (p8 Bg:List mM):Prop:=p8.length<=Bg.length/\∀(j:Nat) (h:j<p8.length) (h':j<Bg.length),p8[j].2.1.Perm Bg[j].2.1/\p8[j].2.1.Pairwise (fun x y=>x.1<=y.1)
theorem QW.step {p8 Bg:List mM} (h:QW p8 Bg) {hd:mM} (hi:p8.length<Bg.length) (hp:hd.2.1.Perm Bg[p8.length].2.1) (hs:hd.2.1.Pairwise (fun x y=>x.1<=y.1)):QW (p8++[hd]) Bg:=by
 refine⟨by simp;omega,fun j h1 h2=>?_⟩;by_cases hj:j<p8.length
 .rw[sN hj];exact h.2 j hj h2
 .have uU:j=p8.length:=by simp at h1;omega
  subst uU;rw[yt (by omega)];simp only[jS,wM];exact⟨hp,hs⟩
theorem QW.done {p8 Bg:List mM} (h:QW p8 Bg) (hl:p8.length=Bg.length):Mt (p8.map (·.2.1)) (Bg.map (·.2.1))/\∀l∈p8.map (·.2.1),l.Pairwise fun p q=>p.1<=q.1:=by
 refine⟨⟨by simpa using hl,fun i h1 h2=>?_⟩,fun l hm=>?_⟩
 .rw[fZ,fZ];exact(h.2 i (by simpa using h1) (by simpa using h2)).1
 .obtain⟨hd,hh,rfl⟩:=dY.1 hm;obtain⟨j,hj,rfl⟩:=jA hh;exact(h.2 j hj (by omega)).2
def aoS (W:World) (base A Cb:Nat) (bv pv lv cv:Value) (ch:List mM) (al:List Bool) (pl:List Int) (n:Int) (e:Ending) (w':World):Prop:=
 ∃(zP kW:Value) (bh' iP:List mM) (N' uk:Int),e=.returned (.tuple #[])/\dZ w' base A Cb zP pv lv kW bh' iP al pl n N' uk/\vU (iP.map (·.2.1)) (bh'.map (·.2.1)) al pl n N'/\
  (∀id p,kN (iP.map (·.2.1)).flatten al pl id p↔kN (ch.map (·.2.1)).flatten al pl id p)/\(∀k,pY A Cb zP pv lv kW k->pY A Cb bv pv lv cv k\/W.heap.size<=k)/\aC (pY A Cb bv pv lv cv) W w'/\Nw W.heap.size [] bh'/\Nw W.heap.size [] iP
theorem GJ:∀args w,(callFunc 210 args).run Tryz.prog w=.ok (.enter 210 args) w:=dF Tryz.func210 (by kernel_rfl) rfl
theorem GK:∀args w,(callFunc 133 args).run Tryz.prog w=.ok (.enter 133 args) w:=dF Tryz.func133 (by kernel_rfl) rfl
theorem aes (h:dZ W base A Cb bv pv lv cv bh ch al pl n N wk) (qJ:base<=W.heap.size) (hw:zo (ch.map (·.2.1)) (bh.map (·.2.1)) al pl n N):
  Calls Tryz.prog 138 #[.pointer (some ⟨A,0,none⟩)] W (aoS W base A Cb bv pv lv cv ch al pl n):=by
 have H:=ae h;have HW:=ae hw;have zO:=hw.nsz;have qL:ch.length<=13:=by have:=hw.levels.1;simpa using this
 have HLR:Hid (∀m,(kT al (ch.map (·.2.1)) m).length<=5000):=fun m=>bO (VF _ _ _) zO.2.2.2;have CL:=ae (EU h.gq (by omega));have zA:=hw.bound;obtain⟨c0,-⟩:=h.cell;clear h hw zO;go_enter Tryz.func138,Tryz.ntmps138
 go_wp2_with fail
 refine CL.out.mono ?_;rintro e w2 ⟨rfl,hb2⟩;have R2:=ae (H.out.below hb2);have hs2:=hb2.size;have fP:=ae hb2;clear c0 CL hb2
 go_upto_block 0 with fail
 go_cut [2,3,5]from 13 to 40 (fun vv iv ev wx=>∃lw:Value,lw=vv/\Hid (wx.ownsRow w2.heap.size 204 2 lw (kT al (ch.map (·.2.1)) 0).length ((kT al (ch.map (·.2.1)) 0).flatMap iZ))/\Hid (Below w2.heap.size w2 wx))
 case first=>
  go_wp2_with fail
  go_loopw [3,2] (fun iv vv wr=>∃(m:Nat) (lw:Value),iv=.int .i64 ((m:Int)-1)/\lw=vv/\m<=ch.length/\Hid (wr.ownsRow w2.heap.size 204 2 lw (kT al (ch.map (·.2.1)) m).length ((kT al (ch.map (·.2.1)) m).flatMap iZ))/\Below w2.heap.size w2 wr) (fun iv _ _=>(intOf iv+1).toNat)
  case atStart=>exact⟨ch.length,_,by go_num,rfl,aG _,by have:=VE al (ch.map (·.2.1));rw[cu]at this;rw[this];exact dL _ _ _ _,aM _ _⟩
  case round=>
   obtain⟨m,lw,rfl,rfl,hm,HO,hb⟩:=hrel;rcases pI m with Dk|Dk
   .subst Dk;have hg0:¬(0:Int)<=((0:Nat):Int)-1:=by omega
    have HB:=ae hb
    go_wp2_with fail
    go_meet;exact⟨_,rfl,HO,HB⟩
   .obtain⟨k,rfl⟩:∃k,m=k+1:=⟨m-1,by omega⟩;have KD:(((k+1:Nat):Int)-1)=(k:Int):=by omega
    rw[KD];have aoa:(0:Int)<=(k:Int):=by omega
    have hkc:k<(ch.map (·.2.1)).length:=by rw[cu];omega
    have HST:=ae (QV al (ch.map (·.2.1)) k hkc);have Rr:=ae (R2.out.below hb);obtain⟨c0,-⟩:=Rr.out.cell;have gU:k<ch.length:=by omega
    have hzl:ch[k].2.1.length<=5000:=by
     have:=HW.out.nsz.2.2.2;have h2:=rJ (l:=ch[k].2.1) (CB:=ch.map (·.2.1)) (dY.2 ⟨_,bW gU,rfl⟩);omega
    have HNI:Hid (∀x∈ch[k].2.1,∃k:Nat,x.2=(k:Int)/\k<al.length):=fun x hx=>HW.out.sI x (qR.2 ⟨_,dY.2 ⟨_,bW gU,rfl⟩,hx⟩);have CB:=ae (EY Rr.out.gq Rr.out.cE (by omega) k gU (by omega));have av7:Hid (kT al (ch.map (·.2.1)) k=kT al (ch.map (·.2.1)) (k+1)++ch[k].2.1.filter (dJ al)):=by
     have:=HST.out;rw[fZ]at this;exact this
    clear HST;generalize ch[k].2.1=lk at*;have Mg:=HLR.out (k+1);have HLk:=ae (HLR.out k);generalize kT al (ch.map (·.2.1)) (k+1)=L at*;obtain⟨wo,ewo⟩:∃wo:World,wo=wr:=⟨_,rfl⟩;subst ewo;have HB:=ae hb;have hs3:=hb.size;clear hb
    go_wp2_with fail
    refine CB.out.mono ?_;rintro e w3 ⟨v9,rfl,lG,hb3⟩;have Rt:=hb3.size;have jm:Hid (Below w2.heap.size w2 w3):=HB.out.trans (hb3.mono hs3);have Uj:=ae (au HO.out hb3);have aiN:Hid (∀gb,v9.ownBlock=some gb->lw.ownBlock≠some gb):=fun gb e e2=>by
     have h1:=(lG.lt gb e).1;have h2:=(HO.out.lt gb e2).2;omega
    have HO9:=ae lG;obtain⟨a9,c9,e9,-,-,-⟩:=Uv.aL lG;subst e9;clear lG hb3 c0;have aEV:lk.length<=9223372036854775807:=by omega
    have aEW:w2.heap.size<=w3.heap.size:=by omega
    clear CB
    go_wp2_with fail
    go_loopw [24,2] (fun jv vv wr=>∃(j:Nat) (lx:Value),jv=.int .i64 j/\lx=vv/\j<=lk.length/\Hid (wr.ownsRow w2.heap.size 204 2 lx (L++(lk.take j).filter (dJ al)).length ((L++(lk.take j).filter (dJ al)).flatMap iZ))/\Hid (wr.ownsRow wo.heap.size 204 2 (.slice a9 lk.length c9) lk.length (lk.flatMap iZ))/\Hid (∀gb,Value.ownBlock (.slice a9 lk.length c9)=some gb->lx.ownBlock≠some gb)/\Below w2.heap.size w2 wr) (fun jv _ _=>lk.length-(intOf jv).toNat)
    case atStart=>exact⟨0,_,rfl,rfl,bC _,by rw[xg,I8,jD];exact Uj,HO9,aiN,jm.out⟩
    case round=>
     obtain⟨j,lx,rfl,rfl,hj,N8,Vp,FY,hb4⟩:=hrel;have Zw:=hb4.size;by_cases jl:j<lk.length
     .obtain⟨a8,c8,e8,-,-,hre⟩:=Uv.aL Vp.out;injection e8 with e8 _ e9;subst e8 e9;obtain⟨b9,Gn,ea9,ahu,xY⟩:=hre.VX.get (by omega);have x0:=xY j jl 0 (by omega);have x1:=xY j jl 1 (by omega);simp only[iZ,aT,aS,eG]at x0 x1;obtain⟨q,hq,NZ⟩:=HNI.out lk[j] (bW jl);have R4:=R2.out.below hb4;obtain⟨la,lc,elv,-,-,hra⟩:=Rd.aL R4.dR;obtain⟨lb,lo,ela,Sl,hlc⟩:=hra.get (by omega);have za:=hlc q NZ;obtain⟨-,-,-,zc,-⟩:=R4.cell;have Nq:Hid (L++(lk.take (j+1)).filter (dJ al)=(L++(lk.take j).filter (dJ al))++(if al[q]=true then[lk[j]]else[])):=by
       show _=_;rw[fG jl,mU,<-ek];congr 1;unfold dJ;rw[mV,hq];simp only[iF,dD NZ];cases al[q]<;>simp
      have hjt:(L++(lk.take j).filter (dJ al)).length<=5000+5000:=by
       rw[bF];have h1:=gG (dJ al) (lk.take j);have h2:(lk.take j).length<=lk.length:=by rw[eF];omega
       omega
      have hxp:(lk[j]).2=(q:Int):=hq;rw[hq]at x1;have EA9:=ae ea9;have ELA:=ae ela;have ELV:=ae elv;have HXP:=ae hxp;have HSZ:Hid (lk.length=lk.length):=ae rfl;clear xY ea9 hlc ela elv hq hxp hra hre R4;generalize hL1:L++(lk.take j).filter (dJ al)=L1 at*;generalize iY:al[q]=bb at*;generalize lk[j]=x at*;obtain⟨xi,xk⟩:=x;simp only at x0 x1 Nq HXP;obtain rfl:=HXP.out;obtain rfl:=EA9.out;obtain rfl:=ELA.out;obtain rfl:=ELV.out;clear EA9 ELA ELV HXP iY hL1;have LJ:(j:Int)<(lk.length:Int):=by omega
      have Un:(q:Int)<(al.length:Int):=by omega
      have BA:Below wr.heap.size wr (wr.alloc (.cells #[.int .u32 xi,.int .i64 (q:Int)] 204)):=(aM _ _).alloc (aG _) _;have r0:(wr.alloc (.cells #[.int .u32 xi,.int .i64 (q:Int)] 204)).cell? ⟨wr.heap.size,0,none⟩=some (.int .u32 xi):=by rw[fw _ _ _ _ rfl];rfl
      have r1:(wr.alloc (.cells #[.int .u32 xi,.int .i64 (q:Int)] 204)).cell? ⟨wr.heap.size,1,none⟩=some (.int .i64 (q:Int)):=by rw[fw _ _ _ _ rfl];rfl
      have za2:=(BA.cell (p:=⟨lb,lo+q,none⟩) (iD wr _ za)).trans za;have zc2:=(BA.cell (p:=⟨A,3,none⟩) (iD wr _ zc)).trans zc;have UT:=ae ((N8.out.alloc (.cells #[.int .u32 xi,.int .i64 (q:Int)] 204)).bP 1);have Vq:=ae ((Vp.out.alloc (.cells #[.int .u32 xi,.int .i64 (q:Int)] 204)).bP 1);have HBA:=ae ((hb4.alloc Zw (.cells #[.int .u32 xi,.int .i64 (q:Int)] 204)).drew);cases bb
      .rw[aP (by decide),jD]at Nq;clear BA;go_wp2;go_region
       all_goals
        go_wp2;go_roundw
        case rel=>exact⟨j+1,_,by go_num,rfl,by omega,by rw[Nq.out];exact UT,Vq,FY,HBA.out⟩
        case measure=>simp[intOf];omega
      .rw[aR rfl]at Nq;clear BA;go_wp2;go_region;have r0d:((wr.alloc (.cells #[.int .u32 xi,.int .i64 (q:Int)] 204)).drew).cell? ⟨wr.heap.size,0,none⟩=some (.int .u32 xi):=r0;have r1d:((wr.alloc (.cells #[.int .u32 xi,.int .i64 (q:Int)] 204)).drew).cell? ⟨wr.heap.size,1,none⟩=some (.int .i64 (q:Int)):=r1
       go_wp2_with (at_builtin;refine cz Mr w2.heap.size UT.out [.int .u32 xi,.int .i64 q] rfl (by simp[Value.oneCell']) rfl _ _ rfl rfl _ (by show Value.slice (some ⟨wr.heap.size+1,0,none⟩) 1 1=_;simp) (by unfold maxLen;omega) (by omega) (by simp;omega) ?_;intro v' w6 hown' hg hblk)
       have b6:Below w2.heap.size w2 w6:=HBA.out.grown hg (by simp;omega) (fun b e=>(UT.out.lt b e).1);have aiQ:Hid (w6.ownsRow wo.heap.size 204 2 (.slice (some ⟨b9,Gn,none⟩) lk.length c9) lk.length (lk.flatMap iZ)):=by
        refine Vq.out.kept hg ?_;rcases Om (Value.ownBlock (.slice (some ⟨b9,Gn,none⟩) lk.length c9))with h9|⟨gb,h9⟩
        .exact .inl h9
        .exact .inr (fun e=>FY.out gb h9 (e.symm.trans h9))
       have ZU:Hid (∀gb,Value.ownBlock (.slice (some ⟨b9,Gn,none⟩) lk.length c9)=some gb->v'.ownBlock≠some gb):=fun gb e e2=>by
        have h1:=(Vp.out.lt gb e).2;rcases gm hblk with h9|⟨b,h9,h8⟩
        .exact FY.out gb e (h9.symm.trans e2)
        .rw[h9]at e2;injection e2 with e2;simp at h8;omega
       go_roundw
       case rel=>exact⟨j+1,_,by go_num,rfl,by omega,by rw[Nq.out,bF,lW];exact hown',aiQ,ZU,b6⟩
       case measure=>simp[intOf];omega
     .obtain rfl:j=lk.length:=by omega
      rw[mW,<-av7.out]at N8;go_wp2;go_roundw
      case rel=>exact⟨k,_,by go_num,rfl,by omega,N8,hb4⟩
      case measure=>simp[intOf]
 case rest=>
  obtain⟨lw,rfl,HL,Pd⟩:=hcut;obtain⟨w3,jQ⟩:∃w3:World,w3=wc:=⟨_,rfl⟩;subst jQ;have R3:=ae (R2.out.below Pd.out);have jm:=ae (fP.out.trans (Pd.out.mono hs2));have hl0:=HLR.out 0;obtain⟨a3,c3,e3,-,hc3,aoT⟩:=Uv.aL HL.out;subst e3;have CS:=ae (adg R3.out.gq (by have:=jm.out.size;omega) a3 (kT al (ch.map (·.2.1)) 0) c3 aoT hc3 (by omega));obtain⟨k0,-⟩:=R3.out.cell;have HLE:Hid (kT al (ch.map (·.2.1)) 0=((ch.map (·.2.1)).reverse.flatten).filter (dJ al)):=ae (by unfold kT;rw[lI]);generalize kT al (ch.map (·.2.1)) 0=L at*;clear aoT hc3 Pd HLR HL
  go_wp2_with fail
  refine CS.out.mono ?_;rintro e w4 ⟨cv4,mO,wk4,rfl,Ic,BI,zG,Vr,hK4,hn4,-⟩;have HC4:=ae (R3.out.core.add (hK4.mono (fun k h=>.inl h)) Ic (.inr Vr));have Gq:=ae BI;have HN4:=ae hn4;have Gv:=ae zG;have HV4:=ae Vr;have xG:=ae hK4;have aE0:mO.length<=14:=by
   have h1:=congrArg List.length zG;rw[eD,cu]at h1;have h2:=fE (a:=L.length) (b:=5000) (by omega) (by decide);have h3:Lib.bitLen 5000<=14:=by decide
   omega
  have HZ4:Hid (∀h∈mO,h.2.1.length<=5000):=fun h hh=>by
   have h1:=rJ (l:=h.2.1) (CB:=mO.map (·.2.1)) (dY.2 ⟨_,hh,rfl⟩);rw[zG]at h1;have h2:L.length<2^Lib.bitLen L.length:=by
    by_cases h0:L.length=0
    .rw[h0];decide
    .exact(bS _ (by omega) h0).2.2
   rw[(lL _ L h2).length_eq]at h1;omega
  obtain⟨-,q1,-⟩:=HC4.out.cell;have f1:=HC4.out.frozen 1;clear Ic BI zG Vr hK4 k0 CS hn4;have HC5:Hid (dz (w4.setCell ⟨A,1,none⟩ (.slice none 0 0)) base A Cb (.slice none 0 0) pv lv cv4 [] mO al pl n L.length wk4):=HC4.out.aaf (bh':=[]) (bV (aM _ _)|>fun h=>⟨h.os,h.tape,h.output,h.size,fun k hk _=>rfl⟩) (dL _ _ _ _) (.inr (.inl rfl));have mo:Hid (aC (fun k=>k=A) w4 (w4.setCell ⟨A,1,none⟩ (.slice none 0 0))):=(aC.refl (fun k=>k=A) w4).set (a:=⟨A,1,none⟩) _ (.inl rfl);have CL:=ae (EU HC5.out.gq (by omega));obtain⟨r0,-⟩:=HC5.out.cell
  go_wp2_with fail
  generalize w4.setCell ⟨A,1,none⟩ (.slice none 0 0)=w5 at*;refine CL.out.mono ?_;rintro e w6 ⟨rfl,jR⟩;have LM:=ae (HC5.out.below jR);have lD:Hid (aC (fun k=>k=A) w4 w6):=mo.out.below jR;clear r0 q1 f1 CL jR HC5 mo
  go_wp2_with fail
  go_loopw [55] (fun iv wr=>∃(bv2:Value) (p8:List mM),iv=.int .i64 p8.length/\Hid (dz wr base A Cb bv2 pv lv cv4 p8 mO al pl n L.length wk4)/\Hid (QW p8 mO)/\Hid (Nw W.heap.size [] p8)/\Hid (kM wr p8)/\Hid (bv2.ownBlock=none\/∃b,bv2.ownBlock=some b/\w4.heap.size<=b)/\Hid (aC (fun k=>k=A) w4 wr)) (fun iv _=>mO.length-(intOf iv).toNat)
  case atStart=>exact⟨.slice none 0 0,[],rfl,LM,⟨bC _,fun j h=>absurd h (ll _)⟩,Nw.agx (k:=0),(fun h hh=>absurd hh jC),.inl rfl,lD⟩
  case round=>
   obtain⟨bv2,p8,rfl,HC,HU,HN,HR,HV,HK⟩:=hrel;by_cases hlt:p8.length<mO.length
   .have HRC:Hid (kM wr mO):=Gq.out.kept fun b cur fr hb=>HC4.out.fq (T:=fun _=>False) (HK.out.mono fun k h=>.inl (.inl h)) b cur fr hb (fun h=>h);have CBK:=ae (EY (W:=wr.drew) (HC.out.below (aM _ _).drew).gq (HRC.out.kept fun b cur fr hb=>rfl) (by omega) p8.length hlt (bO (HZ4.out _ (bW hlt)) (by decide)));have awc:Hid (∀hd:mM,hd.2.1.Perm mO[p8.length].2.1->hd.2.1.Pairwise (fun x y=>x.1<=y.1)->QW (p8++[hd]) mO):=fun hd h1 h2=>HU.out.step hlt h1 h2;have hz:=HZ4.out _ (bW hlt);generalize mO[p8.length].2.1=lb at*;obtain⟨k0,k1,-⟩:=HC.out.cell;have kf:∀o,wr.frozen? ⟨A,o,none⟩=false:=HC.out.frozen;have hAr:=HC.out.lt;have um:(p8.length:Int)<(mO.length:Int):=by omega
    have aE2:=HK.out.size;have hW4:W.heap.size<=w4.heap.size:=bO jm.out.size xG.out.size;have awd:Hid (bv2.ownBlock≠some A):=fun e=>bH HC.out.iA HC.out.blk (by decide) _ e rfl
    go_wp2_with fail
    go_region_law (first
     |(refine bD (vals:=#[.pointer (some ⟨Cb,0,none⟩),.int .i64 p8.length]) GJ rfl _ _ rfl rfl CBK.out ?_
       rintro e w7 ⟨v7,rfl,mg,uL⟩;refine⟨_,rfl,?_⟩;have aoV:=uL.size;have aE3:A<w7.heap.size:=(by(have h9:wr.heap.size<=w7.heap.size:=aoV);omega);obtain⟨qb1,qb2⟩:=di ((aC.refl (fun _=>False) wr.drew).below uL) (b:=A) hAr (fun h=>h))
     |(refine bD (vals:=#[v7]) GK rfl _ _ rfl rfl (zJ (w:=w7) (base:=wr.heap.size) rfl (by omega) mg aoV) ?_
       rintro e w8 ⟨rfl,l',hp8,hs8,ho8,hg8⟩;refine⟨_,rfl,?_⟩;have HP8:=ae hp8;have HS8:=ae hs8;have K8:aC (fun _=>False) wr w8:=aC.strip (((aC.refl _ wr).drew.below uL).grown hg8 (fun k hk=>.inl (.inr (mg.lt k hk).1)));have Hu:=ae K8;obtain⟨qs1,qs2⟩:=di K8 (b:=A) hAr (fun h=>h);have aE5:=K8.size;have aE6:A<w8.heap.size:=(by omega);obtain⟨a7,c7,e7,-,hc7,aoW⟩:=Uv.aL ho8;have HC7:=ae hc7;have awf:=ae aoW;subst e7;have HA7:Hid (∀a,a7=some a->W.heap.size<=a.block):=fun a ha=>(by have h1:=(ho8.lt a.block (by rw[ha];rfl)).1;omega);clear hp8 hs8 K8 ho8 hc7 aoW)
     |(refine bM RB base (aY (S:=fun _=>False) HC.out.iA (Hu.out.alloc _) (fun _ _ h=>h)) [.slice a7 l'.length c7] rfl (by simp[Value.oneCell']) rfl (.tmp 62) (.tmp 70) rfl rfl _ rfl (by first|exact dE _ _|exact lX _ _) (by unfold maxLen;omega) (by omega) (by simp;omega) ?_
       intro g9 aet w9 lG hg9 afJ aE8;have aoX:=ae lG;have aoY:=ae afJ;obtain⟨qa1,qa2⟩:=di ((aC.refl (fun k=>bv2.ownBlock=some k) _).grown hg9 (fun k hk=>.inl hk)) (b:=A) (by first|(simp;done)|(simp;omega)) (fun e=>awd.out e);clear lG afJ))
    all_goals
     have Kg:=HC.out.below (Hu.out.toBelow (aG _) (fun k h=>h.elim));have SI:=Kg.below ((aM _ _).alloc (aG _) (.cells #[.slice a7 l'.length c7] 209));have hown2:w9.ownsRow base 209 1 (.slice (some ⟨g9,0,none⟩) (p8.length+1) aet) (p8++[(a7,l',c7)]).length ((p8++[(a7,l',c7)]).map dS):=by
      rw[bF,dh];exact aoX.out
     have Mh:Value.ownBlock (.slice (some ⟨g9,0,none⟩) (p8.length+1) aet)=bv2.ownBlock\/(w8.alloc (.cells #[.slice a7 l'.length c7] 209)).heap.size<=g9:=by
      rcases aoY.out with h9|h9
      .exact .inl h9.symm
      .exact .inr (by rw[h9];first|exact aG _|simp)
     have HCN:=ae (SI.aaf hg9 hown2 (Mh.imp (fun h=>h) (fun h=>.inr ⟨g9,rfl,h⟩)));have Gs:=ae Mh;have K89:aC (fun k=>k=A\/bv2.ownBlock=some k) w8 (w9.setCell ⟨A,1,none⟩ (.slice (some ⟨g9,0,none⟩) (p8.length+1) aet)):=(((aC.refl _ w8).alloc _).grown hg9 (fun k hk=>.inl (.inr hk))).set (a:=⟨A,1,none⟩) _ (.inl (.inl rfl));have aoZ:=ae K89;clear Kg SI hown2 Mh K89;go_wp2;go_roundw
     case rel=>
      have Kg:=HC.out.below (Hu.out.toBelow (aG _) (fun k h=>h.elim));have hw8:=Hu.out.size;have KR:aC (fun k=>k=A\/bv2.ownBlock=some k) wr (w9.setCell ⟨A,1,none⟩ (.slice (some ⟨g9,0,none⟩) (p8.length+1) aet)):=(Hu.out.mono (fun k h=>h.elim)).trans aoZ.out;refine⟨_,p8++[(a7,l',c7)],by simp,HCN.out,awc.out (a7,l',c7) HP8.out HS8.out,HN.out.snoc HA7.out,?_,?_,?_⟩
      .intro h hh;rcases df.1 hh with h1|h1
       .exact⟨(HR.out h h1).1.kept fun b cur fr hb=>HC.out.fq (T:=fun _=>False) (KR.mono fun k h=>.inl (h.imp id (fun h=>.inr (.inl h)))) b cur fr hb (fun h=>h),(HR.out h h1).2⟩
       .obtain rfl:h=(a7,l',c7):=by simpa using h1
        exact⟨awf.out.kept fun b cur fr hb=>Kg.fq (T:=fun _=>False) (aoZ.out.mono fun k h=>.inl (h.imp id (fun h=>.inr (.inl h)))) b cur fr hb (fun h=>h),HC7.out⟩
      .rcases Gs.out with h9|h9
       .rw[h9];exact HV.out
       .exact .inr ⟨g9,rfl,by simp at h9;omega⟩
      .refine aC.strip ((HK.out.mono (fun k h=>.inl h)).trans (KR.mono (fun k h=>?_)));rcases h with h|h
       .exact .inl h
       .rcases HV.out with h9|⟨b,h9,h8⟩
        .rw[h9]at h;cases h
        .rw[h9]at h;injection h with h;exact .inr (by omega)
     case measure=>simp[intOf];omega
   .have zm:p8.length=mO.length:=by have:=HU.out.1;omega
    have hd:decide ((p8.length:Int)<(mO.length:Int))=false:=by simp;omega
    have hge:¬(p8.length:Int)<(mO.length:Int):=by omega
    have HF:=ae zm;clear zm;go_wp2
    go_end0
    have hRC:kM wr mO:=Gq.out.kept fun b cur fr hb=>HC4.out.fq (T:=fun _=>False) (HK.out.mono fun k h=>.inl (.inl h)) b cur fr hb (fun h=>h);obtain⟨hp,hs⟩:=HU.out.done HF.out;have yo:=RH HW.out (NB':=p8.map (·.2.1)) (by rw[<-HLE.out,<-Gv.out];exact hp) hs;rw[<-HLE.out,<-Gv.out]at yo;have hs3:=jm.out.size;have Rt:=xG.out.size;refine⟨bv2,cv4,p8,mO,_,wk4,rfl,HC.out.rep HR.out hRC,yo.1,yo.2,?_,?_,HN.out,Nw.refl.trans HN4.out (by omega)⟩
    .rintro k (h|h|h|h|h|h)
     .exact .inl (.inl h)
     .exact .inl (.inr (.inl h))
     .rcases HV.out with h9|⟨b,h9,h8⟩
      .rw[h9]at h;cases h
      .rw[h9]at h;injection h with h;exact .inr (by omega)
     .exact .inl (.inr (.inr (.inr (.inl h))))
     .exact .inl (.inr (.inr (.inr (.inr (.inl h)))))
     .rcases HV4.out with h9|⟨b,h9,h8⟩
      .rw[h9]at h;cases h
      .rw[h9]at h;injection h with h;exact .inr (by omega)
    .exact(((aC.refl (pY A Cb bv pv lv cv) W).below jm.out).trans (xG.out.mono (fun k h=>.inr (.inl h)))).trans (HK.out.mono (fun k h=>.inl h))
end
section
variable {W:World} {base A Cb:Nat} {bv pv lv cv:Value} {bh ch:List mM} {al:List Bool} {pl:List Int} {n N wk:Int}
def aag (t:TypeId):Bool:=t==207||t==290||t==209||t==3||t==4
theorem BJ (hr:dZ W base A Cb bv pv lv cv bh ch al pl n N wk):∀k,pY A Cb bv pv lv cv k->∃cs t fr,W.heap[k]? =some (Obj.cells cs t fr)/\aag t=true:=by
 have hrow:∀{e:TypeId} {sz:Nat} {v:Value} {n:Nat} {xs:List Value} {k:Nat},W.ownsRow base e sz v n xs->v.ownBlock=some k->∃cur,W.heap[k]? =some (Obj.cells cur e (0,0)):=by
  intro e sz v n xs k hr e9;rcases hr.2 with⟨rfl,_⟩|⟨g,cap,cur,rfl,_,hh,_⟩
  .cases e9
  .simp only[Value.ownBlock,jB]at e9;subst e9;exact⟨cur,hh⟩
 intro k hk;rcases hk with h|h|h|h|h|h
 .exact⟨_,_,_,h▸hr.blk,by decide⟩
 .exact⟨_,_,_,h▸hr.gq.blk,by decide⟩
 .obtain⟨cur,hc⟩:=hrow hr.iA h;exact⟨_,_,_,hc,by decide⟩
 .obtain⟨cur,hc⟩:=hrow hr.iI h;exact⟨_,_,_,hc,by decide⟩
 .obtain⟨cur,hc⟩:=hrow hr.dR h;exact⟨_,_,_,hc,by decide⟩
 .obtain⟨cur,hc⟩:=hrow hr.gq.row h;exact⟨_,_,_,hc,by decide⟩
def ai5 (W:World) (base A Cb:Nat) (bv pv lv cv:Value) (bh ch:List mM) (al:List Bool) (pl:List Int) (n:Int) (k:Nat) (p:Int) (e:Ending) (w':World):Prop:=
 ∃(zP kW:Value) (bh' iP:List mM) (N' uk:Int),e=.returned (.tuple #[.int .i64 p,.bool true])/\dZ w' base A Cb zP pv lv kW bh' iP (al.set k false) pl (n-1) N' uk/\vU (iP.map (·.2.1)) (bh'.map (·.2.1)) (al.set k false) pl (n-1) N'/\
  (∀id p,kN (iP.map (·.2.1)).flatten (al.set k false) pl id p↔kN (ch.map (·.2.1)).flatten (al.set k false) pl id p)/\(∀k,pY A Cb zP pv lv kW k->pY A Cb bv pv lv cv k\/W.heap.size<=k)/\aC (pY A Cb bv pv lv cv) W w'/\Nw W.heap.size bh bh'/\Nw W.heap.size ch iP
theorem NF (h:dZ W base A Cb bv pv lv cv bh ch al pl n N wk) (qJ:base<=W.heap.size) (hw:vU (ch.map (·.2.1)) (bh.map (·.2.1)) al pl n N) (id p:Int) (m:Nat) (hm:(id,(m:Int))∈(ch.map (·.2.1)).flatten) (Ih:al[m]? =some true) (hp:pl[m]? =some p):
  Calls Tryz.prog 58 #[.pointer (some ⟨A,0,none⟩),.int .u32 id] W (ai5 W base A Cb bv pv lv cv bh ch al pl n m p):=by
 have CN:=ae (Yg h);have H:=ae h;have hlv:=hw.nsz;have HF:=ae (fun W' (hb:Below W.heap.size W W')=>ET A id W' _ bh bv base ((h.below hb).cell.2.1) (h.below hb).iA rfl (h.below hb).bE hw.sorted (by have:=hlv.1;simp at this;omega) (fun l hl=>by have:=hlv.2.2.1 l hl;omega));have HW:=ae hw;have vE:1<=n/\n<=5000:=by
  have h1:=hw.cnt;have h2:al.count true<=al.length:=Oy;have h3:=hw.bound;obtain⟨yg,hmv⟩:=gD.1 Ih;have hc:0<al.count true:=List.count_pos_iff.2 (hmv▸bW yg);omega
 have hN0:0<=N/\N<=5000:=by
  have h1:=hw.stored;have h2:=hlv.2.2.2;omega
 have afK:=ae (RG hw m Ih);have hW:=h.lt;clear h hw hlv;go_enter Tryz.func58,Tryz.ntmps58
 go_wp2_with fail
 refine CN.out.mono ?_;rintro e w2 ⟨rfl,hb2⟩
 go_wp2_with fail
 refine(HF.out w2 hb2).mono ?_;rintro e w3 ⟨k,t,rfl,ht,hk,hb3⟩;have B3:=ae (hb2.trans (hb3.mono hb2.size));have R3:=ae (H.out.below B3.out);obtain⟨c0,c1,c2,c3,c4⟩:=R3.out.cell;have hkm:k=(m:Int):=by
  rcases hk with⟨y,hy,h1,h2⟩|⟨-,hno⟩
  .rw[mi HW.out.perm]at hy;have:=vB HW.out.ids hy hm (by simpa using h1);rw[<-h2,this]
  .exact absurd rfl (hno _ ((mi HW.out.perm _).2 hm))
 subst hkm;obtain⟨yg,-⟩:=gD.1 Ih;obtain⟨hmp,-⟩:=gD.1 hp;obtain⟨ga,alc,ea,as4,as5,-,-⟩:=bf R3.out.dR (by omega);subst ea;have za:=R3.out.dR.cellAt m (by omega);rw[iO,Ih]at za;simp only[aU]at za;have fa:=R3.out.dR.frozenAt m;have S4:=ae (R3.out.ahy rfl m false);obtain⟨d0,d1,d2,d3,d4⟩:=S4.out.cell;have f4:=S4.out.frozen 4;have S5:=ae (S4.out.ahx (n-1));have mo:Hid (aC (pY A Cb bv pv (.slice (some ⟨ga,0,none⟩) al.length alc) cv) W ((w3.setCell ⟨ga,m,none⟩ (.bool false)).setCell ⟨A,4,none⟩ (.int .i64 (n-1)))):=
  (((aC.refl _ W).below B3.out).set (a:=⟨ga,m,none⟩) _ (.inl (.inr (.inr (.inr (.inr (.inl rfl))))))).set (a:=⟨A,4,none⟩) _ (.inl (.inl rfl))
 have hmi:(m:Int)<(al.length:Int):=by omega
 have as8:(m:Int)<(pl.length:Int):=by omega
 have aFa:decide ((m:Int)<0)=false:=by simp
 have sM:(-9223372036854775808:Int)<=n-1/\n-1<=9223372036854775807:=by omega
 have HPL:=ae hp;have VG:=ae Ih;have HM:=ae hm;clear hk HF CN hp Ih hm B3
 go_upto_region 8 with fail
 generalize(w3.setCell ⟨ga,m,none⟩ (.bool false)).setCell ⟨A,4,none⟩ (.int .i64 (n-1))=w5 at*;clear c0 c1 c2 c3 c4 za fa d0 d1 d2 d3 d4 f4
 go_cut [51]from 41 to 50 (fun tv wx=>tv=.bool (decide (2*(n-1)<N))/\Hid (dZ wx base A Cb bv pv (.slice (some ⟨ga,0,none⟩) al.length alc) cv bh ch (al.set m false) pl (n-1) N wk)/\Hid (aC (pY A Cb bv pv (.slice (some ⟨ga,0,none⟩) al.length alc) cv) W wx))
 case first=>
  obtain⟨c0,-,-,-,c4⟩:=S5.out.cell;have hA5:=S5.out.lt;have CL:=ae (adb (S5.out.below (aM _ _).drew).gq);have aiW:(-9223372036854775808:Int)<=2*(n-1)/\2*(n-1)<=9223372036854775807:=by omega
  have CL2:Hid (Calls Tryz.prog 137 #[.pointer (some ⟨Cb,0,none⟩)] w5.drew fun e w7=>e=.returned (.int .i64 N)/\Hid (Below w5.drew.heap.size w5.drew w7)/\w7.cell? ⟨A,0,none⟩=some (.pointer (some ⟨Cb,0,none⟩))/\w7.cell? ⟨A,4,none⟩=some (.int .i64 (n-1))):=ae (by
   refine CL.out.mono ?_;rintro e w7 ⟨rfl,uL⟩;obtain⟨g0,-,-,-,g4⟩:=((S5.out.below (aM _ _).drew).below uL).cell;exact⟨rfl,uL,g0,g4⟩)
  go_region_with (go_at_call 137;(with_reducible refine CL2.out.mono ?_);rintro e w7 ⟨rfl,Cf,g0,g4⟩)
  all_goals
   have R7:=ae ((S5.out.below (aM _ _).drew).below Cf.out)
   go_wp2_with fail
   go_meet;exact⟨by rw[show IntKind.i64.wrap (2*(n-1))=2*(n-1)from DZ _ (by omega)],R7,(mo.out.drew).below Cf.out⟩
 case rest=>
 obtain⟨rfl,R7,sw⟩:=hcut;obtain⟨w7,Sv⟩:∃w7:World,w7=wc:=⟨_,rfl⟩;subst Sv;clear S5 mo;generalize hdg:decide (2*(n-1)<N)=dg;have HDG:=ae hdg;clear hdg
 go_upto_if 51 with fail
 go_cut []from 51 to 53 (fun wx=>∃(zP kW:Value) (bh' iP:List mM) (N' uk:Int),Hid (dZ wx base A Cb zP pv (.slice (some ⟨ga,0,none⟩) al.length alc) kW bh' iP (al.set m false) pl (n-1) N' uk)/\Hid (vU (iP.map (·.2.1)) (bh'.map (·.2.1)) (al.set m false) pl (n-1) N')/\
  Hid (∀id p,kN (iP.map (·.2.1)).flatten (al.set m false) pl id p↔kN (ch.map (·.2.1)).flatten (al.set m false) pl id p)/\Hid (∀k,pY A Cb zP pv (.slice (some ⟨ga,0,none⟩) al.length alc) kW k->pY A Cb bv pv (.slice (some ⟨ga,0,none⟩) al.length alc) cv k\/W.heap.size<=k)/\Hid (aC (pY A Cb bv pv (.slice (some ⟨ga,0,none⟩) al.length alc) cv) W wx)/\Hid (Nw W.heap.size bh bh')/\Hid (Nw W.heap.size ch iP))
 case first=>
  cases dg
  .have HMO:Hid (N<=2*(n-1)):=ae (by have:=HDG.out;simp at this;omega)
   go_wp2_with fail
   go_meet;exact⟨bv,cv,bh,ch,N,wk,R7,⟨afK.out,HMO.out⟩,fun _ _=>Iff.rfl,fun k hk=>.inl hk,sw,Nw.refl,Nw.refl⟩
  .have CA:=ae (aes R7.out (by have:=sw.out.size;omega) afK.out)
   go_wp2_with fail
   refine CA.out.mono ?_;rintro e w8 ⟨zP,kW,bh',iP,N',uk,rfl,hr,yo,aeu,VH,hK,sM,zL⟩;have Ez:=ae sM;have Uy:=ae zL;have Yz:=ae hr;have awh:=ae yo;have HI8:=ae aeu;have HM8:=ae VH;have Hu:=ae hK;clear hr yo aeu VH hK sM zL
   go_wp2_with fail
   go_meet;exact⟨zP,kW,bh',iP,N',uk,Yz,awh,HI8,fun k hk=>(HM8.out k hk).imp (fun h=>h) (fun h=>by have:=sw.out.size;omega),sw.out.trans Hu.out,Nw.nil Ez.out sw.out.size,Nw.nil Uy.out sw.out.size⟩
 case rest=>
  obtain⟨zP,kW,bh',iP,N',uk,R,N7,awi,awj,HK,Ez,Uy⟩:=hcut;obtain⟨w9,Cw⟩:∃w9:World,w9=wc:=⟨_,rfl⟩;subst Cw;obtain⟨-,-,c2,-,-⟩:=R.out.cell;obtain⟨gp,plc,ep,as6,as7,-,-⟩:=bf R.out.iI (by omega);subst ep;have zp:=R.out.iI.cellAt m (by omega);rw[iO,HPL.out]at zp;simp only[aU]at zp;go_wp2;go_ret2;exact⟨zP,kW,bh',iP,N',uk,rfl,R.out,N7.out,awi.out,awj.out,HK.out,Ez.out,Uy.out⟩
end
end Go.Proofs.YtkjdbndekceffaaGreat
namespace Go.Proofs.YtkjdbndekceffaaGreat
open Go.RowKit Go.Maps
def InS (S:Nat->Prop) (ch:List mM):Prop:=∀h∈ch,h.2.1≠[]->∀a,h.1=some a->S a.block
theorem InS.nw {S:Nat->Prop} {n:Nat} {ch iP:List mM} (h:InS S ch) (hn:Nw n ch iP):InS (fun k=>S k\/n<=k) iP:=fun x hx hne a ha=>(hn x hx).elim (fun g=>.inl (h x g hne a ha)) fun g=>.inr (g a ha)
def oJ (W:World) (base A:Nat) (S:Nat->Prop) (m:Nat) (D:List (Int×Int)):Prop:=
 ∃(Cb:Nat) (bv pv lv cv:Value) (bh ch:List mM) (al:List Bool) (pl:List Int) (n N wk:Int),dZ W base A Cb bv pv lv cv bh ch al pl n N wk/\vU (ch.map (·.2.1)) (bh.map (·.2.1)) al pl n N/\Hl (ch.map (·.2.1)) al pl D/\al.length<=m/\(∀k,pY A Cb bv pv lv cv k->S k)/\InS S bh/\InS S ch
section
variable {W:World} {base A:Nat} {S:Nat->Prop} {m:Nat} {D:List (Int×Int)}
theorem oJ.mono {S':Nat->Prop} {m':Nat} (h:oJ W base A S m D) (hS:∀k,S k->S' k) (hm:m<=m'):oJ W base A S' m' D:=by
 obtain⟨Cb,bv,pv,lv,cv,bh,ch,al,pl,n,N,wk,hr,hw,hd,Wi,hS2,Ws,sG⟩:=h;exact⟨Cb,bv,pv,lv,cv,bh,ch,al,pl,n,N,wk,hr,hw,hd,by omega,fun k hk=>hS k (hS2 k hk),fun h hh hn a ha=>hS _ (Ws h hh hn a ha),fun h hh hn a ha=>hS _ (sG h hh hn a ha)⟩
theorem oJ.clip (h:oJ W base A S m D):oJ W base A (fun k=>S k/\k<W.heap.size) m D:=by
 obtain⟨Cb,bv,pv,lv,cv,bh,ch,al,pl,n,N,wk,hr,hw,hd,hm,hS,Ws,sG⟩:=h;have hrow:∀{hs:List mM},kM W hs->InS S hs->InS (fun k=>S k/\k<W.heap.size) hs:=fun{hs} hE hi x hx hne a ha=>by
  refine⟨hi x hx hne a ha,?_⟩;rcases(hE x hx).1 with h9|⟨b,off,cur,fr,ea,hb,-⟩
  .exact absurd h9 hne
  .rw[ha]at ea;injection ea with ea;rw[ea];exact(bn.1 hb).1
 refine⟨Cb,bv,pv,lv,cv,bh,ch,al,pl,n,N,wk,hr,hw,hd,hm,fun k hk=>⟨hS k hk,?_⟩,hrow hr.bE Ws,hrow hr.cE sG⟩;obtain⟨cs,t,fr,h1,-⟩:=BJ hr k hk;exact(bn.1 h1).1
theorem oJ.kept {W':World} (h:oJ W base A S m D) {T:Nat->Prop} (K:aC T W W') (hd:∀k,S k->¬T k):oJ W' base A S m D:=by
 obtain⟨Cb,bv,pv,lv,cv,bh,ch,al,pl,n,N,wk,hr,hw,hdd,hm,hS,Ws,sG⟩:=h;exact⟨Cb,bv,pv,lv,cv,bh,ch,al,pl,n,N,wk,⟨hr.hb,bL K hr.blk (hd _ (hS _ (.inl rfl))),⟨hr.gq.hb,hr.gq.ds,bL K hr.gq.blk (hd _ (hS _ (.inr (.inl rfl)))),aY hr.gq.row K fun gb e=>hd _ (hS _ (.inr (.inr (.inr (.inr (.inr e))))))⟩,aY hr.iA K fun gb e=>hd _ (hS _ (.inr (.inr (.inl e)))),aY hr.iI K fun gb e=>hd _ (hS _ (.inr (.inr (.inr (.inl e))))),aY hr.dR K fun gb e=>hd _ (hS _ (.inr (.inr (.inr (.inr (.inl e)))))),hr.bE.WO Ws K hd,hr.cE.WO sG K hd,hr.sep⟩,hw,hdd,hm,hS,Ws,sG⟩
theorem awk (W:World):aO 54 #[] W fun e w'=>e=.returned (ay (W.heap.size+1))/\oJ w' W.heap.size (W.heap.size+1) (fun k=>W.heap.size<=k) 0 []/\Below W.heap.size W w':=by
 refine(ahw W).mono ?_;rintro e w' ⟨he,hr,hb⟩;refine⟨he,⟨W.heap.size,aN,aN,aN,aN,[],[],[],[],0,0,0,hr,Yh,Hl.new,aG _,?_,(fun h hh=>absurd hh jC),fun h hh=>absurd hh jC⟩,hb⟩;rintro k (h|h|h|h|h|h)
 .show _<=k;omega
 .show _<=k;omega
 all_goals cases h
def SK (S:Nat->Prop) (W w':World):Prop:=∃T:Nat->Prop,aC T W w'/\∀k,T k->S k/\∃cs t fr,W.heap[k]? =some (Obj.cells cs t fr)/\aag t=true
theorem SK.kps {w':World} (h:SK S W w'):aC S W w':=by
 obtain⟨T,K,hT⟩:=h;exact K.mono fun k hk=>(hT k hk).1
def ao0 (W:World) (base A:Nat) (S:Nat->Prop) (m:Nat) (D:List (Int×Int)) (id p:Int) (e:Ending) (w':World):Prop:=
 e=.returned (ag 0)/\oJ w' base A (fun k=>S k\/W.heap.size<=k) (m+1) (D++[(id,p)])/\SK S W w'
theorem aah (h:oJ W base A S m D) (qJ:base<=W.heap.size) (hm5:m<5000) (id p:Int) (hid:∀q,(id,q)∉D):aO 56 #[ay A,aJ id,ag p] W (ao0 W base A S m D id p):=by
 obtain⟨Cb,bv,pv,lv,cv,bh,ch,al,pl,n,N,wk,hr,hw,hd,hm,hS,Ws,sG⟩:=h;have hty:∀k,pY A Cb bv pv lv cv k->∃cs t fr,W.heap[k]? =some (Obj.cells cs t fr)/\aag t=true:=BJ hr;have hz:=hw.nsz;by_cases hx:∃x∈(ch.map (·.2.1)).flatten,x.1=id
 .obtain⟨x,hx,hxi⟩:=hx;obtain⟨k,hk,gU⟩:=hw.sI x hx;have qG:(id,(k:Int))∈(ch.map (·.2.1)).flatten:=by rw[<-hxi,<-hk];exact hx
  have uH:al[k]? =some false:=by
   rw[dD gU];cases hb:al[k]with
   |false=>rfl
   |true=>
    obtain⟨q,hq,-⟩:=hd.val hw.tozo qG (by rw[dD gU,hb]);exact absurd hq (hid q)
  have vE:0<=n/\n<=100000:=by
   have h1:=hw.cnt;have h2:al.count true<=al.length:=Oy;have h3:=hw.bound;omega
  refine(JJ hr hw (by have:=hz.1;simp at this;omega) (fun l hl=>by have:=hz.2.2.1 l hl;omega) id p k qG uH vE).mono ?_;rintro e w' ⟨he,WM,hK⟩;have hK2:aC (pY A Cb bv pv lv cv) W w':=hK.mono fun k hk=>by
   rcases hk with h|h|h
   .exact .inl h
   .exact .inr (.inr (.inr (.inl h)))
   .exact .inr (.inr (.inr (.inr (.inl h))))
  exact⟨he,⟨Cb,bv,pv,lv,cv,bh,ch,_,_,_,N,wk,WM,adi hw k p id qG uH,hd.again hw.tozo qG uH,by simp;omega,fun k hk=>.inl (hS k hk),(fun h hh hn a ha=>.inl (Ws h hh hn a ha)),fun h hh hn a ha=>.inl (sG h hh hn a ha)⟩,⟨_,hK2,fun k hk=>⟨hS k hk,hty k hk⟩⟩⟩
 .have hno:∀x∈(ch.map (·.2.1)).flatten,x.1≠id:=fun x h1 h2=>hx ⟨x,h1,h2⟩;refine(QU hr qJ hw (by omega) id p hno).mono ?_;rintro e w' ⟨zP,CQ,vM,kW,bh',iP,uk,he,WM,hw',hP,VH,hK,sM,zL⟩;exact⟨he,⟨Cb,zP,CQ,vM,kW,bh',iP,_,_,_,_,uk,WM,hw',hd.put hw.tozo hno hP,by simp;omega,fun k hk=>(VH k hk).imp (hS k) (fun h=>h),Ws.nw sM,sG.nw zL⟩,⟨_,hK,fun k hk=>⟨hS k hk,hty k hk⟩⟩⟩
def ai7 (W:World) (base A:Nat) (S:Nat->Prop) (m:Nat) (D:List (Int×Int)) (id p:Int) (e:Ending) (w':World):Prop:=
 e=.returned (.tuple #[ag p,.bool true])/\oJ w' base A (fun k=>S k\/W.heap.size<=k) m (D.filter fun x=>decide (x.1≠id))/\SK S W w'
theorem VI (h:oJ W base A S m D) (qJ:base<=W.heap.size) (id p:Int) (hid:(id,p)∈D):aO 58 #[ay A,aJ id] W (ai7 W base A S m D id p):=by
 obtain⟨Cb,bv,pv,lv,cv,bh,ch,al,pl,n,N,wk,hr,hw,hd,hm,hS,Ws,sG⟩:=h;have hty:=BJ hr;obtain⟨k,h1,h2,h3⟩:=(hd.iff _ _).1 hid;have hD:=hd.drop hw.tozo h1 h2;refine(NF hr qJ hw id p k h1 h2 h3).mono ?_;rintro e w' ⟨zP,kW,bh',iP,N',uk,he,WM,hw',aeu,VH,hK,sM,zL⟩;exact⟨he,⟨Cb,zP,pv,lv,kW,bh',iP,_,_,_,N',uk,WM,hw',hD.turn aeu,by simpa using hm,fun k hk=>(VH k hk).imp (hS k) (fun h=>h),Ws.nw sM,sG.nw zL⟩,⟨_,hK,fun k hk=>⟨hS k hk,hty k hk⟩⟩⟩
end
end Go.Proofs.YtkjdbndekceffaaGreat
namespace Go.Proofs.YtkjdbndekceffaaGreat
open Go.RowKit Go.Sort Go.Shelf Go.Lib Go.Maps
attribute [local irreducible] wpQuiet
attribute [local go_sem] Oper.fM
structure NG (w:World) (Pb Hb Ab base:Nat) (av:Value) (GH SD:Nat->Prop) (m:Nat) (A:List eX) (D:List (Int×Int)) (ALL:List Pt) (N wk jF:Int):Prop where
 blk:w.heap[Pb]? =some (Obj.cells #[ay Hb,ay Ab,av,ag jF] F3 (0,0))
 row:w.ownsRow 0 29 3 av ALL.length (ALL.flatMap fH)
 half:kS w Hb GH m A N wk
 dir:oJ w base Ab SD m D
 hb:base<=w.heap.size
 few:ALL.length<=m
 fwd:∀id q,(id,q)∈D->∃(k:Nat) (c:eX),q=k/\c∈A/\ALL[k]? =some c.1/\c.1.2.2=id
 bwd:∀c∈A,∃q,(c.1.2.2,q)∈D
 uS:(∀k,GH k->¬SD k/\k≠Pb/\av.ownBlock≠some k/\k<w.heap.size)/\(∀k,SD k->k≠Pb/\av.ownBlock≠some k/\k<w.heap.size)/\av.ownBlock≠some Pb
def ji (w:World) (Pb:Nat) (G:Nat->Prop) (m:Nat) (now:List Pt) (N wk jF:Int):Prop:=
 ∃(Hb Ab base:Nat) (av:Value) (GH SD:Nat->Prop) (A:List eX) (D:List (Int×Int)) (ALL:List Pt),NG w Pb Hb Ab base av GH SD m A D ALL N wk jF/\A.map (·.1)=now/\∀k,GH k\/SD k\/k=Pb\/av.ownBlock=some k->G k
theorem kS.clip {w:World} {Hb m:Nat} {G:Nat->Prop} {A:List eX} {N wk:Int} (h:kS w Hb G m A N wk):kS w Hb (fun k=>G k/\k<w.heap.size) m A N wk:=by
 obtain⟨X,F,Cb,mb,cv,tv,av,lv,ch,T,al,eY,h1,h2,h3,h4,h5,h6,h7,h8,h9⟩:=h;exact⟨X,F,Cb,mb,cv,tv,av,lv,ch,T,al,eY,h1,h2,h3,h4,h5,h6,fun k hk=>⟨(h7 k hk).1,(h7 k hk).2,(h7 k hk).1⟩,fun i k hk=>⟨h8 i k hk,h4.lt i k hk⟩,h9⟩
section
variable {w w':World} {Pb Hb Ab base m:Nat} {av:Value} {G GH SD S:Nat->Prop} {A:List eX} {D:List (Int×Int)} {ALL now:List Pt} {N wk jF aev:Int}
theorem NG.kept (h:NG w Pb Hb Ab base av GH SD m A D ALL N wk jF) (K:aC S w w') (hS:∀k,GH k\/SD k\/k=Pb\/av.ownBlock=some k->¬S k):NG w' Pb Hb Ab base av GH SD m A D ALL N wk jF:=
 ⟨bL K h.blk (hS _ (.inr (.inr (.inl rfl)))),aY h.row K fun gb e=>hS _ (.inr (.inr (.inr e))),h.half.kept K fun k hk=>hS k (.inl hk),h.dir.kept K fun k hk=>hS k (.inr (.inl hk)),bO h.hb K.size,h.few,h.fwd,h.bwd,⟨fun k hk=>⟨(h.uS.1 k hk).1,(h.uS.1 k hk).2.1,(h.uS.1 k hk).2.2.1,bJ (h.uS.1 k hk).2.2.2 K.size⟩,fun k hk=>⟨(h.uS.2.1 k hk).1,(h.uS.2.1 k hk).2.1,bJ (h.uS.2.1 k hk).2.2 K.size⟩,h.uS.2.2⟩⟩
theorem NG.afL (h:NG w Pb Hb Ab base av GH SD m A D ALL N wk jF) (K:aC (fun k=>k=Pb) w w') (hb:w'.heap[Pb]? =some (Obj.cells #[ay Hb,ay Ab,av,ag aev] F3 (0,0))):NG w' Pb Hb Ab base av GH SD m A D ALL N wk aev:=
 ⟨hb,aY h.row K fun gb e h9=>h.uS.2.2 (by rw[e,h9]),h.half.kept K fun k hk=>(h.uS.1 k hk).2.1,h.dir.kept K fun k hk=>(h.uS.2.1 k hk).1,bO h.hb K.size,h.few,h.fwd,h.bwd,⟨fun k hk=>⟨(h.uS.1 k hk).1,(h.uS.1 k hk).2.1,(h.uS.1 k hk).2.2.1,bJ (h.uS.1 k hk).2.2.2 K.size⟩,fun k hk=>⟨(h.uS.2.1 k hk).1,(h.uS.2.1 k hk).2.1,bJ (h.uS.2.1 k hk).2.2 K.size⟩,h.uS.2.2⟩⟩
theorem ji.kept (h:ji w Pb G m now N wk jF) (K:aC S w w') (hS:∀k,G k->¬S k):ji w' Pb G m now N wk jF:=by
 obtain⟨Hb,Ab,base,av,GH,SD,A,D,ALL,h1,h2,h3⟩:=h;exact⟨Hb,Ab,base,av,GH,SD,A,D,ALL,h1.kept K fun k hk=>hS k (h3 k hk),h2,h3⟩
theorem ji.below (h:ji w Pb G m now N wk jF) (hb:Below w.heap.size w w'):ji w' Pb G m now N wk jF:=h.kept (S:=fun _=>False) ((aC.refl _ _).below hb) fun _ _ h=>h
theorem ji.facts (h:ji w Pb G m now N wk jF):(now.length:Int)<=N/\N<=2*now.length/\N<=m/\(ids now).Nodup/\(∀p∈now,KM p)/\0<=wk/\(∀L,m<2^L->wk<=(L*m:Nat))/\G Pb:=by
 obtain⟨Hb,Ab,base,av,GH,SD,A,D,ALL,h1,rfl,h3⟩:=h;obtain⟨f1,f2,f3,f4,f5,f6,f7,-⟩:=h1.half.facts;rw[cu];exact⟨f1,f2,f3,f4,fun p hp=>by obtain⟨c,hc,rfl⟩:=dY.1 hp;exact f5 c hc,f6,f7,h3 _ (.inr (.inr (.inl rfl)))⟩
theorem afM (w:World):aO 11 #[] w fun e w'=>∃Pb,e=.returned (ay Pb)/\ji w' Pb (fun k=>w.heap.size<=k/\k<w'.heap.size) 0 [] 0 0 0/\Below w.heap.size w w':=by
 have CH:=ae (aoC w);go_enter Tryz.func11,Tryz.ntmps11
 go_wp2_with fail
 refine CH.out.mono ?_;rintro e w1 ⟨rfl,hH,hb1⟩;have HH:=ae hH.clip;have fK:=ae hb1;have CD:=ae (awk w1);clear hH hb1 CH
 go_wp2_with fail
 refine CD.out.mono ?_;rintro e w2 ⟨rfl,hD,hb2⟩;have HD:=ae hD.clip;have fP:=ae hb2;clear hD hb2 CD;go_wp2;go_ret;have hs1:=fK.out.size;have hs2:=fP.out.size;have k3:aC (fun _=>False) w2 (w2.alloc (.cells #[ay (w.heap.size+2),ay (w1.heap.size+1),aN,ag 0] F3)):=(aC.refl _ w2).alloc _;have k12:aC (fun _=>False) w1 w2:=(aC.refl _ w1).below fP.out;have Xo:=HH.out.facts;refine⟨w2.heap.size,rfl,⟨w.heap.size+2,w1.heap.size+1,w1.heap.size,aN,_,_,[],[],[],⟨dE w2 _,dL _ _ _ _,(HH.out.kept k12 (fun _ _ h=>h)).kept k3 (fun _ _ h=>h),HD.out.kept k3 (fun _ _ h=>h),by simp;omega,bC _,fun _ _ h=>absurd h jC,fun _ h=>absurd h jC,⟨fun k hk=>⟨fun h9=>by have:=h9.1;have:=hk.2;omega,by have:=hk.2;omega,by simp[Value.ownBlock],by have:=hk.2;simp;omega⟩,fun k hk=>⟨by have:=hk.2;omega,by simp[Value.ownBlock],by have:=hk.2;simp;omega⟩,by simp[Value.ownBlock]⟩⟩,rfl,fun k hk=>?_⟩,?_⟩
 .rcases hk with hk|hk|hk|hk
  .exact⟨hk.1,by have:=hk.2;simp;omega⟩
  .exact⟨by have:=hk.1;omega,by have:=hk.2;simp;omega⟩
  .exact⟨by omega,by simp;omega⟩
  .cases hk
 .exact fK.out.trans ((fP.out.mono hs1).alloc (by omega) _)
theorem ao1 (h:ji w Pb G m now N wk jF):aO 14 #[ay Pb] w fun e w'=>e=.returned (ag now.length)/\w'=w:=by
 obtain⟨Hb,Ab,base,av,GH,SD,A,D,ALL,h1,rfl,h3⟩:=h;have CN:=ae (zI h1.blk);have CL:=ae (aoB h1.half);have c0:w.cell? (ah Pb 0)=some (ay Hb):=by simp[World.cell?,h1.blk]
 have hl:(A.map (·.1)).length=A.length:=cu _;rw[hl];clear h1 hl;go_enter Tryz.func14,Tryz.ntmps14
 go_wp2_with (first|(go_at_call 55;refine CN.out.mono ?_;rintro e w1 ⟨rfl,ew⟩;have kI:=ew.symm;clear ew;subst kI)|(refine CL.out.mono ?_;rintro e w1 ⟨rfl,ew⟩;have kI:=ew.symm;clear ew;subst kI))
 go_ret;exact⟨rfl,rfl⟩
end
end Go.Proofs.YtkjdbndekceffaaGreat
namespace Go.Proofs.YtkjdbndekceffaaGreat
open Go.RowKit Go.Sort Go.Shelf Go.Lib Go.Maps
attribute [local irreducible] wpQuiet
def fT (B:List (Nat×Nat×List Pt)) (i:Nat):List Pt:=(B[i]?.getD (0,0,[])).2.2
def j5 (B:List (Nat×Nat×List Pt)) (i:Nat):Nat:=(B[i]?.getD (0,0,[])).2.1
theorem QX {α β:Type} (B:List α) (d:α) (g:α->List β):(List.range B.length).flatMap (fun i=>g (B[i]?.getD d))=B.flatMap g:=by
 rw[DT,DT];congr 1;refine tO (by simp) fun i h1 h2=>?_;rw[cu]at h2;rw[fZ,fZ,zW,dD h2,fV]
theorem Ii (B:List (Nat×Nat×List Pt)) {β:Type} (g:List Pt->List β):(List.range B.length).flatMap (fun i=>g (fT B i))=B.flatMap fun b=>g b.2.2:=QX B (0,0,[]) fun b=>g b.2.2
theorem Ij {α β:Type} {g h:α->List β}:∀(l:List α),(∀a,(g a).Perm (h a))->(l.flatMap g).Perm (l.flatMap h)
 |[],_=>.refl _
 |a::l,H=>by
  rw[oP,oP];exact(H a).append (Ij l H)
theorem QY {B:List (Nat×Nat×List Pt)} {now:List Pt} (hp:(CK B).Perm now) (f:Pt->Bool):gu ((List.range B.length).flatMap fun i=>gu (ids ((fT B i).filter f)))=gu (ids (now.filter f)):=by
 rw[Ii B fun l=>gu (ids (l.filter f))];refine Ry (uE _) ((sP _ _).trans ?_);have h1:(ids ((CK B).filter f)).Perm (ids (now.filter f)):=(hp.filter f).map _;refine h1.symm.trans ?_;unfold CK ids;rw[List.filter_flatMap,List.map_flatMap];exact Ij B fun b=>(sP _ _).symm
theorem SumB.two {bd:Nat->Nat->Prop} {r:Nat->Nat} {b:Nat} (hb:∀i t,bd i t->r i<=t/\t<=2*r i+b):∀{i n:Nat},SumB bd i n->((List.range i).map r).sum<=n/\n<=2*((List.range i).map r).sum+i*b
 |0,n,hn=>by simp[SumB]at hn;subst hn;simp
 |i+1,n,hn=>by
  obtain⟨n',t,h1,h2,rfl⟩:=hn;have h3:=SumB.two hb h1;have h4:=hb i t h2;have e:([i].map r).sum=r i:=by simp
  rw[Ai,dh,DV,e,tX i 1 b];omega
def Ik (N:Int) (L jX:Nat):Prop:=L<=jX/\∀K:Nat,N<((2^K:Nat):Int)->jX<=2*L+K*(8*K+1)
theorem bitLen_le {n K:Nat} (h:n<2^K) (hn:n<=20000):Lib.bitLen n<=K:=by
 by_cases h0:n=0
 .subst h0;exact bC _
 .obtain⟨h1,h2,h3⟩:=bS n (by omega) h0;have h4:Lib.bitLen n-1<K:=(Ot (by decide:1<2)).1 (tq h2 h);omega
section
variable {w w1:World} {Pb m:Nat} {G GH:Nat->Prop} {now:List Pt} {A:List eX} {N wk jF:Int} {B:List (Nat×Nat×List Pt)} {F:Nat->Nat->Prop}
theorem Kb.cost (T:Kb w w1 GH A N B F) {r:Nat->Nat} {bd:Nat->Nat->Prop} (hb:∀i t,bd i t->r i<=t/\t<=2*r i+(8*Lib.bitLen (j5 B i)+1)) {n:Nat} (hs:SumB bd B.length n):Ik N ((List.range B.length).map r).sum n:=by
 have nJ:∀i,j5 B i<=20000/\∀K:Nat,N<((2^K:Nat):Int)->j5 B i<2^K:=fun i=>by
  unfold j5;by_cases hi:i<B.length
  .rw[dD hi];have h1:=T.built _ (bW hi);refine⟨h1.2,fun K hK=>?_⟩;simp only[fV];omega
  .rw[p9 (by omega)];exact⟨bC _,fun K _=>xx (by decide)⟩
 refine⟨(SumB.two (r:=r) (b:=2000) (fun i t h=>?_) hs).1,fun K hK=>?_⟩
 .have h1:=hb i t h;have h2:Lib.bitLen (j5 B i)<=15:=bitLen_le (tq (nJ i).1 (by decide)) (nJ i).1;omega
 .have h1:=(SumB.two (r:=r) (b:=8*K+1) (fun i t h=>by
   have h1:=hb i t h;have h2:=bitLen_le ((nJ i).2 K hK) (nJ i).1;omega) hs).2
  have h2:B.length<=K:=by
   by_cases h0:B.length=0
   .omega
   .have h3:=T.log h0;have h4:((2:Int)^(B.length-1))=((2^(B.length-1):Nat):Int):=by simp
    rw[h4]at h3;have h5:(2:Nat)^(B.length-1)<2^K:=by omega
    have h6:=(Ot (by decide:1<2)).1 h5;omega
  have h3:=qM (8*K+1) h2;omega
def Il (w:World) (Pb:Nat) (G:Nat->Prop) (m:Nat) (now:List Pt) (N wk jF:Int) (L:List Int) (e:Ending) (w':World):Prop:=
 ∃(v:Value) (jX:Nat),e=.returned (.tuple #[v,ag jX])/\w'.ownsRow w.heap.size 27 1 v L.length (L.map (Value.int .u32))/\Ik N L.length jX/\aC (fun k=>k=Pb) w w'/\ji w' Pb G m now N wk (wrap64 (jF+jX))
theorem zH.at (W:zH w G F B) {i:Nat} (hi:i<B.length):Bk w (F i) B[i].1 (j5 B i) (fT B i):=by
 have h:=W.bk i hi;unfold j5 fT;rwa [dD hi]
theorem zH.few (W:zH w G F B) (f:Pt->Bool) (i:Nat):((fT B i).filter f).length<=20000:=by
 refine bO (gG _ _) ?_;by_cases hi:i<B.length
 .obtain⟨lo,m0,m1,m2,m3,m4,hi',bx,cn,hp,lw,ob,tl,sv,dn,h⟩:=W.at hi;have:=h.box.Qi;omega
 .unfold fT;rw[p9 (by omega)];simp
theorem zH.wfl (hp:(CK B).Perm (A.map (·.1))) (hA:∀c∈A,KM c.1) (i:Nat):wfL (fT B i):=fun p We=>by
 have h1:p∈CK B:=by
  unfold fT at We;by_cases hi:i<B.length
  .rw[dD hi]at We;exact IX.2 ⟨_,bW hi,We⟩
  .rw[p9 (by omega)]at We;simp at We
 obtain⟨c,hc,rfl⟩:=dY.1 (hp.mem_iff.1 h1);exact hA c hc
theorem QZ {fn:FuncId} {cs:Array Value} (f:Pt->Bool) (ef:∀args w,(callFunc fn args).run Tryz.prog w=.ok (.enter fn args) w) (h:ji w Pb G m now N wk jF)
  (ask:∀(u:World) (F:Nat->Prop) (tb n0:Nat) (l:List Pt),Below w.heap.size w u->Bk u F tb n0 l->wfL l->aO fn (#[ay tb]++cs) u fun e u'=>∃(v:Value) (t:Nat),e=.returned (.tuple #[v,ag t])/\((gu (ids (l.filter f))).length<=t/\t<=2*(gu (ids (l.filter f))).length+(8*Lib.bitLen n0+1))/\u'.ownsRow u.heap.size 27 1 v (gu (ids (l.filter f))).length ((gu (ids (l.filter f))).map (Value.int .u32))/\Below u.heap.size u u'):
  aO 65 #[ay Pb,.func (.func fn) #[] cs] w (Il w Pb G m now N wk jF (gu (ids (now.filter f)))):=by
 obtain⟨Hb,Ab,base,av,GH,SD,A,D,ALL,h1,rfl,h3⟩:=h;have hA:=h1.half.facts.2.2.2.2.1;refine(aen (Q:=fun L n=>L=gu (ids ((A.map (·.1)).filter f))/\Ik N L.length n) ef h1.blk h1.half (fun k hk=>(h1.uS.1 k hk).2.2.2) ?_).mono ?_
 .intro w1 B F T;have hlen:∀i,(gu (ids ((fT B i).filter f))).length=((fT B i).filter f).length:=fun i=>by rw[jK];exact cu _
  have Z7:=fun i=>T.wd.few f i;refine⟨fun i=>gu (ids ((fT B i).filter f)),fun i t=>(gu (ids ((fT B i).filter f))).length<=t/\t<=2*(gu (ids ((fT B i).filter f))).length+(8*Lib.bitLen (j5 B i)+1)/\j5 B i<=20000,fun i t ht=>?_,fun i=>by rw[hlen];exact Z7 i,fun i hi u hb hW=>?_,fun n hs=>⟨QY T.perm f,?_⟩⟩
  .have h4:=Z7 i
   replace ht:(gu (ids ((fT B i).filter f))).length<=t/\t<=2*(gu (ids ((fT B i).filter f))).length+(8*Lib.bitLen (j5 B i)+1)/\j5 B i<=20000:=ht
   have h5:Lib.bitLen (j5 B i)<=15:=bitLen_le (tq ht.2.2 (by decide)) ht.2.2;rw[hlen]at ht;omega
  .refine(ask u (F i) B[i].1 (j5 B i) (fT B i) hb (hW.at hi) (zH.wfl T.perm hA i)).mono ?_;rintro e u' ⟨v,t,rfl,ht,ho,hb'⟩;refine⟨v,t,rfl,⟨ht.1,ht.2,?_⟩,ho,hb'⟩;unfold j5;rw[dD hi];exact(T.built _ (bW hi)).2
  .have h4:=T.cost (r:=fun i=>(gu (ids ((fT B i).filter f))).length) (fun i t ht=>⟨ht.1,ht.2.1⟩) hs;have h5:(gu ((List.range B.length).flatMap fun i=>gu (ids ((fT B i).filter f)))).length=((List.range B.length).map fun i=>(gu (ids ((fT B i).filter f))).length).sum:=by rw[jK,List.length_flatMap]
   rw[h5];exact h4
 .rintro e w' ⟨v,L,jX,rfl,ho,⟨rfl,hc⟩,K,hb⟩;exact⟨v,jX,rfl,ho,hc,K,Hb,Ab,base,av,GH,SD,A,D,ALL,h1.afL K hb,rfl,h3⟩
def aew (x y way:Int) (p:Pt):Bool:=decide (way<=3)&&Fq x y (decide (way%2=1)) (decide (2<=way)) p
theorem Ki (l:List Pt) (x y way:Int):GG l x y way=gu (ids (l.filter (aew x y way))):=by
 unfold GG aew;by_cases hw:way<=3
 .simp only[hw,gV,decide_true,Bool.true_and];rfl
 .simp only[hw,jU,decide_false,Bool.false_and];rw[zR.2 (by simp)];exact YV.symm
theorem NH (h:ji w Pb G m now N wk jF) (x1 x2 y1 y2 bi:Int):aO 17 #[ay Pb,.agg #[ag x1,ag x2,ag y1,ag y2,aJ bi]] w (Il w Pb G m now N wk jF (gu (ids (now.filter (Px x1 x2 y1 y2))))):=by
 have bw:Below w.heap.size w (w.alloc (.cells #[ag x1,ag x2,ag y1,ag y2,aJ bi] 38)):=(aM _ _).alloc (aG _) _;have sz:(w.alloc (.cells #[ag x1,ag x2,ag y1,ag y2,aJ bi] 38)).heap.size=w.heap.size+1:=by simp
 have o0:(w.alloc (.cells #[ag x1,ag x2,ag y1,ag y2,aJ bi] 38)).heap[w.heap.size]? =some (Obj.cells #[ag x1,ag x2,ag y1,ag y2,aJ bi] 38 (0,0)):=by
  have q:=dE w (.cells #[ag x1,ag x2,ag y1,ag y2,aJ bi] 38);have e:w.heap.size=w.heap.size:=by simp
  rw[e]at q;exact q
 have CC:=ae (QZ (fn:=66) (cs:=#[ay w.heap.size]) (Px x1 x2 y1 y2) Nz (h.below bw) fun u F tb n0 l hb hB hl=>by
  have p0:=(bI hb o0).trans o0;refine(VC hB x1 x2 y1 y2 bi (by simp only[World.cell?,p0];rfl) (by simp only[World.cell?,p0];rfl) (by simp only[World.cell?,p0];rfl) (by simp only[World.cell?,p0];rfl) (by simp only[World.cell?,p0];rfl)).mono ?_;rintro e u' ⟨v,t,rfl,⟨c,rfl,hc⟩,ho,Mh⟩;exact⟨v,_,rfl,⟨Nat.le_add_left _ _,by unfold hasB at*;omega⟩,ho,Mh⟩)
 have KW:aC (fun k=>k=Pb) w (w.alloc (.cells #[ag x1,ag x2,ag y1,ag y2,aJ bi] 38)):=(aC.refl _ w).alloc _;have KW:=ae KW;have hsz:=ae sz;clear o0 bw sz h;go_enter Tryz.func17,Tryz.ntmps17
 go_wp2_with fail
 refine CC.out.mono ?_;rintro e w9 ⟨v,jX,rfl,ho,hc,K,hP⟩;have HO:=ae ho;have HP:=ae hP;have HK:=ae K;have HC:=ae hc;clear ho hP K hc CC;go_wp2;go_ret2;exact⟨v,jX,rfl,kR HO.out (by rw[hsz.out];omega),HC.out,KW.out.trans HK.out,HP.out⟩
theorem aex (h:ji w Pb G m now N wk jF) (x1 x2 y:Int):aO 19 #[ay Pb,ag x1,ag x2,ag y] w (Il w Pb G m now N wk jF (gu (ids (now.filter (Wq x1 x2 y))))):=by
 have bw:Below w.heap.size w (((w.alloc (.cells #[ag x1] 2)).alloc (.cells #[ag x2] 2)).alloc (.cells #[ag y] 2)):=(((aM _ _).alloc (aG _) _).alloc (by simp) _).alloc (by simp;omega) _;have sz:(((w.alloc (.cells #[ag x1] 2)).alloc (.cells #[ag x2] 2)).alloc (.cells #[ag y] 2)).heap.size=w.heap.size+3:=by simp
 have o0:(((w.alloc (.cells #[ag x1] 2)).alloc (.cells #[ag x2] 2)).alloc (.cells #[ag y] 2)).heap[w.heap.size]? =some (Obj.cells #[ag x1] 2 (0,0)):=by
  have q:=dE w (.cells #[ag x1] 2);have e:w.heap.size=w.heap.size:=by simp
  rw[e]at q;exact(dB _ _ _ (by simp;try omega)).trans ((dB _ _ _ (by simp;try omega)).trans (q))
 have o1:(((w.alloc (.cells #[ag x1] 2)).alloc (.cells #[ag x2] 2)).alloc (.cells #[ag y] 2)).heap[w.heap.size+1]? =some (Obj.cells #[ag x2] 2 (0,0)):=by
  have q:=dE (w.alloc (.cells #[ag x1] 2)) (.cells #[ag x2] 2);have e:(w.alloc (.cells #[ag x1] 2)).heap.size=w.heap.size+1:=by simp
  rw[e]at q;exact(dB _ _ _ (by simp;try omega)).trans (q)
 have o2:(((w.alloc (.cells #[ag x1] 2)).alloc (.cells #[ag x2] 2)).alloc (.cells #[ag y] 2)).heap[w.heap.size+2]? =some (Obj.cells #[ag y] 2 (0,0)):=by
  have q:=dE ((w.alloc (.cells #[ag x1] 2)).alloc (.cells #[ag x2] 2)) (.cells #[ag y] 2);have e:((w.alloc (.cells #[ag x1] 2)).alloc (.cells #[ag x2] 2)).heap.size=w.heap.size+2:=by simp
  rw[e]at q;exact q
 have CC:=ae (QZ (fn:=68) (cs:=#[ay w.heap.size,ay (w.heap.size+1),ay (w.heap.size+2)]) (Wq x1 x2 y) QT (h.below bw) fun u F tb n0 l hb hB hl=>by
  have p0:=(bI hb o0).trans o0;have p1:=(bI hb o1).trans o1;have p2:=(bI hb o2).trans o2;refine(aae hB x1 x2 y (by simp only[World.cell?,p0];rfl) (by simp only[World.cell?,p1];rfl) (by simp only[World.cell?,p2];rfl)).mono ?_;rintro e u' ⟨v,t,rfl,⟨hc1,hc2⟩,ho,Mh⟩;exact⟨v,t,rfl,⟨hc1,bO hc2 (by unfold Sr vX;omega)⟩,ho,Mh⟩)
 have KW:aC (fun k=>k=Pb) w (((w.alloc (.cells #[ag x1] 2)).alloc (.cells #[ag x2] 2)).alloc (.cells #[ag y] 2)):=(((aC.refl _ w).alloc _).alloc _).alloc _;have KW:=ae KW;have hsz:=ae sz;clear o0 o1 o2 bw sz h;go_enter Tryz.func19,Tryz.ntmps19
 go_wp2_with fail
 refine CC.out.mono ?_;rintro e w9 ⟨v,jX,rfl,ho,hc,K,hP⟩;have HO:=ae ho;have HP:=ae hP;have HK:=ae K;have HC:=ae hc;clear ho hP K hc CC;go_wp2;go_ret2;exact⟨v,jX,rfl,kR HO.out (by rw[hsz.out];omega),HC.out,KW.out.trans HK.out,HP.out⟩
theorem aai (h:ji w Pb G m now N wk jF) (x y way:Int) (h0:0<=way):aO 18 #[ay Pb,ag x,ag y,.int .u8 way] w (Il w Pb G m now N wk jF (gu (ids (now.filter (aew x y way))))):=by
 have bw:Below w.heap.size w (((w.alloc (.cells #[ag x] 2)).alloc (.cells #[ag y] 2)).alloc (.cells #[.int .u8 way] 5)):=(((aM _ _).alloc (aG _) _).alloc (by simp) _).alloc (by simp;omega) _;have sz:(((w.alloc (.cells #[ag x] 2)).alloc (.cells #[ag y] 2)).alloc (.cells #[.int .u8 way] 5)).heap.size=w.heap.size+3:=by simp
 have o0:(((w.alloc (.cells #[ag x] 2)).alloc (.cells #[ag y] 2)).alloc (.cells #[.int .u8 way] 5)).heap[w.heap.size]? =some (Obj.cells #[ag x] 2 (0,0)):=by
  have q:=dE w (.cells #[ag x] 2);have e:w.heap.size=w.heap.size:=by simp
  rw[e]at q;exact(dB _ _ _ (by simp;try omega)).trans ((dB _ _ _ (by simp;try omega)).trans (q))
 have o1:(((w.alloc (.cells #[ag x] 2)).alloc (.cells #[ag y] 2)).alloc (.cells #[.int .u8 way] 5)).heap[w.heap.size+1]? =some (Obj.cells #[ag y] 2 (0,0)):=by
  have q:=dE (w.alloc (.cells #[ag x] 2)) (.cells #[ag y] 2);have e:(w.alloc (.cells #[ag x] 2)).heap.size=w.heap.size+1:=by simp
  rw[e]at q;exact(dB _ _ _ (by simp;try omega)).trans (q)
 have o2:(((w.alloc (.cells #[ag x] 2)).alloc (.cells #[ag y] 2)).alloc (.cells #[.int .u8 way] 5)).heap[w.heap.size+2]? =some (Obj.cells #[.int .u8 way] 5 (0,0)):=by
  have q:=dE ((w.alloc (.cells #[ag x] 2)).alloc (.cells #[ag y] 2)) (.cells #[.int .u8 way] 5);have e:((w.alloc (.cells #[ag x] 2)).alloc (.cells #[ag y] 2)).heap.size=w.heap.size+2:=by simp
  rw[e]at q;exact q
 have CC:=ae (QZ (fn:=67) (cs:=#[ay w.heap.size,ay (w.heap.size+1),ay (w.heap.size+2)]) (aew x y way) NC (h.below bw) fun u F tb n0 l hb hB hl=>by
  have p0:=(bI hb o0).trans o0;have p1:=(bI hb o1).trans o1;have p2:=(bI hb o2).trans o2;refine(VD hB x y way hl h0 (by simp only[World.cell?,p0];rfl) (by simp only[World.cell?,p1];rfl) (by simp only[World.cell?,p2];rfl)).mono ?_;rw[Ki];rintro e u' ⟨v,t,rfl,⟨c,rfl,hc⟩,ho,Mh⟩;exact⟨v,_,rfl,⟨Nat.le_add_left _ _,by omega⟩,ho,Mh⟩)
 have KW:aC (fun k=>k=Pb) w (((w.alloc (.cells #[ag x] 2)).alloc (.cells #[ag y] 2)).alloc (.cells #[.int .u8 way] 5)):=(((aC.refl _ w).alloc _).alloc _).alloc _;have KW:=ae KW;have hsz:=ae sz;clear o0 o1 o2 bw sz h;go_enter Tryz.func18,Tryz.ntmps18
 go_wp2_with fail
 refine CC.out.mono ?_;rintro e w9 ⟨v,jX,rfl,ho,hc,K,hP⟩;have HO:=ae ho;have HP:=ae hP;have HK:=ae K;have HC:=ae hc;clear ho hP K hc CC;go_wp2;go_ret2;exact⟨v,jX,rfl,kR HO.out (by rw[hsz.out];omega),HC.out,KW.out.trans HK.out,HP.out⟩
end
end Go.Proofs.YtkjdbndekceffaaGreat
