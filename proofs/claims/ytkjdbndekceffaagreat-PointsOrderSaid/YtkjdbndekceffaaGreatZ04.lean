/- Made small by a program. -/
import Derived.Test.YtkjdbndekceffaaGreatZ03
set_option linter.unusedSimpArgs false
set_option linter.unusedVariables false
set_option maxRecDepth 100000
set_option maxHeartbeats 16000000
namespace Go.Proofs.YtkjdbndekceffaaGreat
open Tryz
section
open Go.RowKit Go.Maps
abbrev gp (α:Type):=Option Addr×List α×Nat
def dR {α:Type} (h:gp α):Value:=.slice h.1 h.2.1.length h.2.2
theorem aS {W W':World} (h:Below W.heap.size W W') {b:Nat} {o:Obj} (a:W.heap[b]? =some o):W'.heap[b]? =W.heap[b]? :=h.block b (aZ.1 a).1
section
variable {α:Type} {enc:α->List Value} {sz:Nat} {te ts tc:TypeId}
def Lv (enc:α->List Value) (sz:Nat) (te:TypeId) (W:World) (a:Option Addr) (l:List α):Prop:=
 l=[]\/∃b off cur fr,a=some (ae b off)/\W.heap[b]? =some (Obj.cells cur te fr)/\∀i (h:i<l.length),∀j,j<sz->cur[off+i*sz+j]? =(enc l[i])[j]?
theorem Lv.Nu {W:World} {a:Option Addr} {l:List α} (h:Lv enc sz te W a l):bQ enc sz W a l:=by
 rcases h with h|⟨b,off,f,fr,rfl,c,d⟩
 .exact .inl h
 .refine .inr ⟨b,off,rfl,(aZ.1 c).1,fun i hi j e=>?_⟩;have:=d i hi j e;simp only[World.cell?,c];simpa using this
theorem Lv.aI (d:∀p,(enc p).length=sz) (m:0<sz) {W:World} {base:Nat} {v:Value} {n:Nat} {l:List α} (h:W.ownsRow base te sz v n (l.flatMap enc)):∃a c,v=.slice a l.length c/\n=l.length/\l.length<=c/\Lv enc sz te W a l:=by
 have⟨e,h⟩:=h;rw[gm d]at e;obtain rfl:n=l.length:=Nat.eq_of_mul_eq_mul_right m e.symm;rcases h with⟨rfl,s⟩|⟨g,f,k,rfl,t,q,o,u,w,ht⟩
 .obtain rfl:l=[]:=gX s;exact⟨none,0,rfl,rfl,aB _,.inl rfl⟩
 .refine⟨_,f,rfl,rfl,o,.inr ⟨g,0,k,_,rfl,q,fun i hi j r=>?_⟩⟩;have b:=flat_get d l i hi j r;rw[<-ht,uI,aN (by have:=o8 sz (Nat.succ_le_of_lt hi);rw[Nat.succ_mul]at this;omega)]at b;simpa using b
theorem Lv.kept {W W':World} {a:Option Addr} {l:List α} (h:Lv enc sz te W a l) (f:∀(b:Nat) c fr,W.heap[b]? =some (Obj.cells c te fr)->W'.heap[b]? =W.heap[b]?):Lv enc sz te W' a l:=by
 rcases h with h|⟨b,off,c,fr,rfl,d,e⟩
 .exact .inl h
 .exact .inr ⟨b,off,c,fr,rfl,(f b c fr d).trans d,e⟩
def oM (enc:α->List Value) (sz:Nat) (te:TypeId) (W:World) (hs:List (gp α)):Prop:=∀h∈hs,Lv enc sz te W h.1 h.2.1/\h.2.1.length<=h.2.2
theorem oM.kept {W W':World} {a:List (gp α)} (h:oM enc sz te W a) (d:∀(b:Nat) cur fr,W.heap[b]? =some (Obj.cells cur te fr)->W'.heap[b]? =W.heap[b]?):oM enc sz te W' a:=fun x c=>⟨(h x c).1.kept d,(h x c).2⟩
abbrev fG {α:Type}:gp α:=(none,[],0)
def Nw {α:Type} (n:Nat) (ch qP:List (gp α)):Prop:=∀h∈qP,h∈ch\/∀a,h.1=some a->n<=a.block
theorem Nw.refl {n:Nat} {ch:List (gp α)}:Nw n ch ch:=fun h a=>.inl a
theorem Nw.Sw {n k:Nat} {ch:List (gp α)}:Nw n ch (List.replicate k fG):=fun h c=>.inr fun a b=>by rw[(Al.1 c).2]at b;cases b
theorem Nw.trans {n m:Nat} {b c d:List (gp α)} (e:Nw n b c) (f:Nw m c d) (k:n<=m):Nw n b d:=fun h j=>by
 rcases f h j with g|g
 .exact e h g
 .exact .inr fun a i=>bD k (g a i)
theorem Nw.nil {n m:Nat} {c b:List (gp α)} (h:Nw m [] b) (e:n<=m):Nw n c b:=fun x f=>by
 rcases h x f with i|g
 .cases i
 .exact .inr fun a d=>bD e (g a d)
theorem Nw.set {n:Nat} {b c:List (gp α)} (d:Nw n b c) {k:Nat} {hd:gp α} (e:∀a,hd.1=some a->n<=a.block):Nw n b (c.set k hd):=fun h g=>by
 rcases D7 g with f|rfl
 .exact d h f
 .exact .inr e
theorem Nw.snoc {n:Nat} {b c:List (gp α)} (d:Nw n b c) {hd:gp α} (e:∀a,hd.1=some a->n<=a.block):Nw n b (c++[hd]):=fun h f=>by
 rcases bP.1 f with h9|h9
 .exact d h h9
 .obtain rfl:h=hd:=aP h9;exact .inr e
structure ik (tc ts te:TypeId) (W:World) (base Cb:Nat) (cv:Value) (ch:List (gp α)) (N wk:Int):Prop where
 hb:base<=Cb
 ds:ts≠tc/\tc≠te/\ts≠te
 blk:W.heap[Cb]? =some (Obj.cells #[.bool true,cv,af N,af wk] tc (0,0))
 row:W.ownsRow base ts 1 cv ch.length (ch.map dR)
theorem ik.cell {W:World} {base Cb:Nat} {cv:Value} {ch:List (gp α)} {N wk:Int} (h:ik tc ts te W base Cb cv ch N wk):
  W.cell? (ae Cb 0)=some (.bool true)/\W.cell? (ae Cb 1)=some cv/\W.cell? (ae Cb 2)=some (af N)/\W.cell? (ae Cb 3)=some (af wk):=by
 have:=h.blk;refine⟨?_,?_,?_,?_⟩<;>simp[World.cell?,this]
theorem ik.frozen {W:World} {base Cb:Nat} {cv:Value} {ch:List (gp α)} {N wk:Int} (h:ik tc ts te W base Cb cv ch N wk) (j:Nat):W.frozen? (ae Cb j)=false:=by
 have:=h.blk;simp[World.frozen?,this]
theorem ik.lt {W:World} {base Cb:Nat} {cv:Value} {ch:List (gp α)} {N wk:Int} (h:ik tc ts te W base Cb cv ch N wk):Cb<W.heap.size:=(aZ.1 h.blk).1
theorem ik.ne {W:World} {base Cb:Nat} {cv:Value} {ch:List (gp α)} {N wk:Int} (h:ik tc ts te W base Cb cv ch N wk):cv.ownBlock≠some Cb:=by
 intro e;rcases h.row.2 with⟨rfl,_⟩|⟨g,b,c,rfl,_,a,_⟩
 .cases e
 .simp only[Value.ownBlock,ji]at e;subst e;rw[h.blk]at a;injection a with a;injection a with _ a _;exact h.ds.1 a.symm
theorem ik.grown {W W':World} {base Cb:Nat} {cv:Value} {ch:List (gp α)} {N wk:Int} {r:Option Nat} (h:ik tc ts te W base Cb cv ch N wk) (a:W.grownBy W' r) (b:r≠some Cb) (c:cv.ownBlock=none\/cv.ownBlock≠r):ik tc ts te W' base Cb cv ch N wk:=
 ⟨h.hb,h.ds,(a.block Cb h.lt (fun e=>b e.symm)).trans h.blk,h.row.kept a c⟩
theorem ik.below {W W':World} {base Cb:Nat} {cv:Value} {ch:List (gp α)} {N wk:Int} (h:ik tc ts te W base Cb cv ch N wk) (hb:Below W.heap.size W W'):ik tc ts te W' base Cb cv ch N wk:=
 h.grown (bN hb) aA (by cases a:cv.ownBlock<;>simp)
theorem ik.drew {W:World} {base Cb:Nat} {cv:Value} {ch:List (gp α)} {N wk:Int} (h:ik tc ts te W base Cb cv ch N wk):ik tc ts te W.drew base Cb cv ch N wk:=⟨h.hb,h.ds,h.blk,h.row⟩
theorem ik.Lx {W:World} {base Cb g a n:Nat} {ch:List (gp α)} {N wk:Int} (h:ik tc ts te W base Cb (au g n a) ch N wk) (c:n=ch.length) (k:Nat) (x:gp α):ik tc ts te (W.setCell (ae g k) (dR x)) base Cb (au g n a) (ch.set k x) N wk:=by
 subst c;have b:=h.row.stored k (dR x);have d:=h.ne;refine⟨h.hb,h.ds,(aC (fun e=>d (by simp only[Value.ownBlock];exact congrArg some e))).trans h.blk,?_⟩;rw[kK,kI];exact b.1
theorem ik.Be {W:World} {base Cb:Nat} {cv:Value} {ch:List (gp α)} {N wk:Int} (h:ik tc ts te W base Cb cv ch N wk) (a:Int):ik tc ts te (W.setCell (ae Cb 2) (.int .i64 a)) base Cb cv ch a wk:=by
 refine⟨h.hb,h.ds,?_,aY h.row fun c e=>aC fun b=>h.ne (by rw[e,<-b])⟩;rw[dC W Cb 2 _ _ _ h.blk];rfl
theorem ik.Qt {W:World} {base Cb:Nat} {cv:Value} {ch:List (gp α)} {N wk:Int} (h:ik tc ts te W base Cb cv ch N wk) (a:Int):ik tc ts te (W.setCell (ae Cb 3) (.int .i64 a)) base Cb cv ch N a:=by
 refine⟨h.hb,h.ds,?_,aY h.row fun c e=>aC fun b=>h.ne (by rw[e,<-b])⟩;rw[dC W Cb 3 _ _ _ h.blk];rfl
theorem ik.LA {W:World} {base Cb:Nat} {cv a:Value} {ch b:List (gp α)} {N wk:Int} (h:W.heap[Cb]? =some (Obj.cells #[.bool true,cv,af N,af wk] tc (0,0))) (hb:base<=Cb) (d:ts≠tc/\tc≠te/\ts≠te) (g:W.ownsRow base ts 1 a b.length (b.map dR)) (f:a.ownBlock≠some Cb):ik tc ts te (W.setCell (ae Cb 1) a) base Cb a b N wk:=by
 refine⟨hb,d,?_,aY g fun i e=>aC fun c=>f (by rw[e,<-c])⟩;rw[dC W Cb 1 _ _ _ h];rfl
theorem ik.eX {W W':World} {base Cb:Nat} {cv:Value} {ch:List (gp α)} {N wk:Int} (h:ik tc ts te W base Cb cv ch N wk) {a:Option Nat} (hS:a=cv.ownBlock) (K:ax (fun k=>k=Cb\/a=some k) W W'):
  ∀(b:Nat) c fr,W.heap[b]? =some (Obj.cells c te fr)->W'.heap[b]? =W.heap[b]? :=by
 intro b c fr hb;refine K.block b (aZ.1 hb).1 ?_;rintro(rfl|e)
 .rw[h.blk]at hb;injection hb with hb;injection hb with _ hb _;exact h.ds.2.1 hb
 .rw[hS]at e;rcases h.row.2 with⟨rfl,_⟩|⟨g,f,i,rfl,_,d,_⟩
  .cases e
  .simp only[Value.ownBlock,ji]at e;subst e;rw[d]at hb;injection hb with hb;injection hb with _ hb _;exact h.ds.2.2 hb
def eG (CB:List (List α)) (i:Nat):List α:=(CB.take i).reverse.flatten
def ko (CB:List (List α)) (i:Nat) (x:α):List (List α):=List.replicate i []++(eG CB i++[x])::CB.drop (i+1)
def Uh (tc ts te:TypeId) (enc:α->List Value) (sz:Nat) (W:World) (base Cb:Nat) (cv:Value) (ch:List (gp α)) (x:α) (N wk:Int) (e:Ending) (w':World):Prop:=
 ∃(i:Nat) (v Cz:Value) (qP:List (gp α)) (Kj:Int),e=.returned (.tuple #[af i,v])/\i<=ch.length/\(∀j (hj:j<ch.length),j<i->ch[j].2.1≠[])/\(∀hi:i<ch.length,ch[i].2.1=[])/\
  ik tc ts te w' base Cb Cz qP (N+1) Kj/\(oM enc sz te w' qP/\∀W2:World,(∀(b:Nat) cur fr,w'.heap[b]? =some (Obj.cells cur te fr)->v.ownBlock≠some b->W2.heap[b]? =w'.heap[b]?)->oM enc sz te W2 qP)/\qP.map (·.2.1)=ko (ch.map (·.2.1)) i x/\
  w'.ownsRow W.heap.size te sz v (eG (ch.map (·.2.1)) i++[x]).length ((eG (ch.map (·.2.1)) i++[x]).flatMap enc)/\
  (Cz.ownBlock=cv.ownBlock\/∃b,Cz.ownBlock=some b/\W.heap.size<=b)/\ax (fun k=>k=Cb\/cv.ownBlock=some k) W w'/\Nw W.heap.size ch qP/\Kj=wrap64 (wk+((eG (ch.map (·.2.1)) i).length+1:Int))
def ug (ch1:List (gp α)) (i k:Nat):List (gp α):=ch1.take k++(List.replicate (i-k) fG++ch1.drop i)
theorem iK {ch1:List (gp α)} {i k:Nat} (a:k<=i) (hi:i<=ch1.length):(ug ch1 i k).length=ch1.length:=by simp[ug];omega
theorem Kk {ch1:List (gp α)} {i:Nat}:ug ch1 i i=ch1:=by simp[ug]
theorem FX {ch1:List (gp α)} {i:Nat}:ug ch1 i 0=List.replicate i fG++ch1.drop i:=by simp[ug]
theorem Kl {ch1:List (gp α)} {i m:Nat} (hi:i<=ch1.length) (a:m<i):(ug ch1 i (m+1))[m]? =ch1[m]? :=by
 unfold ug;rw[lS aD,uI,aN aa]
theorem Km {ch1:List (gp α)} {i m:Nat} (hi:i<=ch1.length) (c:m<i):(ug ch1 i (m+1)).set m fG=ug ch1 i m:=by
 unfold ug;rw[List.set_append_left _ _ aD];have b:m<ch1.length:=aa;have a:(ch1.take (m+1)).set m fG=ch1.take m++[fG]:=by
  rw[gW b,ui _ _ aD];have:m-(ch1.take m).length=0:=aD;rw[this];rfl
 rw[a,show i-m=(i-(m+1))+1 by omega,List.replicate_succ,dX];rfl
theorem FY {ch ch1:List (gp α)} {i:Nat} (a:ch1=ch/\i<ch.length\/ch1=ch++[fG]/\i=ch.length) (hd:gp α) (x:α) (d:hd.2.1=eG (ch.map (·.2.1)) i++[x]):
  ((ug ch1 i 0).set i hd).map (·.2.1)=ko (ch.map (·.2.1)) i x:=by
 have c:i<ch1.length:=by rcases a with⟨rfl,h⟩|⟨rfl,h⟩<;>first|omega|(simp;omega)
 have b:(ch1.drop (i+1)).map (·.2.1)=(ch.map (·.2.1)).drop (i+1):=by
  rcases a with⟨rfl,h⟩|⟨rfl,h⟩
  .rw[xV]
  .rw[ou aD,ou aD];rfl
 rw[FX,jJ c,ui _ _ aA,iw,kZ,oz,bL,jK,b,d,Ej];rfl
theorem zS {ch ch1:List (gp α)} {i:Nat} (b:ch1=ch/\i<ch.length\/ch1=ch++[fG]/\i=ch.length) {hd h:gp α} (c:h∈(ug ch1 i 0).set i hd):h=hd\/h=fG\/h∈ch:=by
 rcases D7 c with h1|h1
 .rw[FX,bP]at h1;rcases h1 with h1|h1
  .exact .inr (.inl (Al.1 h1).2)
  .have a:=Iq h1;rcases b with⟨rfl,-⟩|⟨rfl,-⟩
   .exact .inr (.inr a)
   .rcases bP.1 a with h3|h3
    .exact .inr (.inr h3)
    .exact .inr (.inl (aP h3))
 .exact .inl h1
def setC:Nat->List α->List (List α)
 |0,_=>[]
 |k+1,r=>if 2^k<=r.length then setC k (r.drop (2^k))++[r.take (2^k)]else setC k r++[[]]
theorem eu:∀(k:Nat) (r:List α),(setC k r).length=k
 |0,_=>rfl
 |k+1,r=>by
  unfold setC;split<;>simp[eu k]
theorem yj:∀(k:Nat) (r:List α) (i:Nat) (h:i<(setC k r).length),(setC k r)[i].length=0\/(setC k r)[i].length=2^i
 |0,_,i,h=>by cases h
 |k+1,r,i,h=>by
  have c:=eu (k+1) r;unfold setC;split
  .rename_i b;by_cases a:i<k
   .rw[qF (by rw[eu];exact a)];exact yj k _ i _
   .obtain rfl:i=k:=aa;rw[vX (by rw[eu];exact aB _)];right;simp only[eu,kZ,rq,eQ];omega
  .by_cases a:i<k
   .rw[qF (by rw[eu];exact a)];exact yj k _ i _
   .obtain rfl:i=k:=aa;rw[vX (by rw[eu];exact aB _)];left;simp only[eu,kZ,rq,eZ]
theorem kP:∀(k:Nat) (r:List α),r.length<2^k->(setC k r).flatten.Perm r
 |0,r,h=>by
  obtain rfl:r=[]:=gX (aP h);exact pG _
 |k+1,r,h=>by
  unfold setC;rw[pK]at h;split
  .rename_i c;rw[kW];simp only[uL,List.flatten_nil,iJ];have a:=kP k (r.drop (2^k)) (by rw[mK];omega);have b:(r.take (2^k)++r.drop (2^k))=r:=jB _ _;refine(List.Perm.append_right _ a).trans (List.perm_append_comm.trans ?_);rw[b]
  .rw[kW];simp only[uL,List.flatten_nil,iJ];exact kP k r aa
theorem LB (k:Nat) (r:List α) (h:2^k<=r.length) (h':k<(setC (k+1) r).length):(setC (k+1) r)[k]≠[]:=by
 have e:setC (k+1) r=setC k (r.drop (2^k))++[r.take (2^k)]:=by rw[setC,aN h]
 have a:(setC (k+1) r)[k]? =some (r.take (2^k)):=by
  rw[e,nz (by rw[eu];exact aB _),eu,kZ];rfl
 rw[cz h']at a;injection a with a;rw[a];intro b;have:=congrArg List.length b;have c:0<2^k:=pR ai;rw[eQ,eZ]at this;omega
theorem Dt (k:Nat):List.replicate (k+1) (fG:gp α)=List.replicate k fG++[fG]:=ru
theorem Du (W:World) (k:Nat):oM enc sz te W (List.replicate k (fG:gp α)):=fun h a=>by
 rw[(Al.1 a).2];exact⟨.inl rfl,aB _⟩
theorem FZ (m:Nat) (T:List (List α)) (x:List α):(List.replicate (m+1) []++T).set m x=List.replicate m []++x::T:=by
 rw[ru,dX,ui _ _ aA,iw,kZ];rfl
theorem F3 {W W':World} {ch:List (gp α)} {m:Nat} {hd:gp α} (h:oM enc sz te W ch) (c:∀(b:Nat) cur fr,W.heap[b]? =some (Obj.cells cur te fr)->W'.heap[b]? =W.heap[b]?) (d:Lv enc sz te W hd.1 hd.2.1) (e:hd.2.1.length<=hd.2.2):oM enc sz te W' (ch.set m hd):=fun x f=>by
 rcases D7 f with a|rfl
 .exact⟨(h x a).1.kept c,(h x a).2⟩
 .exact⟨d.kept c,e⟩
end
theorem oM.NN {α:Type} {enc:α->List Value} {sz:Nat} {te:TypeId} {W W':World} {d:List (gp α)} {S T:Nat->Prop} (h:oM enc sz te W d) (hi:∀h∈d,h.2.1≠[]->∀a,h.1=some a->S a.block) (K:ax T W W') (hd:∀k,S k->¬T k):oM enc sz te W' d:=fun x i=>by
 have⟨c,l⟩:=h x i;refine⟨?_,l⟩;by_cases e:x.2.1=[]
 .exact .inl e
 .rcases c with c|⟨b,off,j,fr,f,g,m⟩
  .exact .inl c
  .exact .inr ⟨b,off,j,fr,f,(K.block b (aZ.1 g).1 (hd _ (hi x i e _ f))).trans g,m⟩
end
section
open Go.RowKit Go.Sort Go.Shelf Go.Lib Go.Maps
abbrev eO:=Pt×Int
def lu (p:eO):List Value:=[.int .i64 p.1.1,.int .i64 p.1.2.1,.int .u32 p.1.2.2,.int .i64 p.2]
abbrev Ui (x y d n:Int):Value:=.agg #[af x,af y,ay d,af n]
theorem Bf (p:eO):(lu p).length=4:=rfl
theorem F4 (p:eO):∀u∈lu p,u.oneCell'=true:=by intro u hu;simp[lu]at hu;rcases hu with rfl|rfl|rfl|rfl<;>rfl
theorem F5:eD prog 213 187 4 32:=.mk' (z:=.agg #[af 0,af 0,ay 0,af 0]) underlying213 aO rfl ai
theorem RU:eD prog 276 213 1 24:=.mk' (z:=aL) underlying276 aO rfl ai
theorem Bg (a:Option Addr) (l:List eO) (n c:Nat) (w:World) (k:l.length=n) (h:bQ lu 4 w a l) (m:n<=1000000):
  aK 208 #[.slice a n c] w fun e w'=>∃v,e=.returned v/\w'.ownsRow w.heap.size 187 4 v n (l.flatMap lu)/\Below w.heap.size w w':=by
 subst k;have o:∀(w:World) (a:Option Addr) (n c n' d:Nat),(binOp .eql 213 (.slice a n c) (.slice none n' d)).run prog w=.ok (.bool a.isNone) w:=fun w a n c n' d=>Ea w _ _ a n c n' d underlying213;cases a with
 |none=>
  have i:l=[]:=by
   rcases h with h|⟨b,off,h,_⟩
   .exact h
   .cases h
  subst i;go_enter func208,ntmps208;go_wp2;go_ret;exact⟨_,rfl,dw _ _ _ _,aJ _ _⟩
 |some ad=>
  have f:=Am (e:=187) (size:=4) w #[] 0 (aB _) (aX _) rfl;have h':bQ lu 4 (w.alloc (.cells #[] 187)) (some ad) l:=h.below ((aJ _ _).alloc (aB _) _);go_enter func208,ntmps208
  go_wp2_with (at_builtin;refine iO F5 Bf F4 w.heap.size f h' rfl _ _ rfl rfl c rfl dD aa aA ?_;intro p w' g j)
  go_ret;rw[jL,fO]at g;exact⟨_,rfl,g,dB ((aJ _ _).alloc (aB _) _) f j aA (aB _)⟩
abbrev zT:=gp eO
abbrev LC:=Lv lu 4 187
abbrev qQ:=oM lu 4 187
theorem LC.aI {W:World} {base:Nat} {v:Value} {n:Nat} {l:List eO} (h:W.ownsRow base 187 4 v n (l.flatMap lu)):∃a c,v=.slice a l.length c/\n=l.length/\l.length<=c/\LC W a l:=Lv.aI Bf ai h
abbrev mU:=@ik eO 278 213 187
theorem Vj:213≠278/\278≠187/\213≠187:=ai
theorem wE {W:World} {base Cb:Nat} {cv:Value} {ch:List zT} {N wk:Int} (h:mU W base Cb cv ch N wk):aK 207 #[aj Cb] W (fV W (.bool false)):=by
 obtain⟨a,-⟩:=h.cell;go_enter func207,ntmps207;go_wp2;go_ret;exact⟨rfl,aJ _ _⟩
end
section
open Go.RowKit Go.Maps
attribute [local irreducible] wpQuiet
abbrev Vk:=@Uh eO 278 213 187 lu 4
theorem Sy {W:World} {base Cb:Nat} {cv:Value} {ch:List zT} {N wk:Int} (h:mU W base Cb cv ch N wk) (dF:base<=W.heap.size) (cl:qQ W ch) (x y d nn:Int) (dC:0<=N/\N<=100000) (dT:ch.length<=1000) (dX:(ch.map (·.2.1)).flatten.length<=10000):
  aK 135 #[aj Cb,Ui x y d nn] W (Vk W base Cb cv ch ((x,y,d),nn) N wk):=by
 have a2:Below W.heap.size W (W.alloc (.cells #[af x,af y,ay d,af nn] 187)):=(aJ _ _).alloc (aB _) _;have cr:(W.alloc (.cells #[af x,af y,ay d,af nn] 187)).cell? (ae W.heap.size 0)=some (af x):=by rw[ek _ _ _ _ rfl];rfl
 have x1:(W.alloc (.cells #[af x,af y,ay d,af nn] 187)).cell? (ae W.heap.size 1)=some (af y):=by rw[ek _ _ _ _ rfl];rfl
 have x2:(W.alloc (.cells #[af x,af y,ay d,af nn] 187)).cell? (ae W.heap.size 2)=some (ay d):=by rw[ek _ _ _ _ rfl];rfl
 have cs:(W.alloc (.cells #[af x,af y,ay d,af nn] 187)).cell? (ae W.heap.size 3)=some (af nn):=by rw[ek _ _ _ _ rfl];rfl
 have bE:=ag (wE (h.below a2));have H:=ag h;have a6:=ag cl;have bG:=ag a2;clear h cl a2;go_enter func135,ntmps135
 go_wp2_with fail
 refine bE.o.mono ?_;rintro e w2 ⟨rfl,Q⟩;have bD:=ag (bG.o.trans (Q.mono aA));have ct:=(Q.cell (p:=(ae W.heap.size 0)) aA).trans cr;have y1:=(Q.cell (p:=(ae W.heap.size 1)) aA).trans x1;have y2:=(Q.cell (p:=(ae W.heap.size 2)) aA).trans x2;have cu:=(Q.cell (p:=(ae W.heap.size 3)) aA).trans cs;have ao:W.heap.size<w2.heap.size:=by have:=Q.size;simp at this;omega
 have v:=ag (H.o.below bD.o);have bZ:=ag ct;have b0:=ag y1;have b1:=ag y2;have b2:=ag cu;clear cr x1 x2 cs ct y1 y2 cu bE bG Q;obtain⟨cP,cQ,cR,cS⟩:=v.o.cell
 go_upto_block 0 with fail
 go_cut [6]from 11 to 30 (fun sv D=>∃i:Nat,sv=.int .i64 i/\Hid (D=w2)/\i<=ch.length/\Hid (∀j (aR:j<ch.length),j<i->ch[j].2.1≠[])/\Hid (∀hi:i<ch.length,ch[i].2.1=[]))
 case first=>
  go_wp2_with fail
  go_loopw [6] (fun br wr=>∃i:Nat,br=.int .i64 i/\Hid (wr=w2)/\i<=ch.length/\Hid (∀j (aR:j<ch.length),j<i->ch[j].2.1≠[])) (fun br _=>ch.length-(intOf br).toNat)
  case atStart=>exact⟨0,rfl,(by first|rfl|trivial),aX _,fun j _ h=>absurd h (kC _)⟩
  case round=>
   obtain⟨i,rfl,ap,hi,ac⟩:=hrel;obtain rfl:wr=w2:=ap.o;clear ap;obtain⟨av,ad,rfl,-,-,an⟩:=Rd.aI (enc:=dR) v.o.row;by_cases cg:i<ch.length
   .obtain⟨b,off,b3,dG,cc⟩:=an.get aa;have z:=cc i cg;have S:Hid (ch[i].2.1=[]->∀hi:i<ch.length,ch[i].2.1=[]):=fun h _=>h;have az:Hid (ch[i].2.1≠[]->∀j (aR:j<ch.length),j<i+1->ch[j].2.1≠[]):=fun h j aR dd=>by
     rcases D8.1 dd with h9|rfl
     .exact ac.o j aR h9
     .exact h
    have bF:=ag b3;unfold dR at z;clear cc b3 an;generalize ch[i]=hd at*;obtain⟨du,bu,dx⟩:=hd;simp only at z S az;obtain rfl:=bF.o;clear bF;have dV:(i:Int)<(ch.length:Int):=aa;by_cases ai:bu=[]
    .have Z:=ag (S.o ai);clear S az;subst ai
     go_wp2_with fail
     go_meet;exact⟨i,rfl,(by first|rfl|trivial),hi,ac,Z⟩
    .have Z:=ag (az.o ai);have df:0<bu.length:=xI.2 ai;have dI:decide (0<bu.length)=true:=by simp[df]
     clear ai S az
     go_wp2_with fail
     go_roundw
     case rel=>exact⟨i+1,by go_num,(by first|rfl|trivial),aa,Z⟩
     case measure=>exact dU
   .have Z:Hid (∀hi:i<ch.length,ch[i].2.1=[]):=fun h=>absurd h cg;have dO:¬(i:Int)<(ch.length:Int):=aa
    go_wp2_with fail
    go_meet;exact⟨i,rfl,(by first|rfl|trivial),hi,ac,Z⟩
 case rest=>
  obtain⟨i,rfl,ap,hi,ac,S⟩:=hcut;obtain rfl:wc=w2:=ap.o;clear ap;obtain⟨l,al⟩:∃l,l=cv.ownBlock:=⟨_,rfl⟩;have dr:Hid (∀k,(k=Cb\/l=some k)->base<=k):=fun k h=>by
   rcases h with rfl|h
   .exact v.o.hb
   .exact(v.o.row.lt k (al▸h)).1
  have aE:Hid (∀k,l=some k->k<W.heap.size/\k≠Cb):=fun k h=>⟨(H.o.row.lt k (al▸h)).2,fun e=>H.o.ne (by rw[<-al,h,e])⟩;have F:=ag al;have dB:=H.o.lt;obtain⟨av,ad,rfl,-,dH,-⟩:=Rd.aI (enc:=dR) v.o.row;have K2:Hid (ax (fun k=>k=Cb\/l=some k) W wc):=(ax.refl _ _).grown (bN bD.o) aA;have cG:Hid (∀w6,wc.grownBy w6 (Value.ownBlock (.slice av ch.length ad))->w6.heap[Cb]? =some (Obj.cells #[.bool true,.slice av ch.length ad,af N,af wk] 278 (0,0))):=fun w6 A=>(A.block Cb v.o.lt (fun e=>v.o.ne e.symm)).trans v.o.blk;clear al
  go_upto_if 37 with fail
  go_cut []from 37 to 46 (fun D=>∃ah ch1 c a0 w,Hid (mU D base Cb ah ch1 N wk)/\ah=au c a0 w/\a0=ch1.length/\i<a0/\Hid (ch1=ch/\i<ch.length\/ch1=ch++[fG]/\i=ch.length)/\Hid (ah.ownBlock=l\/∃b,ah.ownBlock=some b/\W.heap.size<=b)/\Hid (c≠W.heap.size)/\Hid (ax (fun k=>k=Cb\/l=some k) W D)/\Hid (ax (fun k=>k=Cb\/l=some k) wc D))
  case first=>
   by_cases dc:i=ch.length
   .subst dc;have c8:((ch.length:Int)==(ch.length:Int))=true:=aA
    go_wp2_with (at_builtin;refine bW RU base v.o.row [aL] rfl (by simp[Value.oneCell']) rfl _ _ rfl rfl _ rfl dD aa aa ?_;intro bv w6 am A ca;obtain⟨G,n,rfl,dK,dL,dM,dN⟩:=aU am aa;have bs:=cG.o w6 A;have dZ:w6.cell? (ae Cb 1)=some (.slice av ch.length ad):=(aG bs);have d4:w6.frozen? (ae Cb 1)=false:=(aG bs))
    go_meet;have bl:w6.ownsRow base 213 1 (au G (ch.length+1) n) (ch++[fG]).length ((ch++[fG]).map dR):=by
     rw[bS,bL];exact am
    have aO:(some G=l\/G=wc.heap.size+1):=by
     rcases ca with h9|h9
     .exact .inl (h9.trans F.o.symm)
     .simp only[Value.ownBlock,ji]at h9;rw[h9];exact .inr aA
    have da:G≠Cb:=by
     rcases aO with h9|h9
     .exact(aE.o G h9.symm).2
     .omega
    refine⟨_,ch++[fG],G,ch.length+1,n,ik.LA (ch:=ch) bs v.o.hb v.o.ds bl (by simpa[Value.ownBlock]using da),rfl,aA,aa,(by first|exact .inr ⟨rfl,rfl⟩|exact .inr ⟨rfl,trivial⟩),?_,?_,(K2.o.grown A fun k s=>.inl (.inr (F.o.trans s))).set _ (.inl (.inl rfl)),((ax.refl _ wc).grown A fun k s=>.inl (.inr (F.o.trans s))).set _ (.inl (.inl rfl))⟩
    .rcases aO with h9|h9
     .exact .inl (by simpa[Value.ownBlock]using h9)
     .exact .inr ⟨G,rfl,aa⟩
    .show G≠W.heap.size;rcases aO with h9|h9
     .have:=(aE.o G h9.symm).1;omega
     .omega
   .have c8:((i:Int)==(ch.length:Int))=false:=by simp only[beq_eq_false_iff_ne];omega
    have cf:i<ch.length:=aa;obtain⟨g,dy,bb,c9,aP,-,-⟩:=aU v.o.row aa;injection bb with bb _ cU;subst bb cU;go_wp2;go_meet;have db:l=some g:=F.o;exact⟨_,ch,g,ch.length,ad,v,rfl,rfl,cf,.inl ⟨rfl,cf⟩,.inl F.o.symm,(by show g≠W.heap.size;have:=(aE.o g db).1;omega),K2,ax.refl _ _⟩
  case rest=>
   obtain⟨ah,ch1,c,a0,w,aq,rfl,rfl,dQ,aw,a3,cB,cK,T⟩:=hcut;obtain⟨w3,cY⟩:∃w3:World,w3=wc:=⟨_,rfl⟩;subst cY;have aF:Hid (¬(W.heap.size=Cb\/l=some W.heap.size)):=fun h9=>by
    rcases h9 with h9|h9
    .omega
    .have:=(aE.o _ h9).1;omega
   have cL:Hid (w3.cell? (ae W.heap.size 0)=some (af x)):=(dz (a:=(ae W.heap.size 0)) (T.o.block _ ao aF.o)).trans bZ.o;have cM:Hid (w3.cell? (ae W.heap.size 1)=some (af y)):=(dz (a:=(ae W.heap.size 1)) (T.o.block _ ao aF.o)).trans b0.o;have cN:Hid (w3.cell? (ae W.heap.size 2)=some (ay d)):=(dz (a:=(ae W.heap.size 2)) (T.o.block _ ao aF.o)).trans b1.o;have cO:Hid (w3.cell? (ae W.heap.size 3)=some (af nn)):=(dz (a:=(ae W.heap.size 3)) (T.o.block _ ao aF.o)).trans b2.o;have aW:W.heap.size<w3.heap.size:=bR ao T.o.size;have c9:c<w3.heap.size:=(aq.o.row.lt c rfl).2;have cy:Hid (∀k (s:k<i) (h1:k<ch1.length) (ak:k<ch.length),ch1[k]=ch[k]):=fun k s h1 ak=>by
    rcases aw.o with⟨e,-⟩|⟨e,-⟩
    .subst e;rfl
    .subst e;exact qF ak
   have cA:Hid (∀W',ax (fun k=>k=Cb\/l=some k) W W'->∀k (s:k<ch.length),bQ lu 4 W' ch[k].1 ch[k].2.1):=fun W' c5 k s=>((a6.o _ (bB s)).1.kept (H.o.eX F.o c5)).Nu;have cE:Hid (∀k (s:k<ch.length),k<i->(((ch.map (·.2.1)).take i).drop k).reverse.flatten=(((ch.map (·.2.1)).take i).drop (k+1)).reverse.flatten++ch[k].2.1):=fun k s dS=>by
    rw[jJ aD];simp
   have bK:Hid (∀k,(((ch.map (·.2.1)).take i).drop k).reverse.flatten.length<=10000):=fun k=>by
    generalize ch.map (·.2.1)=CB at*;have dA:(((CB.take i).drop k).reverse.flatten).length=((CB.take i).drop k).flatten.length:=by simp only[Eg,Ep,List.sum_reverse]
    have ba:((CB.take i).take k).flatten++((CB.take i).drop k).flatten=(CB.take i).flatten:=by rw[<-kW,jB]
    have cV:(CB.take i).flatten++(CB.drop i).flatten=CB.flatten:=by rw[<-kW,jB]
    have cW:=congrArg List.length ba;have cX:=congrArg List.length cV;rw[bS]at cW cX;omega
   clear bZ b0 b1 b2 cP cQ cR cS T
   go_upto_block 2 with fail
   go_cut [7]from 49 to 67 (fun bz D=>Hid (D.ownsRow w3.heap.size 187 4 bz (eG (ch.map (·.2.1)) i).length ((eG (ch.map (·.2.1)) i).flatMap lu))/\Hid (mU D base Cb (au c ch1.length w) (ug ch1 i 0) N wk)/\Hid (ax (fun k=>k=Cb\/l=some k) W D)/\Hid (ax (fun k=>k=c) w3 D))
   case first=>
    go_wp2_with fail
    go_loopw [8,7] (fun bt bz wr=>∃(k:Nat) (bx:Value),bt=.int .i64 ((k:Int)-1)/\bz=bx/\k<=i/\Hid (wr.ownsRow w3.heap.size 187 4 bx (((ch.map (·.2.1)).take i).drop k).reverse.flatten.length ((((ch.map (·.2.1)).take i).drop k).reverse.flatten.flatMap lu))/\Hid (mU wr base Cb (au c ch1.length w) (ug ch1 i k) N wk)/\Hid (ax (fun k=>k=Cb\/l=some k) W wr)/\Hid (ax (fun k=>k=c) w3 wr)) (fun bt _ _=>(intOf bt+1).toNat)
    case atStart=>
     refine⟨i,_,rfl,rfl,aB _,?_,?_,cK,ax.refl _ _⟩
     .rw[ou aD];exact dw _ _ _ _
     .rw[Kk];exact aq
    case round=>
     obtain⟨k,bx,rfl,rfl,s,HO,M,ab,E⟩:=hrel;rcases qL k with Uj|Uj
     .subst Uj;have dJ:¬(0:Int)<=((0:Nat):Int)-1:=aa;rw[lK]at HO
      go_wp2_with fail
      go_meet;exact⟨HO,M,ab,E⟩
     .obtain⟨m,rfl⟩:∃m,k=m+1:=⟨k-1,aa⟩;have bk:m<ch.length:=aa;have ci:m<ch1.length:=aa;obtain⟨d0,d1,d2,d3⟩:=M.o.cell;have B:i<=ch1.length:=aa;have bn:=M.o.row;rw[iK s B]at bn;have z:=bn.cellAt m aa;rw[iy,Kl B aa,cz ci,cy.o m aa ci bk]at z;simp only[fP]at z;have an:=cA.o wr ab.o m bk;have bj:=cE.o m bk aa;have X:=bK.o m;rw[bj,bS]at X;have dg:=Km (ch1:=ch1) B (show m<i by omega);have de:=X;generalize(((ch.map (·.2.1)).take i).drop (m+1)).reverse.flatten=L at*;have bJ:=ag bj;unfold dR at z;clear bj X;generalize ch[m]=hd at*;obtain⟨dv,dY,cT⟩:=hd;simp only at z an de bJ;have C:=HO.o.lt;have c4:=aq.o.lt;have ce:=E.o.size;have dW:(m:Int)<(ch1.length:Int):=aa
      go_wp2_with (at_builtin;refine nC F5 Bf F4 w3.heap.size HO.o an rfl _ _ rfl rfl cT rfl dD aa ce ?_;intro bv w6 am A ca;have J:=M.o.grown A (fun e=>(by have:=(C Cb e).1;omega)) (.inr (fun e=>(by have:=(C c e.symm).1;omega)));obtain⟨f0,f1,f2,f3⟩:=J.cell;have b9:=A.block c aa (fun e=>(by have:=(C c e.symm).1;omega));have d5:=(dz (a:=(ae c m)) b9).trans z;have b4:=(vY (a:=(ae c m)) b9).trans (bn.frozenAt m))
      have dh:=am.lt;have cH:Hid ((w6.setCell (ae c m) (aL)).ownsRow w3.heap.size 187 4 bv (((ch.map (·.2.1)).take i).drop m).reverse.flatten.length ((((ch.map (·.2.1)).take i).drop m).reverse.flatten.flatMap lu)):=by
       show World.ownsRow _ _ _ _ _ _ _;rw[bJ.o,bS,gZ];exact aY am fun c2 e=>aC (fun ba=>by have:=(dh c2 e).1;simp only at ba;omega)
      have a4:Hid (mU (w6.setCell (ae c m) (aL)) base Cb (au c ch1.length w) (ug ch1 i m) N wk):=by
       have:=J.Lx (iK s B).symm m fG;rw[dg]at this;exact this
      have bg:l=some c\/W.heap.size<=c:=by
       rcases a3.o with h9|⟨b,h9,c3⟩
       .exact .inl h9.symm
       .simp only[Value.ownBlock,ji]at h9;exact .inr aa
      have a5:Hid (ax (fun k=>k=Cb\/l=some k) W (w6.setCell (ae c m) (aL))):=
       (ab.o.grown A (fun b r=>.inr (by have:=(C b r).1;omega))).set _ (by rcases bg with h9|h9;exact .inl (.inr h9);exact .inr h9)
      have cC:Hid (ax (fun k=>k=c) w3 (w6.setCell (ae c m) (aL))):=(E.o.grown A (fun b r=>.inr (C b r).1)).set _ (.inl rfl);go_roundw
      case rel=>exact⟨m,bv,by go_num,rfl,aa,cH,a4,a5,cC⟩
      case measure=>simp[intOf]
   case rest=>
    obtain⟨HO,M,ab,E⟩:=hcut;obtain⟨w4,cZ⟩:∃w4:World,w4=wc:=⟨_,rfl⟩;subst cZ;have ce:=E.o.size;have B:i<=ch1.length:=aa;have I:W.heap.size≠c:=fun e=>cB.o e.symm;have bU:w4.cell? (ae W.heap.size 0)=some (af x):=(dz (a:=(ae W.heap.size 0)) (E.o.block _ aW I)).trans cL.o;have bV:w4.cell? (ae W.heap.size 1)=some (af y):=(dz (a:=(ae W.heap.size 1)) (E.o.block _ aW I)).trans cM.o;have bX:w4.cell? (ae W.heap.size 2)=some (ay d):=(dz (a:=(ae W.heap.size 2)) (E.o.block _ aW I)).trans cN.o;have bY:w4.cell? (ae W.heap.size 3)=some (af nn):=(dz (a:=(ae W.heap.size 3)) (E.o.block _ aW I)).trans cO.o;have X:=bK.o 0;rw[lK]at X;change(eG (ch.map (·.2.1)) i).length<=10000 at X;have bO:=(HO.o.alloc (.cells #[af x,af y,ay d,af nn] 187)).bq 1;have bI:=(M.o.grown (qI w4 (.cells #[af x,af y,ay d,af nn] 187) none) aA (.inr (by simp[Value.ownBlock]))).drew;generalize bc:eG (ch.map (·.2.1)) i=f at*;obtain⟨dp,w6,a8,bl,aP,aO⟩:=jo (ty:=213) (t:=213) (P:=prog) F5 w3.heap.size bO (ae w4.heap.size 0) 1 1 [.int .i64 x,.int .i64 y,.int .u32 d,.int .i64 nn] rfl (by
     intro j u hu;have c6:((ae w4.heap.size 0):Addr).add j=(ae w4.heap.size j):=by unfold Addr.add;split<;>simp_all
     rw[c6];have h9:(w4.alloc (.cells #[af x,af y,ay d,af nn] 187)).cell? (ae w4.heap.size j)=some u:=by
      rw[ek _ _ _ _ (by rfl)];simpa using hu
     exact h9) (by simp[Value.oneCell']) dD aa aD
    have C:=bO.lt;have c4:=aq.o.lt;have J:=bI.grown aP (fun e=>(by have:=(C Cb e).1;omega)) (.inr (fun e=>(by have:=(C c e.symm).1;omega)));have bm:w6.ownsRow w3.heap.size 187 4 dp (f.length+1) ((f++[((x,y,d),nn)]).flatMap lu):=by
     rw[gZ];exact bl
    have cm:=bm.lt;obtain⟨q,n,rfl,-,c7,b5⟩:=LC.aI bm;have aT:(f++[((x,y,d),nn)]).length=f.length+1:=aA;rw[aT]at a8 bm c7 cm;have cx:Hid (∀a,q=some a->W.heap.size<=a.block):=fun a bf=>by have:=(cm a.block (by rw[bf];rfl)).1;omega
    obtain⟨f0,f1,f2,f3⟩:=J.cell;have aV:=J.row;rw[iK (aX _) B]at aV;have cp:=aV.cellAt i aa;have b4:=aV.frozenAt i;have dj:i<((ug ch1 i 0).map dR).length:=by rw[bT,iK (aX _) B];omega
    rw[cz dj]at cp;have be:w4.cell? (ae Cb 1)=some (au c ch1.length w)/\w4.cell? (ae W.heap.size 0)=some (af x)/\w4.cell? (ae W.heap.size 1)=some (af y)/\w4.cell? (ae W.heap.size 2)=some (ay d)/\w4.cell? (ae W.heap.size 3)=some (af nn):=⟨M.o.cell.2.1,bU,bV,bX,bY⟩;have b6:w4.drew.cell? (ae Cb 1)=some (au c ch1.length w)/\w4.drew.cell? (ae W.heap.size 0)=some (af x)/\w4.drew.cell? (ae W.heap.size 1)=some (af y)/\w4.drew.cell? (ae W.heap.size 2)=some (ay d)/\w4.drew.cell? (ae W.heap.size 3)=some (af nn):=be;have aQ:=(aJ w4.heap.size w4).alloc (aB _) (.cells #[af x,af y,ay d,af nn] 187);have aM:W.heap.size<w4.heap.size:=aa;have U:(w4.alloc (.cells #[af x,af y,ay d,af nn] 187)).drew.cell? (ae Cb 1)=some (au c ch1.length w)/\(w4.alloc (.cells #[af x,af y,ay d,af nn] 187)).drew.cell? (ae W.heap.size 0)=some (af x)/\(w4.alloc (.cells #[af x,af y,ay d,af nn] 187)).drew.cell? (ae W.heap.size 1)=some (af y)/\(w4.alloc (.cells #[af x,af y,ay d,af nn] 187)).drew.cell? (ae W.heap.size 2)=some (ay d)/\(w4.alloc (.cells #[af x,af y,ay d,af nn] 187)).drew.cell? (ae W.heap.size 3)=some (af nn):=
     ⟨bI.cell.2.1,(aQ.cell (p:=(ae W.heap.size 0)) aM).trans bU,(aQ.cell (p:=(ae W.heap.size 1)) aM).trans bV,(aQ.cell (p:=(ae W.heap.size 2)) aM).trans bX,(aQ.cell (p:=(ae W.heap.size 3)) aM).trans bY⟩
    have aH:=aP.block W.heap.size aD (fun e=>by have:=(C _ e.symm).1;omega);have V:w6.cell? (ae Cb 1)=some (au c ch1.length w)/\w6.cell? (ae W.heap.size 0)=some (af x)/\w6.cell? (ae W.heap.size 1)=some (af y)/\w6.cell? (ae W.heap.size 2)=some (ay d)/\w6.cell? (ae W.heap.size 3)=some (af nn):=
     ⟨f1,(dz (a:=(ae W.heap.size 0)) aH).trans U.2.1,(dz (a:=(ae W.heap.size 1)) aH).trans U.2.2.1,(dz (a:=(ae W.heap.size 2)) aH).trans U.2.2.2.1,(dz (a:=(ae W.heap.size 3)) aH).trans U.2.2.2.2⟩
    have R:mU (w6.setCell (ae c i) (.slice q (f.length+1) n)) base Cb (au c ch1.length w) ((ug ch1 i 0).set i (q,f++[((x,y,d),nn)],n)) N wk:=by
     have:=J.Lx (iK (aX _) B).symm i (q,f++[((x,y,d),nn)],n);unfold dR at this;rw[aT]at this;exact this
    have b7:(w6.setCell (ae c i) (.slice q (f.length+1) n)).cell? (ae Cb 1)=some (au c ch1.length w)/\(w6.setCell (ae c i) (.slice q (f.length+1) n)).cell? (ae W.heap.size 0)=some (af x)/\(w6.setCell (ae c i) (.slice q (f.length+1) n)).cell? (ae W.heap.size 1)=some (af y)/\(w6.setCell (ae c i) (.slice q (f.length+1) n)).cell? (ae W.heap.size 2)=some (ay d)/\(w6.setCell (ae c i) (.slice q (f.length+1) n)).cell? (ae W.heap.size 3)=some (af nn):=
     ⟨R.cell.2.1,(dz (a:=(ae W.heap.size 0)) (aC (fun e=>I e.symm))).trans V.2.1,(dz (a:=(ae W.heap.size 1)) (aC (fun e=>I e.symm))).trans V.2.2.1,(dz (a:=(ae W.heap.size 2)) (aC (fun e=>I e.symm))).trans V.2.2.2.1,(dz (a:=(ae W.heap.size 3)) (aC (fun e=>I e.symm))).trans V.2.2.2.2⟩
    have dP:(i:Int)<(ch1.length:Int):=aa;generalize((ug ch1 i 0).map dR)[i]=d6 at*;go_wp2
    go_hide hQ
    go_region_held3 (fun w'=>w'.cell? (ae Cb 1)=some (au c ch1.length w)/\w'.cell? (ae W.heap.size 0)=some (af x)/\w'.cell? (ae W.heap.size 1)=some (af y)/\w'.cell? (ae W.heap.size 2)=some (ay d)/\w'.cell? (ae W.heap.size 3)=some (af nn))
     (first|(with_reducible exact be)|(with_reducible exact b6)|(with_reducible exact U)|(with_reducible exact V)|(with_reducible exact b7)|go_keep)
     ((refine gB rfl (.tmp 73) (.tmp 75) rfl a8 (by simp[Act.eval]) (by simp[Act.eval]) ?_;try simp only[Act.put,zb,oz,nQ]))
    all_goals subst hQ
    clear b7;generalize cn:w6.setCell (ae c i) (.slice q (f.length+1) n)=bA at R |-;have Y:=R.Be (N+1);obtain⟨dk,dl,dm,dn⟩:=R.cell;have c0:=R.frozen 2;obtain⟨t0,t1,t2,t3⟩:=Y.cell;have c1:=Y.frozen 3;have cb:((ug ch1 i 0).set i (q,f++[((x,y,d),nn)],n)).length=ch1.length:=by rw[kI,iK (aX _) B]
    have bo:=Y.row;rw[cb]at bo;have bC:=bo.cellAt i aa;have bh:(((ug ch1 i 0).set i (q,f++[((x,y,d),nn)],n)).map dR)[i]? =some (.slice q (f.length+1) n):=by
     rw[iy,uh (by rw[iK (aX _) B];omega)];simp[dR]
    rw[bh]at bC;have K:=(Y.Qt (wrap64 (wk+((f.length:Int)+1)))).drew;have ar:=ag K;clear K;have dE:(-9223372036854775808:Int)<=N+1/\N+1<=9223372036854775807:=aa;have a7:=ag cn;clear cn;clear f0 f1 f2 f3 cp b4 be b6 U V a8;have dt:=ag bC;have cD:=ag bh;have cI:=ag b5;have bg:l=some c\/W.heap.size<=c:=by
     rcases a3.o with h9|⟨b,h9,c3⟩
     .exact .inl h9.symm
     .simp only[Value.ownBlock,ji]at h9;exact .inr aa
    have a5:Hid (ax (fun k=>k=Cb\/l=some k) W w6):=((ab.o.grown (qI w4 (.cells #[af x,af y,ay d,af nn] 187) none) aA).drew).grown aP (fun b r=>.inr (by have:=(C b r).1;omega));have a4:=ag J;clear bh;go_wp2;go_region;have cF:Hid (ax (fun k=>k=Cb\/some c=some k) w6 ((bA.setCell (ae Cb 2) (.int .i64 (N+1))).setCell (ae Cb 3) (.int .i64 (wrap64 (wk+((f.length:Int)+1))))).drew):=by
     rw[<-a7.o];exact((((ax.refl _ w6).set _ (.inl (.inr rfl))).set _ (.inl (.inl rfl))).set _ (.inl (.inl rfl))).drew
    have bM:Hid (ax (fun k=>k=Cb\/l=some k) W ((bA.setCell (ae Cb 2) (.int .i64 (N+1))).setCell (ae Cb 3) (.int .i64 (wrap64 (wk+((f.length:Int)+1))))).drew):=by
     rw[<-a7.o];exact(((a5.o.set _ (by rcases bg with h9|h9;exact .inl (.inr h9);exact .inr h9)).set _ (.inl (.inl rfl))).set _ (.inl (.inl rfl))).drew
    have K:=ar.o;clear bC ar dk dl dm dn t0 t1 t2 t3 c0 c1 R Y a7;generalize di:((bA.setCell (ae Cb 2) (.int .i64 (N+1))).setCell (ae Cb 3) (.int .i64 (wrap64 (wk+((f.length:Int)+1))))).drew=cq at*;obtain⟨u0,u1,u2,u3⟩:=K.cell;have bp:=K.row;rw[cb]at bp;have dq:=bp.cellAt i aa;rw[cD.o]at dq;have bd:=cI.o.kept (a4.o.eX rfl cF.o);have co:=bM.o.size;have cw:=Bg q (f++[((x,y,d),nn)]) (f.length+1) n cq aT bd.Nu aa;have ar:=ag K;have cJ:=ag bd;clear di aV bo bp K bd b5
    go_wp2_with fail
    refine cw.mono ?_;rintro e a1 ⟨bw,rfl,ck,aN⟩;go_wp2;go_ret2;have bP:ax (fun k=>k=Cb\/l=some k) W a1:=bM.o.below aN;have cd:=H.o.eX F.o bP;refine⟨i,bw,au c ch1.length w,(ug ch1 i 0).set i (q,f++[((x,y,d),nn)],n),_,rfl,hi,ac.o,S.o,ar.o.below aN,?_,?_,?_,?_,?_,?_,?_⟩
    .have cj:∀b,b<cq.heap.size->bw.ownBlock≠some b:=fun b r e=>by have:=(ck.lt b e).1;omega
     have b8:∀a9:World,(∀(b:Nat) O fr,a1.heap[b]? =some (Obj.cells O 187 fr)->bw.ownBlock≠some b->a9.heap[b]? =a1.heap[b]?)->qQ a9 ((ug ch1 i 0).set i (q,f++[((x,y,d),nn)],n)):=by
      intro a9 ak h bi;rcases zS aw.o bi with rfl|rfl|h1
      .exact⟨cJ.o.kept fun b O fr r=>(ak b O fr ((aS aN r).trans r) (cj b (aZ.1 r).1)).trans (aS aN r),by show(f++[((x,y,d),nn)]).length<=n;omega⟩
      .exact⟨.inl rfl,aB _⟩
      .exact⟨(a6.o h h1).1.kept fun b O fr r=>(ak b O fr ((cd b O fr r).trans r) (cj b (bR (aZ.1 r).1 co))).trans (cd b O fr r),(a6.o h h1).2⟩
     exact⟨b8 a1 (fun _ _ _ _ _=>rfl),b8⟩
    .exact FY aw.o _ ((x,y,d),nn) (by show f++[((x,y,d),nn)]=_;rw[bc])
    .rw[bc,aT];exact bH ck co
    .rcases a3.o with h9|h9
     .exact .inl (h9.trans F.o)
     .exact .inr h9
    .exact bP.mono fun k s=>s.imp id fun h9=>F.o▸h9
    .intro h bi;rcases zS aw.o bi with rfl|rfl|h1
     .exact .inr cx.o
     .exact .inr fun a bf=>by cases bf
     .exact .inl h1
    .rw[bc]
end
section
open Go.RowKit Go.Maps
section
variable {W:World} {base Cb:Nat} {cv:Value} {ch:List zT} {N wk:Int}
theorem yl (h:mU W base Cb cv ch N wk) (f:ch.length<=1000000):aK 141 #[aj Cb] W (fV W (af ch.length)):=by
 have b:=ag (wE h);have H:=ag h;obtain⟨av,d,rfl,-,-,-⟩:=Rd.aI (enc:=dR) H.o.row;go_enter func141,ntmps141
 go_wp2_with fail
 refine b.o.mono ?_;rintro e w2 ⟨rfl,a⟩;obtain⟨-,c,-⟩:=(H.o.below a).cell;go_wp2;go_ret;exact⟨rfl,a⟩
theorem NP (h:mU W base Cb cv ch N wk):aK 139 #[aj Cb] W (fV W (af N)):=by
 have b:=ag (wE h);have H:=ag h;go_enter func139,ntmps139
 go_wp2_with fail
 refine b.o.mono ?_;rintro e w2 ⟨rfl,a⟩;obtain⟨-,-,c,-⟩:=(H.o.below a).cell;go_wp2;go_ret;exact⟨rfl,a⟩
theorem ym (h:mU W base Cb cv ch N wk) (t:qQ W ch) (B:ch.length<=1000000) (i:Nat) (hi:i<ch.length) (j:ch[i].2.1.length<=1000000):aK 142 #[aj Cb,af i] W fun e w'=>
  ∃v,e=.returned v/\w'.ownsRow W.heap.size 187 4 v ch[i].2.1.length (ch[i].2.1.flatMap lu)/\Below W.heap.size W w':=by
 have m:=ag (wE h);have H:=ag h;obtain⟨av,w,rfl,-,-,-⟩:=Rd.aI (enc:=dR) H.o.row;obtain⟨g,x,c,y,z,-,-⟩:=aU H.o.row aa;injection c with c _ q;subst c q;have f:=ag (fun W' (d:Below W.heap.size W W')=>(t _ (bB hi)).1.Nu.below d);have b:=ag (fun W' (d:Below W.heap.size W W')=>(show W'.cell? (ae g i)=some (dR ch[i]) by
  have:=((H.o.below d).row).cellAt i aa;rw[iy,cz hi]at this;exact this))
 unfold dR at b;have A:(i:Int)<(ch.length:Int):=aa;generalize ch[i]=hd at*;have⟨n,k,p⟩:=hd;simp only at f b j |-;have d1:decide ((i:Int)<0)=false:=aA;go_enter func142,ntmps142
 go_wp2_with fail
 refine m.o.mono ?_;rintro e w2 ⟨rfl,a⟩;obtain⟨-,u,-⟩:=(H.o.below a).cell;have D:=b.o w2 a;have l:=ag (Bg n k k.length p w2 rfl (f.o w2 a) j)
 go_wp2_with fail
 refine l.o.mono ?_;rintro e w3 ⟨C,rfl,s,r⟩;have HO:=ag (bH s a.size);go_wp2;go_ret;exact⟨_,rfl,HO.o,a.trans (r.mono a.size)⟩
end
end
end Go.Proofs.YtkjdbndekceffaaGreat
