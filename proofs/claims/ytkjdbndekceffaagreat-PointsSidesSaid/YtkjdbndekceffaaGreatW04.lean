/- Made small by a program. -/
import Derived.Test.YtkjdbndekceffaaGreatW03
set_option linter.unusedSimpArgs false
set_option linter.unusedVariables false
set_option maxRecDepth 100000
set_option maxHeartbeats 16000000
namespace Go.Proofs.YtkjdbndekceffaaGreat
open Tryz
section
open Go.RowKit Go.Maps
abbrev gu (α:Type):=Option Addr×List α×Nat
def dU {α:Type} (h:gu α):Value:=.slice h.1 h.2.1.length h.2.2
theorem aP {W W':World} (h:Below W.heap.size W W') {b:Nat} {o:Obj} (a:W.heap[b]? =some o):W'.heap[b]? =W.heap[b]? :=h.block b (aZ.1 a).1
section
variable {α:Type} {enc:α->List Value} {sz:Nat} {te ts tc:TypeId}
def LC (enc:α->List Value) (sz:Nat) (te:TypeId) (W:World) (a:Option Addr) (l:List α):Prop:=
 l=[]\/∃b off cur fr,a=some (ag b off)/\W.heap[b]? =some (Obj.cells cur te fr)/\∀i (h:i<l.length),∀j,j<sz->cur[off+i*sz+j]? =(enc l[i])[j]?
theorem LC.Nv {W:World} {a:Option Addr} {l:List α} (h:LC enc sz te W a l):bW enc sz W a l:=by
 rcases h with h|⟨b,off,f,fr,rfl,c,d⟩
 .exact .inl h
 .refine .inr ⟨b,off,rfl,(aZ.1 c).1,fun i hi j e=>?_⟩;have:=d i hi j e;simp only[World.cell?,c];simpa using this
theorem LC.aD (d:∀p,(enc p).length=sz) (m:0<sz) {W:World} {base:Nat} {v:Value} {n:Nat} {l:List α} (h:W.ownsRow base te sz v n (l.flatMap enc)):∃a c,v=.slice a l.length c/\n=l.length/\l.length<=c/\LC enc sz te W a l:=by
 have⟨e,h⟩:=h;rw[gq d]at e;obtain rfl:n=l.length:=Nat.eq_of_mul_eq_mul_right m e.symm;rcases h with⟨rfl,s⟩|⟨g,f,k,rfl,t,q,o,u,w,ht⟩
 .obtain rfl:l=[]:=gV s;exact⟨none,0,rfl,rfl,aB _,.inl rfl⟩
 .refine⟨_,f,rfl,rfl,o,.inr ⟨g,0,k,_,rfl,q,fun i hi j r=>?_⟩⟩;have b:=flat_get d l i hi j r;rw[<-ht,uN,aO (by have:=nS sz (Nat.succ_le_of_lt hi);rw[Nat.succ_mul]at this;omega)]at b;simpa using b
theorem LC.kept {W W':World} {a:Option Addr} {l:List α} (h:LC enc sz te W a l) (f:∀(b:Nat) c fr,W.heap[b]? =some (Obj.cells c te fr)->W'.heap[b]? =W.heap[b]?):LC enc sz te W' a l:=by
 rcases h with h|⟨b,off,c,fr,rfl,d,e⟩
 .exact .inl h
 .exact .inr ⟨b,off,c,fr,rfl,(f b c fr d).trans d,e⟩
def oP (enc:α->List Value) (sz:Nat) (te:TypeId) (W:World) (hs:List (gu α)):Prop:=∀h∈hs,LC enc sz te W h.1 h.2.1/\h.2.1.length<=h.2.2
theorem oP.kept {W W':World} {a:List (gu α)} (h:oP enc sz te W a) (d:∀(b:Nat) cur fr,W.heap[b]? =some (Obj.cells cur te fr)->W'.heap[b]? =W.heap[b]?):oP enc sz te W' a:=fun x c=>⟨(h x c).1.kept d,(h x c).2⟩
abbrev fJ {α:Type}:gu α:=(none,[],0)
def Nw {α:Type} (n:Nat) (ch qW:List (gu α)):Prop:=∀h∈qW,h∈ch\/∀a,h.1=some a->n<=a.block
theorem Nw.refl {n:Nat} {ch:List (gu α)}:Nw n ch ch:=fun h a=>.inl a
theorem Nw.SL {n k:Nat} {ch:List (gu α)}:Nw n ch (List.replicate k fJ):=fun h c=>.inr fun a b=>by rw[(AA.1 c).2]at b;cases b
theorem Nw.trans {n m:Nat} {b c d:List (gu α)} (e:Nw n b c) (f:Nw m c d) (k:n<=m):Nw n b d:=fun h j=>by
 rcases f h j with g|g
 .exact e h g
 .exact .inr fun a i=>bB k (g a i)
theorem Nw.nil {n m:Nat} {c b:List (gu α)} (h:Nw m [] b) (e:n<=m):Nw n c b:=fun x f=>by
 rcases h x f with i|g
 .cases i
 .exact .inr fun a d=>bB e (g a d)
theorem Nw.set {n:Nat} {b c:List (gu α)} (d:Nw n b c) {k:Nat} {hd:gu α} (e:∀a,hd.1=some a->n<=a.block):Nw n b (c.set k hd):=fun h g=>by
 rcases Eh g with f|rfl
 .exact d h f
 .exact .inr e
theorem Nw.snoc {n:Nat} {b c:List (gu α)} (d:Nw n b c) {hd:gu α} (e:∀a,hd.1=some a->n<=a.block):Nw n b (c++[hd]):=fun h f=>by
 rcases bP.1 f with h9|h9
 .exact d h h9
 .obtain rfl:h=hd:=aQ h9;exact .inr e
structure il (tc ts te:TypeId) (W:World) (base Cb:Nat) (cv:Value) (ch:List (gu α)) (N wk:Int):Prop where
 hb:base<=Cb
 ds:ts≠tc/\tc≠te/\ts≠te
 blk:W.heap[Cb]? =some (Obj.cells #[.bool true,cv,ae N,ae wk] tc (0,0))
 row:W.ownsRow base ts 1 cv ch.length (ch.map dU)
theorem il.cell {W:World} {base Cb:Nat} {cv:Value} {ch:List (gu α)} {N wk:Int} (h:il tc ts te W base Cb cv ch N wk):
  W.cell? (ag Cb 0)=some (.bool true)/\W.cell? (ag Cb 1)=some cv/\W.cell? (ag Cb 2)=some (ae N)/\W.cell? (ag Cb 3)=some (ae wk):=by
 have:=h.blk;refine⟨?_,?_,?_,?_⟩<;>simp[World.cell?,this]
theorem il.frozen {W:World} {base Cb:Nat} {cv:Value} {ch:List (gu α)} {N wk:Int} (h:il tc ts te W base Cb cv ch N wk) (j:Nat):W.frozen? (ag Cb j)=false:=by
 have:=h.blk;simp[World.frozen?,this]
theorem il.lt {W:World} {base Cb:Nat} {cv:Value} {ch:List (gu α)} {N wk:Int} (h:il tc ts te W base Cb cv ch N wk):Cb<W.heap.size:=(aZ.1 h.blk).1
theorem il.ne {W:World} {base Cb:Nat} {cv:Value} {ch:List (gu α)} {N wk:Int} (h:il tc ts te W base Cb cv ch N wk):cv.ownBlock≠some Cb:=by
 intro e;rcases h.row.2 with⟨rfl,_⟩|⟨g,b,c,rfl,_,a,_⟩
 .cases e
 .simp only[Value.ownBlock,jl]at e;subst e;rw[h.blk]at a;injection a with a;injection a with _ a _;exact h.ds.1 a.symm
theorem il.grown {W W':World} {base Cb:Nat} {cv:Value} {ch:List (gu α)} {N wk:Int} {r:Option Nat} (h:il tc ts te W base Cb cv ch N wk) (a:W.grownBy W' r) (b:r≠some Cb) (c:cv.ownBlock=none\/cv.ownBlock≠r):il tc ts te W' base Cb cv ch N wk:=
 ⟨h.hb,h.ds,(a.block Cb h.lt (fun e=>b e.symm)).trans h.blk,h.row.kept a c⟩
theorem il.below {W W':World} {base Cb:Nat} {cv:Value} {ch:List (gu α)} {N wk:Int} (h:il tc ts te W base Cb cv ch N wk) (hb:Below W.heap.size W W'):il tc ts te W' base Cb cv ch N wk:=
 h.grown (bM hb) aA (by cases a:cv.ownBlock<;>simp)
theorem il.drew {W:World} {base Cb:Nat} {cv:Value} {ch:List (gu α)} {N wk:Int} (h:il tc ts te W base Cb cv ch N wk):il tc ts te W.drew base Cb cv ch N wk:=⟨h.hb,h.ds,h.blk,h.row⟩
theorem il.LD {W:World} {base Cb g a n:Nat} {ch:List (gu α)} {N wk:Int} (h:il tc ts te W base Cb (az g n a) ch N wk) (c:n=ch.length) (k:Nat) (x:gu α):il tc ts te (W.setCell (ag g k) (dU x)) base Cb (az g n a) (ch.set k x) N wk:=by
 subst c;have b:=h.row.stored k (dU x);have d:=h.ne;refine⟨h.hb,h.ds,(aC (fun e=>d (by simp only[Value.ownBlock];exact congrArg some e))).trans h.blk,?_⟩;rw[kL,kJ];exact b.1
theorem il.Br {W:World} {base Cb:Nat} {cv:Value} {ch:List (gu α)} {N wk:Int} (h:il tc ts te W base Cb cv ch N wk) (a:Int):il tc ts te (W.setCell (ag Cb 2) (.int .i64 a)) base Cb cv ch a wk:=by
 refine⟨h.hb,h.ds,?_,aX h.row fun c e=>aC fun b=>h.ne (by rw[e,<-b])⟩;rw[di W Cb 2 _ _ _ h.blk];rfl
theorem il.QD {W:World} {base Cb:Nat} {cv:Value} {ch:List (gu α)} {N wk:Int} (h:il tc ts te W base Cb cv ch N wk) (a:Int):il tc ts te (W.setCell (ag Cb 3) (.int .i64 a)) base Cb cv ch N a:=by
 refine⟨h.hb,h.ds,?_,aX h.row fun c e=>aC fun b=>h.ne (by rw[e,<-b])⟩;rw[di W Cb 3 _ _ _ h.blk];rfl
theorem il.LF {W:World} {base Cb:Nat} {cv a:Value} {ch b:List (gu α)} {N wk:Int} (h:W.heap[Cb]? =some (Obj.cells #[.bool true,cv,ae N,ae wk] tc (0,0))) (hb:base<=Cb) (d:ts≠tc/\tc≠te/\ts≠te) (g:W.ownsRow base ts 1 a b.length (b.map dU)) (f:a.ownBlock≠some Cb):il tc ts te (W.setCell (ag Cb 1) a) base Cb a b N wk:=by
 refine⟨hb,d,?_,aX g fun i e=>aC fun c=>f (by rw[e,<-c])⟩;rw[di W Cb 1 _ _ _ h];rfl
theorem il.fe {W W':World} {base Cb:Nat} {cv:Value} {ch:List (gu α)} {N wk:Int} (h:il tc ts te W base Cb cv ch N wk) {a:Option Nat} (hS:a=cv.ownBlock) (K:ay (fun k=>k=Cb\/a=some k) W W'):
  ∀(b:Nat) c fr,W.heap[b]? =some (Obj.cells c te fr)->W'.heap[b]? =W.heap[b]? :=by
 intro b c fr hb;refine K.block b (aZ.1 hb).1 ?_;rintro(rfl|e)
 .rw[h.blk]at hb;injection hb with hb;injection hb with _ hb _;exact h.ds.2.1 hb
 .rw[hS]at e;rcases h.row.2 with⟨rfl,_⟩|⟨g,f,i,rfl,_,d,_⟩
  .cases e
  .simp only[Value.ownBlock,jl]at e;subst e;rw[d]at hb;injection hb with hb;injection hb with _ hb _;exact h.ds.2.2 hb
def eT (CB:List (List α)) (i:Nat):List α:=(CB.take i).reverse.flatten
def ky (CB:List (List α)) (i:Nat) (x:α):List (List α):=List.replicate i []++(eT CB i++[x])::CB.drop (i+1)
def Uw (tc ts te:TypeId) (enc:α->List Value) (sz:Nat) (W:World) (base Cb:Nat) (cv:Value) (ch:List (gu α)) (x:α) (N wk:Int) (e:Ending) (w':World):Prop:=
 ∃(i:Nat) (v CS:Value) (qW:List (gu α)) (Ko:Int),e=.returned (.tuple #[ae i,v])/\i<=ch.length/\(∀j (hj:j<ch.length),j<i->ch[j].2.1≠[])/\(∀hi:i<ch.length,ch[i].2.1=[])/\
  il tc ts te w' base Cb CS qW (N+1) Ko/\(oP enc sz te w' qW/\∀W2:World,(∀(b:Nat) cur fr,w'.heap[b]? =some (Obj.cells cur te fr)->v.ownBlock≠some b->W2.heap[b]? =w'.heap[b]?)->oP enc sz te W2 qW)/\qW.map (·.2.1)=ky (ch.map (·.2.1)) i x/\
  w'.ownsRow W.heap.size te sz v (eT (ch.map (·.2.1)) i++[x]).length ((eT (ch.map (·.2.1)) i++[x]).flatMap enc)/\
  (CS.ownBlock=cv.ownBlock\/∃b,CS.ownBlock=some b/\W.heap.size<=b)/\ay (fun k=>k=Cb\/cv.ownBlock=some k) W w'/\Nw W.heap.size ch qW/\Ko=wrap64 (wk+((eT (ch.map (·.2.1)) i).length+1:Int))
def uh (ch1:List (gu α)) (i k:Nat):List (gu α):=ch1.take k++(List.replicate (i-k) fJ++ch1.drop i)
theorem iL {ch1:List (gu α)} {i k:Nat} (a:k<=i) (hi:i<=ch1.length):(uh ch1 i k).length=ch1.length:=by simp[uh];omega
theorem Kq {ch1:List (gu α)} {i:Nat}:uh ch1 i i=ch1:=by simp[uh]
theorem Gg {ch1:List (gu α)} {i:Nat}:uh ch1 i 0=List.replicate i fJ++ch1.drop i:=by simp[uh]
theorem Kr {ch1:List (gu α)} {i m:Nat} (hi:i<=ch1.length) (a:m<i):(uh ch1 i (m+1))[m]? =ch1[m]? :=by
 unfold uh;rw[lT aG,uN,aO aa]
theorem Kt {ch1:List (gu α)} {i m:Nat} (hi:i<=ch1.length) (c:m<i):(uh ch1 i (m+1)).set m fJ=uh ch1 i m:=by
 unfold uh;rw[List.set_append_left _ _ aG];have b:m<ch1.length:=aa;have a:(ch1.take (m+1)).set m fJ=ch1.take m++[fJ]:=by
  rw[ik b,uk _ _ aG];have:m-(ch1.take m).length=0:=aG;rw[this];rfl
 rw[a,show i-m=(i-(m+1))+1 by omega,List.replicate_succ,dY];rfl
theorem Gh {ch ch1:List (gu α)} {i:Nat} (a:ch1=ch/\i<ch.length\/ch1=ch++[fJ]/\i=ch.length) (hd:gu α) (x:α) (d:hd.2.1=eT (ch.map (·.2.1)) i++[x]):
  ((uh ch1 i 0).set i hd).map (·.2.1)=ky (ch.map (·.2.1)) i x:=by
 have c:i<ch1.length:=by rcases a with⟨rfl,h⟩|⟨rfl,h⟩<;>first|omega|(simp;omega)
 have b:(ch1.drop (i+1)).map (·.2.1)=(ch.map (·.2.1)).drop (i+1):=by
  rcases a with⟨rfl,h⟩|⟨rfl,h⟩
  .rw[yc]
  .rw[oC aG,oC aG];rfl
 rw[Gg,lU c,uk _ _ aA,iA,iP,oF,bL,l6,b,d,Eu];rfl
theorem Aa {ch ch1:List (gu α)} {i:Nat} (b:ch1=ch/\i<ch.length\/ch1=ch++[fJ]/\i=ch.length) {hd h:gu α} (c:h∈(uh ch1 i 0).set i hd):h=hd\/h=fJ\/h∈ch:=by
 rcases Eh c with h1|h1
 .rw[Gg,bP]at h1;rcases h1 with h1|h1
  .exact .inr (.inl (AA.1 h1).2)
  .have a:=IG h1;rcases b with⟨rfl,-⟩|⟨rfl,-⟩
   .exact .inr (.inr a)
   .rcases bP.1 a with h3|h3
    .exact .inr (.inr h3)
    .exact .inr (.inl (aQ h3))
 .exact .inl h1
def setC:Nat->List α->List (List α)
 |0,_=>[]
 |k+1,r=>if 2^k<=r.length then setC k (r.drop (2^k))++[r.take (2^k)]else setC k r++[[]]
theorem eF:∀(k:Nat) (r:List α),(setC k r).length=k
 |0,_=>rfl
 |k+1,r=>by
  unfold setC;split<;>simp[eF k]
theorem yA:∀(k:Nat) (r:List α) (i:Nat) (h:i<(setC k r).length),(setC k r)[i].length=0\/(setC k r)[i].length=2^i
 |0,_,i,h=>by cases h
 |k+1,r,i,h=>by
  have c:=eF (k+1) r;unfold setC;split
  .rename_i b;by_cases a:i<k
   .rw[qO (by rw[eF];exact a)];exact yA k _ i _
   .obtain rfl:i=k:=aa;rw[wm (by rw[eF];exact aB _)];right;simp only[eF,iP,nE,eQ];omega
  .by_cases a:i<k
   .rw[qO (by rw[eF];exact a)];exact yA k _ i _
   .obtain rfl:i=k:=aa;rw[wm (by rw[eF];exact aB _)];left;simp only[eF,iP,nE,fF]
theorem kN:∀(k:Nat) (r:List α),r.length<2^k->(setC k r).flatten.Perm r
 |0,r,h=>by
  obtain rfl:r=[]:=gV (aQ h);exact pU _
 |k+1,r,h=>by
  unfold setC;rw[pY]at h;split
  .rename_i c;rw[kX];simp only[uP,List.flatten_nil,iO];have a:=kN k (r.drop (2^k)) (by rw[mQ];omega);have b:(r.take (2^k)++r.drop (2^k))=r:=jD _ _;refine(List.Perm.append_right _ a).trans (List.perm_append_comm.trans ?_);rw[b]
  .rw[kX];simp only[uP,List.flatten_nil,iO];exact kN k r aa
theorem LG (k:Nat) (r:List α) (h:2^k<=r.length) (h':k<(setC (k+1) r).length):(setC (k+1) r)[k]≠[]:=by
 have e:setC (k+1) r=setC k (r.drop (2^k))++[r.take (2^k)]:=by rw[setC,aO h]
 have a:(setC (k+1) r)[k]? =some (r.take (2^k)):=by
  rw[e,nD (by rw[eF];exact aB _),eF,iP];rfl
 rw[bZ h']at a;injection a with a;rw[a];intro b;have:=congrArg List.length b;have c:0<2^k:=qa ai;rw[eQ,fF]at this;omega
theorem DF (k:Nat):List.replicate (k+1) (fJ:gu α)=List.replicate k fJ++[fJ]:=rA
theorem DI (W:World) (k:Nat):oP enc sz te W (List.replicate k (fJ:gu α)):=fun h a=>by
 rw[(AA.1 a).2];exact⟨.inl rfl,aB _⟩
theorem Gi (m:Nat) (T:List (List α)) (x:List α):(List.replicate (m+1) []++T).set m x=List.replicate m []++x::T:=by
 rw[rA,dY,uk _ _ aA,iA,iP];rfl
theorem Gj {W W':World} {ch:List (gu α)} {m:Nat} {hd:gu α} (h:oP enc sz te W ch) (c:∀(b:Nat) cur fr,W.heap[b]? =some (Obj.cells cur te fr)->W'.heap[b]? =W.heap[b]?) (d:LC enc sz te W hd.1 hd.2.1) (e:hd.2.1.length<=hd.2.2):oP enc sz te W' (ch.set m hd):=fun x f=>by
 rcases Eh f with a|rfl
 .exact⟨(h x a).1.kept c,(h x a).2⟩
 .exact⟨d.kept c,e⟩
end
theorem oP.NP {α:Type} {enc:α->List Value} {sz:Nat} {te:TypeId} {W W':World} {d:List (gu α)} {S T:Nat->Prop} (h:oP enc sz te W d) (hi:∀h∈d,h.2.1≠[]->∀a,h.1=some a->S a.block) (K:ay T W W') (hd:∀k,S k->¬T k):oP enc sz te W' d:=fun x i=>by
 have⟨c,l⟩:=h x i;refine⟨?_,l⟩;by_cases e:x.2.1=[]
 .exact .inl e
 .rcases c with c|⟨b,off,j,fr,f,g,m⟩
  .exact .inl c
  .exact .inr ⟨b,off,j,fr,f,(K.block b (aZ.1 g).1 (hd _ (hi x i e _ f))).trans g,m⟩
end
section
open Go.RowKit Go.Sort Go.Shelf Go.Lib Go.Maps
abbrev eU:=Pt×Int
def ll (p:eU):List Value:=[.int .i64 p.1.1,.int .i64 p.1.2.1,.int .u32 p.1.2.2,.int .i64 p.2]
abbrev Ux (x y d n:Int):Value:=.agg #[ae x,ae y,au d,ae n]
theorem Bt (p:eU):(ll p).length=4:=rfl
theorem Gl (p:eU):∀u∈ll p,u.oneCell'=true:=by intro u hu;simp[ll]at hu;rcases hu with rfl|rfl|rfl|rfl<;>rfl
theorem Gm:eH prog 213 187 4 32:=.mk' (z:=.agg #[ae 0,ae 0,au 0,ae 0]) underlying213 aM rfl ai
theorem Sa:eH prog 276 213 1 24:=.mk' (z:=aL) underlying276 aM rfl ai
theorem Bu (a:Option Addr) (l:List eU) (n c:Nat) (w:World) (k:l.length=n) (h:bW ll 4 w a l) (m:n<=1000000):
  aK 208 #[.slice a n c] w fun e w'=>∃v,e=.returned v/\w'.ownsRow w.heap.size 187 4 v n (l.flatMap ll)/\Below w.heap.size w w':=by
 subst k;have o:∀(w:World) (a:Option Addr) (n c n' d:Nat),(binOp .eql 213 (.slice a n c) (.slice none n' d)).run prog w=.ok (.bool a.isNone) w:=fun w a n c n' d=>El w _ _ a n c n' d underlying213;cases a with
 |none=>
  have i:l=[]:=by
   rcases h with h|⟨b,off,h,_⟩
   .exact h
   .cases h
  subst i;go_enter func208,ntmps208;go_wp2;go_ret;exact⟨_,rfl,dA _ _ _ _,aJ _ _⟩
 |some ad=>
  have f:=AB (e:=187) (size:=4) w #[] 0 (aB _) (aY _) rfl;have h':bW ll 4 (w.alloc (.cells #[] 187)) (some ad) l:=h.below ((aJ _ _).alloc (aB _) _);go_enter func208,ntmps208
  go_wp2_with (at_builtin;refine iT Gm Bt Gl w.heap.size f h' rfl _ _ rfl rfl c rfl dJ aa aA ?_;intro p w' g j)
  go_ret;rw[kF,fP]at g;exact⟨_,rfl,g,dB ((aJ _ _).alloc (aB _) _) f j aA (aB _)⟩
abbrev Ac:=gu eU
abbrev LH:=LC ll 4 187
abbrev qX:=oP ll 4 187
theorem LH.aD {W:World} {base:Nat} {v:Value} {n:Nat} {l:List eU} (h:W.ownsRow base 187 4 v n (l.flatMap ll)):∃a c,v=.slice a l.length c/\n=l.length/\l.length<=c/\LH W a l:=LC.aD Bt ai h
abbrev mY:=@il eU 278 213 187
theorem Vu:213≠278/\278≠187/\213≠187:=ai
theorem wI {W:World} {base Cb:Nat} {cv:Value} {ch:List Ac} {N wk:Int} (h:mY W base Cb cv ch N wk):aK 207 #[aj Cb] W (gm W (.bool false)):=by
 obtain⟨a,-⟩:=h.cell;go_enter func207,ntmps207;go_wp2;go_ret;exact⟨rfl,aJ _ _⟩
end
section
open Go.RowKit Go.Maps
attribute [local irreducible] wpQuiet
abbrev Vv:=@Uw eU 278 213 187 ll 4
theorem SN {W:World} {base Cb:Nat} {cv:Value} {ch:List Ac} {N wk:Int} (h:mY W base Cb cv ch N wk) (dF:base<=W.heap.size) (cm:qX W ch) (x y d nn:Int) (dD:0<=N/\N<=100000) (dT:ch.length<=1000) (dX:(ch.map (·.2.1)).flatten.length<=10000):
  aK 135 #[aj Cb,Ux x y d nn] W (Vv W base Cb cv ch ((x,y,d),nn) N wk):=by
 have a2:Below W.heap.size W (W.alloc (.cells #[ae x,ae y,au d,ae nn] 187)):=(aJ _ _).alloc (aB _) _;have cs:(W.alloc (.cells #[ae x,ae y,au d,ae nn] 187)).cell? (ag W.heap.size 0)=some (ae x):=by rw[eB _ _ _ _ rfl];rfl
 have x1:(W.alloc (.cells #[ae x,ae y,au d,ae nn] 187)).cell? (ag W.heap.size 1)=some (ae y):=by rw[eB _ _ _ _ rfl];rfl
 have x2:(W.alloc (.cells #[ae x,ae y,au d,ae nn] 187)).cell? (ag W.heap.size 2)=some (au d):=by rw[eB _ _ _ _ rfl];rfl
 have ct:(W.alloc (.cells #[ae x,ae y,au d,ae nn] 187)).cell? (ag W.heap.size 3)=some (ae nn):=by rw[eB _ _ _ _ rfl];rfl
 have bD:=af (wI (h.below a2));have H:=af h;have a6:=af cm;have bG:=af a2;clear h cm a2;go_enter func135,ntmps135
 go_wp2_with fail
 refine bD.o.mono ?_;rintro e w2 ⟨rfl,Q⟩;have bC:=af (bG.o.trans (Q.mono aA));have cw:=(Q.cell (p:=(ag W.heap.size 0)) aA).trans cs;have y1:=(Q.cell (p:=(ag W.heap.size 1)) aA).trans x1;have y2:=(Q.cell (p:=(ag W.heap.size 2)) aA).trans x2;have cx:=(Q.cell (p:=(ag W.heap.size 3)) aA).trans ct;have ao:W.heap.size<w2.heap.size:=by have:=Q.size;simp at this;omega
 have v:=af (H.o.below bC.o);have b0:=af cw;have b1:=af y1;have b2:=af y2;have b3:=af cx;clear cs x1 x2 ct cw y1 y2 cx bD bG Q;obtain⟨cQ,cR,cS,cT⟩:=v.o.cell
 go_upto_block 0 with fail
 go_cut [6]from 11 to 30 (fun sv D=>∃i:Nat,sv=.int .i64 i/\Hid (D=w2)/\i<=ch.length/\Hid (∀j (aS:j<ch.length),j<i->ch[j].2.1≠[])/\Hid (∀hi:i<ch.length,ch[i].2.1=[]))
 case first=>
  go_wp2_with fail
  go_loopw [6] (fun bq wr=>∃i:Nat,bq=.int .i64 i/\Hid (wr=w2)/\i<=ch.length/\Hid (∀j (aS:j<ch.length),j<i->ch[j].2.1≠[])) (fun bq _=>ch.length-(intOf bq).toNat)
  case atStart=>exact⟨0,rfl,(by first|rfl|trivial),aY _,fun j _ h=>absurd h (kC _)⟩
  case round=>
   obtain⟨i,rfl,ap,hi,ac⟩:=hrel;obtain rfl:wr=w2:=ap.o;clear ap;obtain⟨av,ad,rfl,-,-,an⟩:=Rd.aD (enc:=dU) v.o.row;by_cases ci:i<ch.length
   .obtain⟨b,off,b4,dG,cd⟩:=an.get aa;have z:=cd i ci;have S:Hid (ch[i].2.1=[]->∀hi:i<ch.length,ch[i].2.1=[]):=fun h _=>h;have ax:Hid (ch[i].2.1≠[]->∀j (aS:j<ch.length),j<i+1->ch[j].2.1≠[]):=fun h j aS de=>by
     rcases Ei.1 de with h9|rfl
     .exact ac.o j aS h9
     .exact h
    have bE:=af b4;unfold dU at z;clear cd b4 an;generalize ch[i]=hd at*;obtain⟨dv,bt,dx⟩:=hd;simp only at z S ax;obtain rfl:=bE.o;clear bE;have dV:(i:Int)<(ch.length:Int):=aa;by_cases ai:bt=[]
    .have Z:=af (S.o ai);clear S ax;subst ai
     go_wp2_with fail
     go_meet;exact⟨i,rfl,(by first|rfl|trivial),hi,ac,Z⟩
    .have Z:=af (ax.o ai);have dg:0<bt.length:=Au.2 ai;have dI:decide (0<bt.length)=true:=by simp[dg]
     clear ai S ax
     go_wp2_with fail
     go_roundw
     case rel=>exact⟨i+1,by go_num,(by first|rfl|trivial),aa,Z⟩
     case measure=>exact eO
   .have Z:Hid (∀hi:i<ch.length,ch[i].2.1=[]):=fun h=>absurd h ci;have dP:¬(i:Int)<(ch.length:Int):=aa
    go_wp2_with fail
    go_meet;exact⟨i,rfl,(by first|rfl|trivial),hi,ac,Z⟩
 case rest=>
  obtain⟨i,rfl,ap,hi,ac,S⟩:=hcut;obtain rfl:wc=w2:=ap.o;clear ap;obtain⟨l,al⟩:∃l,l=cv.ownBlock:=⟨_,rfl⟩;have dt:Hid (∀k,(k=Cb\/l=some k)->base<=k):=fun k h=>by
   rcases h with rfl|h
   .exact v.o.hb
   .exact(v.o.row.lt k (al▸h)).1
  have aE:Hid (∀k,l=some k->k<W.heap.size/\k≠Cb):=fun k h=>⟨(H.o.row.lt k (al▸h)).2,fun e=>H.o.ne (by rw[<-al,h,e])⟩;have F:=af al;have dB:=H.o.lt;obtain⟨av,ad,rfl,-,dH,-⟩:=Rd.aD (enc:=dU) v.o.row;have bR:Hid (ay (fun k=>k=Cb\/l=some k) W wc):=(ay.refl _ _).grown (bM bC.o) aA;have cH:Hid (∀w6,wc.grownBy w6 (Value.ownBlock (.slice av ch.length ad))->w6.heap[Cb]? =some (Obj.cells #[.bool true,.slice av ch.length ad,ae N,ae wk] 278 (0,0))):=fun w6 A=>(A.block Cb v.o.lt (fun e=>v.o.ne e.symm)).trans v.o.blk;clear al
  go_upto_if 37 with fail
  go_cut []from 37 to 46 (fun D=>∃ah ch1 c a0 w,Hid (mY D base Cb ah ch1 N wk)/\ah=az c a0 w/\a0=ch1.length/\i<a0/\Hid (ch1=ch/\i<ch.length\/ch1=ch++[fJ]/\i=ch.length)/\Hid (ah.ownBlock=l\/∃b,ah.ownBlock=some b/\W.heap.size<=b)/\Hid (c≠W.heap.size)/\Hid (ay (fun k=>k=Cb\/l=some k) W D)/\Hid (ay (fun k=>k=Cb\/l=some k) wc D))
  case first=>
   by_cases dd:i=ch.length
   .subst dd;have c9:((ch.length:Int)==(ch.length:Int))=true:=aA
    go_wp2_with (at_builtin;refine cu Sa base v.o.row [aL] rfl (by simp[Value.oneCell']) rfl _ _ rfl rfl _ rfl dJ aa aa ?_;intro bv w6 am A cb;obtain⟨G,n,rfl,dL,dM,dN,dO⟩:=aU am aa;have br:=cH.o w6 A;have dZ:w6.cell? (ag Cb 1)=some (.slice av ch.length ad):=(aF br);have d4:w6.frozen? (ag Cb 1)=false:=(aF br))
    go_meet;have bl:w6.ownsRow base 213 1 (az G (ch.length+1) n) (ch++[fJ]).length ((ch++[fJ]).map dU):=by
     rw[bQ,bL];exact am
    have aO:(some G=l\/G=wc.heap.size+1):=by
     rcases cb with h9|h9
     .exact .inl (h9.trans F.o.symm)
     .simp only[Value.ownBlock,jl]at h9;rw[h9];exact .inr aA
    have db:G≠Cb:=by
     rcases aO with h9|h9
     .exact(aE.o G h9.symm).2
     .omega
    refine⟨_,ch++[fJ],G,ch.length+1,n,il.LF (ch:=ch) br v.o.hb v.o.ds bl (by simpa[Value.ownBlock]using db),rfl,aA,aa,(by first|exact .inr ⟨rfl,rfl⟩|exact .inr ⟨rfl,trivial⟩),?_,?_,(bR.o.grown A fun k s=>.inl (.inr (F.o.trans s))).set _ (.inl (.inl rfl)),((ay.refl _ wc).grown A fun k s=>.inl (.inr (F.o.trans s))).set _ (.inl (.inl rfl))⟩
    .rcases aO with h9|h9
     .exact .inl (by simpa[Value.ownBlock]using h9)
     .exact .inr ⟨G,rfl,aa⟩
    .show G≠W.heap.size;rcases aO with h9|h9
     .have:=(aE.o G h9.symm).1;omega
     .omega
   .have c9:((i:Int)==(ch.length:Int))=false:=by simp only[beq_eq_false_iff_ne];omega
    have cg:i<ch.length:=aa;obtain⟨g,dy,bb,da,aQ,-,-⟩:=aU v.o.row aa;injection bb with bb _ cV;subst bb cV;go_wp2;go_meet;have dc:l=some g:=F.o;exact⟨_,ch,g,ch.length,ad,v,rfl,rfl,cg,.inl ⟨rfl,cg⟩,.inl F.o.symm,(by show g≠W.heap.size;have:=(aE.o g dc).1;omega),bR,ay.refl _ _⟩
  case rest=>
   obtain⟨ah,ch1,c,a0,w,aq,rfl,rfl,dR,aw,a3,cC,cL,T⟩:=hcut;obtain⟨w3,cZ⟩:∃w3:World,w3=wc:=⟨_,rfl⟩;subst cZ;have aH:Hid (¬(W.heap.size=Cb\/l=some W.heap.size)):=fun h9=>by
    rcases h9 with h9|h9
    .omega
    .have:=(aE.o _ h9).1;omega
   have cM:Hid (w3.cell? (ag W.heap.size 0)=some (ae x)):=(dC (a:=(ag W.heap.size 0)) (T.o.block _ ao aH.o)).trans b0.o;have cN:Hid (w3.cell? (ag W.heap.size 1)=some (ae y)):=(dC (a:=(ag W.heap.size 1)) (T.o.block _ ao aH.o)).trans b1.o;have cO:Hid (w3.cell? (ag W.heap.size 2)=some (au d)):=(dC (a:=(ag W.heap.size 2)) (T.o.block _ ao aH.o)).trans b2.o;have cP:Hid (w3.cell? (ag W.heap.size 3)=some (ae nn)):=(dC (a:=(ag W.heap.size 3)) (T.o.block _ ao aH.o)).trans b3.o;have aW:W.heap.size<w3.heap.size:=bX ao T.o.size;have da:c<w3.heap.size:=(aq.o.row.lt c rfl).2;have cA:Hid (∀k (s:k<i) (h1:k<ch1.length) (ak:k<ch.length),ch1[k]=ch[k]):=fun k s h1 ak=>by
    rcases aw.o with⟨e,-⟩|⟨e,-⟩
    .subst e;rfl
    .subst e;exact qO ak
   have cB:Hid (∀W',ay (fun k=>k=Cb\/l=some k) W W'->∀k (s:k<ch.length),bW ll 4 W' ch[k].1 ch[k].2.1):=fun W' c6 k s=>((a6.o _ (bF s)).1.kept (H.o.fe F.o c6)).Nv;have cF:Hid (∀k (s:k<ch.length),k<i->(((ch.map (·.2.1)).take i).drop k).reverse.flatten=(((ch.map (·.2.1)).take i).drop (k+1)).reverse.flatten++ch[k].2.1):=fun k s dS=>by
    rw[lU aG];simp
   have bK:Hid (∀k,(((ch.map (·.2.1)).take i).drop k).reverse.flatten.length<=10000):=fun k=>by
    generalize ch.map (·.2.1)=CB at*;have dz:(((CB.take i).drop k).reverse.flatten).length=((CB.take i).drop k).flatten.length:=by simp only[Er,EA,List.sum_reverse]
    have ba:((CB.take i).take k).flatten++((CB.take i).drop k).flatten=(CB.take i).flatten:=by rw[<-kX,jD]
    have cW:(CB.take i).flatten++(CB.drop i).flatten=CB.flatten:=by rw[<-kX,jD]
    have cX:=congrArg List.length ba;have cY:=congrArg List.length cW;rw[bQ]at cX cY;omega
   clear b0 b1 b2 b3 cQ cR cS cT T
   go_upto_block 2 with fail
   go_cut [7]from 49 to 67 (fun bz D=>Hid (D.ownsRow w3.heap.size 187 4 bz (eT (ch.map (·.2.1)) i).length ((eT (ch.map (·.2.1)) i).flatMap ll))/\Hid (mY D base Cb (az c ch1.length w) (uh ch1 i 0) N wk)/\Hid (ay (fun k=>k=Cb\/l=some k) W D)/\Hid (ay (fun k=>k=c) w3 D))
   case first=>
    go_wp2_with fail
    go_loopw [8,7] (fun bs bz wr=>∃(k:Nat) (bx:Value),bs=.int .i64 ((k:Int)-1)/\bz=bx/\k<=i/\Hid (wr.ownsRow w3.heap.size 187 4 bx (((ch.map (·.2.1)).take i).drop k).reverse.flatten.length ((((ch.map (·.2.1)).take i).drop k).reverse.flatten.flatMap ll))/\Hid (mY wr base Cb (az c ch1.length w) (uh ch1 i k) N wk)/\Hid (ay (fun k=>k=Cb\/l=some k) W wr)/\Hid (ay (fun k=>k=c) w3 wr)) (fun bs _ _=>(intOf bs+1).toNat)
    case atStart=>
     refine⟨i,_,rfl,rfl,aB _,?_,?_,cL,ay.refl _ _⟩
     .rw[oC aG];exact dA _ _ _ _
     .rw[Kq];exact aq
    case round=>
     obtain⟨k,bx,rfl,rfl,s,HO,M,ab,E⟩:=hrel;rcases nG k with Uy|Uy
     .subst Uy;have dK:¬(0:Int)<=((0:Nat):Int)-1:=aa;rw[kD]at HO
      go_wp2_with fail
      go_meet;exact⟨HO,M,ab,E⟩
     .obtain⟨m,rfl⟩:∃m,k=m+1:=⟨k-1,aa⟩;have bk:m<ch.length:=aa;have cj:m<ch1.length:=aa;obtain⟨d0,d1,d2,d3⟩:=M.o.cell;have B:i<=ch1.length:=aa;have bn:=M.o.row;rw[iL s B]at bn;have z:=bn.cellAt m aa;rw[iB,Kr B aa,bZ cj,cA.o m aa cj bk]at z;simp only[fQ]at z;have an:=cB.o wr ab.o m bk;have bj:=cF.o m bk aa;have X:=bK.o m;rw[bj,bQ]at X;have dh:=Kt (ch1:=ch1) B (show m<i by omega);have df:=X;generalize(((ch.map (·.2.1)).take i).drop (m+1)).reverse.flatten=L at*;have bJ:=af bj;unfold dU at z;clear bj X;generalize ch[m]=hd at*;obtain⟨dw,dY,cU⟩:=hd;simp only at z an df bJ;have C:=HO.o.lt;have c5:=aq.o.lt;have cf:=E.o.size;have dW:(m:Int)<(ch1.length:Int):=aa
      go_wp2_with (at_builtin;refine nJ Gm Bt Gl w3.heap.size HO.o an rfl _ _ rfl rfl cU rfl dJ aa cf ?_;intro bv w6 am A cb;have J:=M.o.grown A (fun e=>(by have:=(C Cb e).1;omega)) (.inr (fun e=>(by have:=(C c e.symm).1;omega)));obtain⟨f0,f1,f2,f3⟩:=J.cell;have ca:=A.block c aa (fun e=>(by have:=(C c e.symm).1;omega));have d5:=(dC (a:=(ag c m)) ca).trans z;have b5:=(pz (a:=(ag c m)) ca).trans (bn.frozenAt m))
      have di:=am.lt;have cI:Hid ((w6.setCell (ag c m) (aL)).ownsRow w3.heap.size 187 4 bv (((ch.map (·.2.1)).take i).drop m).reverse.flatten.length ((((ch.map (·.2.1)).take i).drop m).reverse.flatten.flatMap ll)):=by
       show World.ownsRow _ _ _ _ _ _ _;rw[bJ.o,bQ,gZ];exact aX am fun c3 e=>aC (fun ba=>by have:=(di c3 e).1;simp only at ba;omega)
      have a4:Hid (mY (w6.setCell (ag c m) (aL)) base Cb (az c ch1.length w) (uh ch1 i m) N wk):=by
       have:=J.LD (iL s B).symm m fJ;rw[dh]at this;exact this
      have bg:l=some c\/W.heap.size<=c:=by
       rcases a3.o with h9|⟨b,h9,c4⟩
       .exact .inl h9.symm
       .simp only[Value.ownBlock,jl]at h9;exact .inr aa
      have a5:Hid (ay (fun k=>k=Cb\/l=some k) W (w6.setCell (ag c m) (aL))):=
       (ab.o.grown A (fun b r=>.inr (by have:=(C b r).1;omega))).set _ (by rcases bg with h9|h9;exact .inl (.inr h9);exact .inr h9)
      have cD:Hid (ay (fun k=>k=c) w3 (w6.setCell (ag c m) (aL))):=(E.o.grown A (fun b r=>.inr (C b r).1)).set _ (.inl rfl);go_roundw
      case rel=>exact⟨m,bv,by go_num,rfl,aa,cI,a4,a5,cD⟩
      case measure=>simp[intOf]
   case rest=>
    obtain⟨HO,M,ab,E⟩:=hcut;obtain⟨w4,c0⟩:∃w4:World,w4=wc:=⟨_,rfl⟩;subst c0;have cf:=E.o.size;have B:i<=ch1.length:=aa;have I:W.heap.size≠c:=fun e=>cC.o e.symm;have bS:w4.cell? (ag W.heap.size 0)=some (ae x):=(dC (a:=(ag W.heap.size 0)) (E.o.block _ aW I)).trans cM.o;have bT:w4.cell? (ag W.heap.size 1)=some (ae y):=(dC (a:=(ag W.heap.size 1)) (E.o.block _ aW I)).trans cN.o;have bV:w4.cell? (ag W.heap.size 2)=some (au d):=(dC (a:=(ag W.heap.size 2)) (E.o.block _ aW I)).trans cO.o;have bY:w4.cell? (ag W.heap.size 3)=some (ae nn):=(dC (a:=(ag W.heap.size 3)) (E.o.block _ aW I)).trans cP.o;have X:=bK.o 0;rw[kD]at X;change(eT (ch.map (·.2.1)) i).length<=10000 at X;have bO:=(HO.o.alloc (.cells #[ae x,ae y,au d,ae nn] 187)).bu 1;have bH:=(M.o.grown (qR w4 (.cells #[ae x,ae y,au d,ae nn] 187) none) aA (.inr (by simp[Value.ownBlock]))).drew;generalize bc:eT (ch.map (·.2.1)) i=f at*;obtain⟨dq,w6,a8,bl,aQ,aO⟩:=jq (ty:=213) (t:=213) (P:=prog) Gm w3.heap.size bO (ag w4.heap.size 0) 1 1 [.int .i64 x,.int .i64 y,.int .u32 d,.int .i64 nn] rfl (by
     intro j u hu;have c7:((ag w4.heap.size 0):Addr).add j=(ag w4.heap.size j):=by unfold Addr.add;split<;>simp_all
     rw[c7];have h9:(w4.alloc (.cells #[ae x,ae y,au d,ae nn] 187)).cell? (ag w4.heap.size j)=some u:=by
      rw[eB _ _ _ _ (by rfl)];simpa using hu
     exact h9) (by simp[Value.oneCell']) dJ aa aG
    have C:=bO.lt;have c5:=aq.o.lt;have J:=bH.grown aQ (fun e=>(by have:=(C Cb e).1;omega)) (.inr (fun e=>(by have:=(C c e.symm).1;omega)));have bm:w6.ownsRow w3.heap.size 187 4 dq (f.length+1) ((f++[((x,y,d),nn)]).flatMap ll):=by
     rw[gZ];exact bl
    have cn:=bm.lt;obtain⟨q,n,rfl,-,c8,b6⟩:=LH.aD bm;have aT:(f++[((x,y,d),nn)]).length=f.length+1:=aA;rw[aT]at a8 bm c8 cn;have cz:Hid (∀a,q=some a->W.heap.size<=a.block):=fun a bf=>by have:=(cn a.block (by rw[bf];rfl)).1;omega
    obtain⟨f0,f1,f2,f3⟩:=J.cell;have aV:=J.row;rw[iL (aY _) B]at aV;have cq:=aV.cellAt i aa;have b5:=aV.frozenAt i;have dk:i<((uh ch1 i 0).map dU).length:=by rw[bU,iL (aY _) B];omega
    rw[bZ dk]at cq;have be:w4.cell? (ag Cb 1)=some (az c ch1.length w)/\w4.cell? (ag W.heap.size 0)=some (ae x)/\w4.cell? (ag W.heap.size 1)=some (ae y)/\w4.cell? (ag W.heap.size 2)=some (au d)/\w4.cell? (ag W.heap.size 3)=some (ae nn):=⟨M.o.cell.2.1,bS,bT,bV,bY⟩;have b7:w4.drew.cell? (ag Cb 1)=some (az c ch1.length w)/\w4.drew.cell? (ag W.heap.size 0)=some (ae x)/\w4.drew.cell? (ag W.heap.size 1)=some (ae y)/\w4.drew.cell? (ag W.heap.size 2)=some (au d)/\w4.drew.cell? (ag W.heap.size 3)=some (ae nn):=be;have aR:=(aJ w4.heap.size w4).alloc (aB _) (.cells #[ae x,ae y,au d,ae nn] 187);have aM:W.heap.size<w4.heap.size:=aa;have U:(w4.alloc (.cells #[ae x,ae y,au d,ae nn] 187)).drew.cell? (ag Cb 1)=some (az c ch1.length w)/\(w4.alloc (.cells #[ae x,ae y,au d,ae nn] 187)).drew.cell? (ag W.heap.size 0)=some (ae x)/\(w4.alloc (.cells #[ae x,ae y,au d,ae nn] 187)).drew.cell? (ag W.heap.size 1)=some (ae y)/\(w4.alloc (.cells #[ae x,ae y,au d,ae nn] 187)).drew.cell? (ag W.heap.size 2)=some (au d)/\(w4.alloc (.cells #[ae x,ae y,au d,ae nn] 187)).drew.cell? (ag W.heap.size 3)=some (ae nn):=
     ⟨bH.cell.2.1,(aR.cell (p:=(ag W.heap.size 0)) aM).trans bS,(aR.cell (p:=(ag W.heap.size 1)) aM).trans bT,(aR.cell (p:=(ag W.heap.size 2)) aM).trans bV,(aR.cell (p:=(ag W.heap.size 3)) aM).trans bY⟩
    have aI:=aQ.block W.heap.size aG (fun e=>by have:=(C _ e.symm).1;omega);have V:w6.cell? (ag Cb 1)=some (az c ch1.length w)/\w6.cell? (ag W.heap.size 0)=some (ae x)/\w6.cell? (ag W.heap.size 1)=some (ae y)/\w6.cell? (ag W.heap.size 2)=some (au d)/\w6.cell? (ag W.heap.size 3)=some (ae nn):=
     ⟨f1,(dC (a:=(ag W.heap.size 0)) aI).trans U.2.1,(dC (a:=(ag W.heap.size 1)) aI).trans U.2.2.1,(dC (a:=(ag W.heap.size 2)) aI).trans U.2.2.2.1,(dC (a:=(ag W.heap.size 3)) aI).trans U.2.2.2.2⟩
    have R:mY (w6.setCell (ag c i) (.slice q (f.length+1) n)) base Cb (az c ch1.length w) ((uh ch1 i 0).set i (q,f++[((x,y,d),nn)],n)) N wk:=by
     have:=J.LD (iL (aY _) B).symm i (q,f++[((x,y,d),nn)],n);unfold dU at this;rw[aT]at this;exact this
    have b8:(w6.setCell (ag c i) (.slice q (f.length+1) n)).cell? (ag Cb 1)=some (az c ch1.length w)/\(w6.setCell (ag c i) (.slice q (f.length+1) n)).cell? (ag W.heap.size 0)=some (ae x)/\(w6.setCell (ag c i) (.slice q (f.length+1) n)).cell? (ag W.heap.size 1)=some (ae y)/\(w6.setCell (ag c i) (.slice q (f.length+1) n)).cell? (ag W.heap.size 2)=some (au d)/\(w6.setCell (ag c i) (.slice q (f.length+1) n)).cell? (ag W.heap.size 3)=some (ae nn):=
     ⟨R.cell.2.1,(dC (a:=(ag W.heap.size 0)) (aC (fun e=>I e.symm))).trans V.2.1,(dC (a:=(ag W.heap.size 1)) (aC (fun e=>I e.symm))).trans V.2.2.1,(dC (a:=(ag W.heap.size 2)) (aC (fun e=>I e.symm))).trans V.2.2.2.1,(dC (a:=(ag W.heap.size 3)) (aC (fun e=>I e.symm))).trans V.2.2.2.2⟩
    have dQ:(i:Int)<(ch1.length:Int):=aa;generalize((uh ch1 i 0).map dU)[i]=d6 at*;go_wp2
    go_hide hQ
    go_region_held3 (fun w'=>w'.cell? (ag Cb 1)=some (az c ch1.length w)/\w'.cell? (ag W.heap.size 0)=some (ae x)/\w'.cell? (ag W.heap.size 1)=some (ae y)/\w'.cell? (ag W.heap.size 2)=some (au d)/\w'.cell? (ag W.heap.size 3)=some (ae nn))
     (first|(with_reducible exact be)|(with_reducible exact b7)|(with_reducible exact U)|(with_reducible exact V)|(with_reducible exact b8)|go_keep)
     ((refine gH rfl (.tmp 73) (.tmp 75) rfl a8 (by simp[Act.eval]) (by simp[Act.eval]) ?_;try simp only[Act.put,zo,oF,nW]))
    all_goals subst hQ
    clear b8;generalize co:w6.setCell (ag c i) (.slice q (f.length+1) n)=bA at R |-;have Y:=R.Br (N+1);obtain⟨dl,dm,dn,dp⟩:=R.cell;have c1:=R.frozen 2;obtain⟨t0,t1,t2,t3⟩:=Y.cell;have c2:=Y.frozen 3;have cc:((uh ch1 i 0).set i (q,f++[((x,y,d),nn)],n)).length=ch1.length:=by rw[kJ,iL (aY _) B]
    have bo:=Y.row;rw[cc]at bo;have bB:=bo.cellAt i aa;have bh:(((uh ch1 i 0).set i (q,f++[((x,y,d),nn)],n)).map dU)[i]? =some (.slice q (f.length+1) n):=by
     rw[iB,uj (by rw[iL (aY _) B];omega)];simp[dU]
    rw[bh]at bB;have K:=(Y.QD (wrap64 (wk+((f.length:Int)+1)))).drew;have ar:=af K;clear K;have dE:(-9223372036854775808:Int)<=N+1/\N+1<=9223372036854775807:=aa;have a7:=af co;clear co;clear f0 f1 f2 f3 cq b5 be b7 U V a8;have du:=af bB;have cE:=af bh;have cJ:=af b6;have bg:l=some c\/W.heap.size<=c:=by
     rcases a3.o with h9|⟨b,h9,c4⟩
     .exact .inl h9.symm
     .simp only[Value.ownBlock,jl]at h9;exact .inr aa
    have a5:Hid (ay (fun k=>k=Cb\/l=some k) W w6):=((ab.o.grown (qR w4 (.cells #[ae x,ae y,au d,ae nn] 187) none) aA).drew).grown aQ (fun b r=>.inr (by have:=(C b r).1;omega));have a4:=af J;clear bh;go_wp2;go_region;have cG:Hid (ay (fun k=>k=Cb\/some c=some k) w6 ((bA.setCell (ag Cb 2) (.int .i64 (N+1))).setCell (ag Cb 3) (.int .i64 (wrap64 (wk+((f.length:Int)+1))))).drew):=by
     rw[<-a7.o];exact((((ay.refl _ w6).set _ (.inl (.inr rfl))).set _ (.inl (.inl rfl))).set _ (.inl (.inl rfl))).drew
    have bN:Hid (ay (fun k=>k=Cb\/l=some k) W ((bA.setCell (ag Cb 2) (.int .i64 (N+1))).setCell (ag Cb 3) (.int .i64 (wrap64 (wk+((f.length:Int)+1))))).drew):=by
     rw[<-a7.o];exact(((a5.o.set _ (by rcases bg with h9|h9;exact .inl (.inr h9);exact .inr h9)).set _ (.inl (.inl rfl))).set _ (.inl (.inl rfl))).drew
    have K:=ar.o;clear bB ar dl dm dn dp t0 t1 t2 t3 c1 c2 R Y a7;generalize dj:((bA.setCell (ag Cb 2) (.int .i64 (N+1))).setCell (ag Cb 3) (.int .i64 (wrap64 (wk+((f.length:Int)+1))))).drew=cr at*;obtain⟨u0,u1,u2,u3⟩:=K.cell;have bp:=K.row;rw[cc]at bp;have dr:=bp.cellAt i aa;rw[cE.o]at dr;have bd:=cJ.o.kept (a4.o.fe rfl cG.o);have cp:=bN.o.size;have cy:=Bu q (f++[((x,y,d),nn)]) (f.length+1) n cr aT bd.Nv aa;have ar:=af K;have cK:=af bd;clear dj aV bo bp K bd b6
    go_wp2_with fail
    refine cy.mono ?_;rintro e a1 ⟨bw,rfl,cl,aN⟩;go_wp2;go_ret2;have bP:ay (fun k=>k=Cb\/l=some k) W a1:=bN.o.below aN;have ce:=H.o.fe F.o bP;refine⟨i,bw,az c ch1.length w,(uh ch1 i 0).set i (q,f++[((x,y,d),nn)],n),_,rfl,hi,ac.o,S.o,ar.o.below aN,?_,?_,?_,?_,?_,?_,?_⟩
    .have ck:∀b,b<cr.heap.size->bw.ownBlock≠some b:=fun b r e=>by have:=(cl.lt b e).1;omega
     have b9:∀a9:World,(∀(b:Nat) O fr,a1.heap[b]? =some (Obj.cells O 187 fr)->bw.ownBlock≠some b->a9.heap[b]? =a1.heap[b]?)->qX a9 ((uh ch1 i 0).set i (q,f++[((x,y,d),nn)],n)):=by
      intro a9 ak h bi;rcases Aa aw.o bi with rfl|rfl|h1
      .exact⟨cK.o.kept fun b O fr r=>(ak b O fr ((aP aN r).trans r) (ck b (aZ.1 r).1)).trans (aP aN r),by show(f++[((x,y,d),nn)]).length<=n;omega⟩
      .exact⟨.inl rfl,aB _⟩
      .exact⟨(a6.o h h1).1.kept fun b O fr r=>(ak b O fr ((ce b O fr r).trans r) (ck b (bX (aZ.1 r).1 cp))).trans (ce b O fr r),(a6.o h h1).2⟩
     exact⟨b9 a1 (fun _ _ _ _ _=>rfl),b9⟩
    .exact Gh aw.o _ ((x,y,d),nn) (by show f++[((x,y,d),nn)]=_;rw[bc])
    .rw[bc,aT];exact bI cl cp
    .rcases a3.o with h9|h9
     .exact .inl (h9.trans F.o)
     .exact .inr h9
    .exact bP.mono fun k s=>s.imp id fun h9=>F.o▸h9
    .intro h bi;rcases Aa aw.o bi with rfl|rfl|h1
     .exact .inr cz.o
     .exact .inr fun a bf=>by cases bf
     .exact .inl h1
    .rw[bc]
end
section
open Go.RowKit Go.Maps
section
variable {W:World} {base Cb:Nat} {cv:Value} {ch:List Ac} {N wk:Int}
theorem yB (h:mY W base Cb cv ch N wk) (f:ch.length<=1000000):aK 141 #[aj Cb] W (gm W (ae ch.length)):=by
 have b:=af (wI h);have H:=af h;obtain⟨av,d,rfl,-,-,-⟩:=Rd.aD (enc:=dU) H.o.row;go_enter func141,ntmps141
 go_wp2_with fail
 refine b.o.mono ?_;rintro e w2 ⟨rfl,a⟩;obtain⟨-,c,-⟩:=(H.o.below a).cell;go_wp2;go_ret;exact⟨rfl,a⟩
theorem NQ (h:mY W base Cb cv ch N wk):aK 139 #[aj Cb] W (gm W (ae N)):=by
 have b:=af (wI h);have H:=af h;go_enter func139,ntmps139
 go_wp2_with fail
 refine b.o.mono ?_;rintro e w2 ⟨rfl,a⟩;obtain⟨-,-,c,-⟩:=(H.o.below a).cell;go_wp2;go_ret;exact⟨rfl,a⟩
theorem yC (h:mY W base Cb cv ch N wk) (t:qX W ch) (B:ch.length<=1000000) (i:Nat) (hi:i<ch.length) (j:ch[i].2.1.length<=1000000):aK 142 #[aj Cb,ae i] W fun e w'=>
  ∃v,e=.returned v/\w'.ownsRow W.heap.size 187 4 v ch[i].2.1.length (ch[i].2.1.flatMap ll)/\Below W.heap.size W w':=by
 have m:=af (wI h);have H:=af h;obtain⟨av,w,rfl,-,-,-⟩:=Rd.aD (enc:=dU) H.o.row;obtain⟨g,x,c,y,z,-,-⟩:=aU H.o.row aa;injection c with c _ q;subst c q;have f:=af (fun W' (d:Below W.heap.size W W')=>(t _ (bF hi)).1.Nv.below d);have b:=af (fun W' (d:Below W.heap.size W W')=>(show W'.cell? (ag g i)=some (dU ch[i]) by
  have:=((H.o.below d).row).cellAt i aa;rw[iB,bZ hi]at this;exact this))
 unfold dU at b;have A:(i:Int)<(ch.length:Int):=aa;generalize ch[i]=hd at*;have⟨n,k,p⟩:=hd;simp only at f b j |-;have d1:decide ((i:Int)<0)=false:=aA;go_enter func142,ntmps142
 go_wp2_with fail
 refine m.o.mono ?_;rintro e w2 ⟨rfl,a⟩;obtain⟨-,u,-⟩:=(H.o.below a).cell;have D:=b.o w2 a;have l:=af (Bu n k k.length p w2 rfl (f.o w2 a) j)
 go_wp2_with fail
 refine l.o.mono ?_;rintro e w3 ⟨C,rfl,s,r⟩;have HO:=af (bI s a.size);go_wp2;go_ret;exact⟨_,rfl,HO.o,a.trans (r.mono a.size)⟩
end
end
end Go.Proofs.YtkjdbndekceffaaGreat
