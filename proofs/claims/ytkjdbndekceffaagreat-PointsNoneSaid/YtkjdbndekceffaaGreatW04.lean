/- Made small by a program. -/
import Derived.Test.YtkjdbndekceffaaGreatW03
set_option linter.unusedSimpArgs false
set_option linter.unusedVariables false
set_option maxRecDepth 100000
set_option maxHeartbeats 16000000
namespace Go.Proofs.YtkjdbndekceffaaGreat
open Tryz
section
open Go.RowKit Go.Maps
abbrev fT (α:Type):=Option Addr×List α×Nat
def dQ {α:Type} (h:fT α):Value:=.slice h.1 h.2.1.length h.2.2
theorem aL {W W':World} (h:Below W.heap.size W W') {b:Nat} {o:Obj} (a:W.heap[b]? =some o):W'.heap[b]? =W.heap[b]? :=h.block b (aZ.1 a).1
section
variable {α:Type} {enc:α->List Value} {sz:Nat} {te ts tc:TypeId}
def Ky (enc:α->List Value) (sz:Nat) (te:TypeId) (W:World) (a:Option Addr) (l:List α):Prop:=
 l=[]\/∃b off cur fr,a=some (ae b off)/\W.heap[b]? =some (Obj.cells cur te fr)/\∀i (h:i<l.length),∀j,j<sz->cur[off+i*sz+j]? =(enc l[i])[j]?
theorem Ky.Mi {W:World} {a:Option Addr} {l:List α} (h:Ky enc sz te W a l):cz enc sz W a l:=by
 rcases h with h|⟨b,off,f,fr,rfl,c,d⟩
 .exact .inl h
 .refine .inr ⟨b,off,rfl,(aZ.1 c).1,fun i hi j e=>?_⟩;have:=d i hi j e;simp only[World.cell?,c];simpa using this
theorem Ky.aC (d:∀p,(enc p).length=sz) (m:0<sz) {W:World} {base:Nat} {v:Value} {n:Nat} {l:List α} (h:W.ownsRow base te sz v n (l.flatMap enc)):∃a c,v=.slice a l.length c/\n=l.length/\l.length<=c/\Ky enc sz te W a l:=by
 have⟨e,h⟩:=h;rw[fQ d]at e;obtain rfl:n=l.length:=Nat.eq_of_mul_eq_mul_right m e.symm;rcases h with⟨rfl,s⟩|⟨g,f,k,rfl,t,q,o,u,w,ht⟩
 .obtain rfl:l=[]:=gJ s;exact⟨none,0,rfl,rfl,ay _,.inl rfl⟩
 .refine⟨_,f,rfl,rfl,o,.inr ⟨g,0,k,_,rfl,q,fun i hi j r=>?_⟩⟩;have b:=flat_get d l i hi j r;rw[<-ht,tK,aK (by have:=oC sz (Nat.succ_le_of_lt hi);rw[Nat.succ_mul]at this;omega)]at b;simpa using b
theorem Ky.kept {W W':World} {a:Option Addr} {l:List α} (h:Ky enc sz te W a l) (f:∀(b:Nat) c fr,W.heap[b]? =some (Obj.cells c te fr)->W'.heap[b]? =W.heap[b]?):Ky enc sz te W' a l:=by
 rcases h with h|⟨b,off,c,fr,rfl,d,e⟩
 .exact .inl h
 .exact .inr ⟨b,off,c,fr,rfl,(f b c fr d).trans d,e⟩
def nV (enc:α->List Value) (sz:Nat) (te:TypeId) (W:World) (hs:List (fT α)):Prop:=∀h∈hs,Ky enc sz te W h.1 h.2.1/\h.2.1.length<=h.2.2
theorem nV.kept {W W':World} {a:List (fT α)} (h:nV enc sz te W a) (d:∀(b:Nat) cur fr,W.heap[b]? =some (Obj.cells cur te fr)->W'.heap[b]? =W.heap[b]?):nV enc sz te W' a:=fun x c=>⟨(h x c).1.kept d,(h x c).2⟩
abbrev fF {α:Type}:fT α:=(none,[],0)
def Nw {α:Type} (n:Nat) (ch qj:List (fT α)):Prop:=∀h∈qj,h∈ch\/∀a,h.1=some a->n<=a.block
theorem Nw.refl {n:Nat} {ch:List (fT α)}:Nw n ch ch:=fun h a=>.inl a
theorem Nw.Rb {n k:Nat} {ch:List (fT α)}:Nw n ch (List.replicate k fF):=fun h c=>.inr fun a b=>by rw[(zq.1 c).2]at b;cases b
theorem Nw.trans {n m:Nat} {b c d:List (fT α)} (e:Nw n b c) (f:Nw m c d) (k:n<=m):Nw n b d:=fun h j=>by
 rcases f h j with g|g
 .exact e h g
 .exact .inr fun a i=>bJ k (g a i)
theorem Nw.nil {n m:Nat} {c b:List (fT α)} (h:Nw m [] b) (e:n<=m):Nw n c b:=fun x f=>by
 rcases h x f with i|g
 .cases i
 .exact .inr fun a d=>bJ e (g a d)
theorem Nw.set {n:Nat} {b c:List (fT α)} (d:Nw n b c) {k:Nat} {hd:fT α} (e:∀a,hd.1=some a->n<=a.block):Nw n b (c.set k hd):=fun h g=>by
 rcases CY g with f|rfl
 .exact d h f
 .exact .inr e
theorem Nw.snoc {n:Nat} {b c:List (fT α)} (d:Nw n b c) {hd:fT α} (e:∀a,hd.1=some a->n<=a.block):Nw n b (c++[hd]):=fun h f=>by
 rcases bT.1 f with h9|h9
 .exact d h h9
 .obtain rfl:h=hd:=by simpa using h9
  exact .inr e
structure gQ (tc ts te:TypeId) (W:World) (base Cb:Nat) (cv:Value) (ch:List (fT α)) (N wk:Int):Prop where
 hb:base<=Cb
 ds:ts≠tc/\tc≠te/\ts≠te
 blk:W.heap[Cb]? =some (Obj.cells #[.bool true,cv,aa N,aa wk] tc (0,0))
 row:W.ownsRow base ts 1 cv ch.length (ch.map dQ)
theorem gQ.cell {W:World} {base Cb:Nat} {cv:Value} {ch:List (fT α)} {N wk:Int} (h:gQ tc ts te W base Cb cv ch N wk):
  W.cell? (ae Cb 0)=some (.bool true)/\W.cell? (ae Cb 1)=some cv/\W.cell? (ae Cb 2)=some (aa N)/\W.cell? (ae Cb 3)=some (aa wk):=by
 have:=h.blk;refine⟨?_,?_,?_,?_⟩<;>simp[World.cell?,this]
theorem gQ.frozen {W:World} {base Cb:Nat} {cv:Value} {ch:List (fT α)} {N wk:Int} (h:gQ tc ts te W base Cb cv ch N wk) (j:Nat):W.frozen? (ae Cb j)=false:=by
 have:=h.blk;simp[World.frozen?,this]
theorem gQ.lt {W:World} {base Cb:Nat} {cv:Value} {ch:List (fT α)} {N wk:Int} (h:gQ tc ts te W base Cb cv ch N wk):Cb<W.heap.size:=(aZ.1 h.blk).1
theorem gQ.ne {W:World} {base Cb:Nat} {cv:Value} {ch:List (fT α)} {N wk:Int} (h:gQ tc ts te W base Cb cv ch N wk):cv.ownBlock≠some Cb:=by
 intro e;rcases h.row.2 with⟨rfl,_⟩|⟨g,b,c,rfl,_,a,_⟩
 .cases e
 .simp only[Value.ownBlock,iV]at e;subst e;rw[h.blk]at a;injection a with a;injection a with _ a _;exact h.ds.1 a.symm
theorem gQ.grown {W W':World} {base Cb:Nat} {cv:Value} {ch:List (fT α)} {N wk:Int} {r:Option Nat} (h:gQ tc ts te W base Cb cv ch N wk) (a:W.grownBy W' r) (b:r≠some Cb) (c:cv.ownBlock=none\/cv.ownBlock≠r):gQ tc ts te W' base Cb cv ch N wk:=
 ⟨h.hb,h.ds,(a.block Cb h.lt (fun e=>b e.symm)).trans h.blk,h.row.kept a c⟩
theorem gQ.below {W W':World} {base Cb:Nat} {cv:Value} {ch:List (fT α)} {N wk:Int} (h:gQ tc ts te W base Cb cv ch N wk) (hb:Below W.heap.size W W'):gQ tc ts te W' base Cb cv ch N wk:=
 h.grown (bQ hb) (by simp) (by cases a:cv.ownBlock<;>simp)
theorem gQ.drew {W:World} {base Cb:Nat} {cv:Value} {ch:List (fT α)} {N wk:Int} (h:gQ tc ts te W base Cb cv ch N wk):gQ tc ts te W.drew base Cb cv ch N wk:=⟨h.hb,h.ds,h.blk,h.row⟩
theorem gQ.Kz {W:World} {base Cb g a n:Nat} {ch:List (fT α)} {N wk:Int} (h:gQ tc ts te W base Cb (aj g n a) ch N wk) (c:n=ch.length) (k:Nat) (x:fT α):gQ tc ts te (W.setCell (ae g k) (dQ x)) base Cb (aj g n a) (ch.set k x) N wk:=by
 subst c;have b:=h.row.stored k (dQ x);have d:=h.ne;refine⟨h.hb,h.ds,(az (fun e=>d (by simp only[Value.ownBlock];exact congrArg some e))).trans h.blk,?_⟩;rw[j3,jY];exact b.1
theorem gQ.zY {W:World} {base Cb:Nat} {cv:Value} {ch:List (fT α)} {N wk:Int} (h:gQ tc ts te W base Cb cv ch N wk) (a:Int):gQ tc ts te (W.setCell (ae Cb 2) (.int .i64 a)) base Cb cv ch a wk:=by
 refine⟨h.hb,h.ds,?_,aV h.row fun c e=>az fun b=>h.ne (by rw[e,<-b])⟩;rw[dA W Cb 2 _ _ _ h.blk];rfl
theorem gQ.O6 {W:World} {base Cb:Nat} {cv:Value} {ch:List (fT α)} {N wk:Int} (h:gQ tc ts te W base Cb cv ch N wk) (a:Int):gQ tc ts te (W.setCell (ae Cb 3) (.int .i64 a)) base Cb cv ch N a:=by
 refine⟨h.hb,h.ds,?_,aV h.row fun c e=>az fun b=>h.ne (by rw[e,<-b])⟩;rw[dA W Cb 3 _ _ _ h.blk];rfl
theorem gQ.KA {W:World} {base Cb:Nat} {cv a:Value} {ch b:List (fT α)} {N wk:Int} (h:W.heap[Cb]? =some (Obj.cells #[.bool true,cv,aa N,aa wk] tc (0,0))) (hb:base<=Cb) (d:ts≠tc/\tc≠te/\ts≠te) (g:W.ownsRow base ts 1 a b.length (b.map dQ)) (f:a.ownBlock≠some Cb):gQ tc ts te (W.setCell (ae Cb 1) a) base Cb a b N wk:=by
 refine⟨hb,d,?_,aV g fun i e=>az fun c=>f (by rw[e,<-c])⟩;rw[dA W Cb 1 _ _ _ h];rfl
theorem gQ.eU {W W':World} {base Cb:Nat} {cv:Value} {ch:List (fT α)} {N wk:Int} (h:gQ tc ts te W base Cb cv ch N wk) {a:Option Nat} (hS:a=cv.ownBlock) (K:au (fun k=>k=Cb\/a=some k) W W'):
  ∀(b:Nat) c fr,W.heap[b]? =some (Obj.cells c te fr)->W'.heap[b]? =W.heap[b]? :=by
 intro b c fr hb;refine K.block b (aZ.1 hb).1 ?_;rintro(rfl|e)
 .rw[h.blk]at hb;injection hb with hb;injection hb with _ hb _;exact h.ds.2.1 hb
 .rw[hS]at e;rcases h.row.2 with⟨rfl,_⟩|⟨g,f,i,rfl,_,d,_⟩
  .cases e
  .simp only[Value.ownBlock,iV]at e;subst e;rw[d]at hb;injection hb with hb;injection hb with _ hb _;exact h.ds.2.2 hb
def eF (CB:List (List α)) (i:Nat):List α:=(CB.take i).reverse.flatten
def jO (CB:List (List α)) (i:Nat) (x:α):List (List α):=List.replicate i []++(eF CB i++[x])::CB.drop (i+1)
def SK (tc ts te:TypeId) (enc:α->List Value) (sz:Nat) (W:World) (base Cb:Nat) (cv:Value) (ch:List (fT α)) (x:α) (N wk:Int) (e:Ending) (w':World):Prop:=
 ∃(i:Nat) (v Bw:Value) (qj:List (fT α)) (Jp:Int),e=.returned (.tuple #[aa i,v])/\i<=ch.length/\(∀j (hj:j<ch.length),j<i->ch[j].2.1≠[])/\(∀hi:i<ch.length,ch[i].2.1=[])/\
  gQ tc ts te w' base Cb Bw qj (N+1) Jp/\(nV enc sz te w' qj/\∀W2:World,(∀(b:Nat) cur fr,w'.heap[b]? =some (Obj.cells cur te fr)->v.ownBlock≠some b->W2.heap[b]? =w'.heap[b]?)->nV enc sz te W2 qj)/\qj.map (·.2.1)=jO (ch.map (·.2.1)) i x/\
  w'.ownsRow W.heap.size te sz v (eF (ch.map (·.2.1)) i++[x]).length ((eF (ch.map (·.2.1)) i++[x]).flatMap enc)/\
  (Bw.ownBlock=cv.ownBlock\/∃b,Bw.ownBlock=some b/\W.heap.size<=b)/\au (fun k=>k=Cb\/cv.ownBlock=some k) W w'/\Nw W.heap.size ch qj/\Jp=wrap64 (wk+((eF (ch.map (·.2.1)) i).length+1:Int))
def sH (ch1:List (fT α)) (i k:Nat):List (fT α):=ch1.take k++(List.replicate (i-k) fF++ch1.drop i)
theorem iB {ch1:List (fT α)} {i k:Nat} (a:k<=i) (hi:i<=ch1.length):(sH ch1 i k).length=ch1.length:=by simp[sH];omega
theorem Jq {ch1:List (fT α)} {i:Nat}:sH ch1 i i=ch1:=by simp[sH]
theorem EX {ch1:List (fT α)} {i:Nat}:sH ch1 i 0=List.replicate i fF++ch1.drop i:=by simp[sH]
theorem Jr {ch1:List (fT α)} {i m:Nat} (hi:i<=ch1.length) (a:m<i):(sH ch1 i (m+1))[m]? =ch1[m]? :=by
 unfold sH;rw[kY (by simp;omega),tK,aK (by omega)]
theorem Js {ch1:List (fT α)} {i m:Nat} (hi:i<=ch1.length) (c:m<i):(sH ch1 i (m+1)).set m fF=sH ch1 i m:=by
 unfold sH;rw[List.set_append_left _ _ (by simp;omega)];have b:m<ch1.length:=by omega
 have a:(ch1.take (m+1)).set m fF=ch1.take m++[fF]:=by
  rw[dZ b,sK _ _ (by simp;omega)];have:m-(ch1.take m).length=0:=by simp;omega
  rw[this];rfl
 rw[a,show i-m=(i-(m+1))+1 by omega,List.replicate_succ,dW];rfl
theorem EY {ch ch1:List (fT α)} {i:Nat} (a:ch1=ch/\i<ch.length\/ch1=ch++[fF]/\i=ch.length) (hd:fT α) (x:α) (d:hd.2.1=eF (ch.map (·.2.1)) i++[x]):
  ((sH ch1 i 0).set i hd).map (·.2.1)=jO (ch.map (·.2.1)) i x:=by
 have c:i<ch1.length:=by rcases a with⟨rfl,h⟩|⟨rfl,h⟩<;>first|omega|(simp;omega)
 have b:(ch1.drop (i+1)).map (·.2.1)=(ch.map (·.2.1)).drop (i+1):=by
  rcases a with⟨rfl,h⟩|⟨rfl,h⟩
  .rw[wZ]
  .rw[nL (by simp;omega),nL (by simp;omega)];rfl
 rw[EX,kZ c,sK _ _ (by simp),gX,kE,nN,bS,lC,b,d,Dj];rfl
theorem yY {ch ch1:List (fT α)} {i:Nat} (b:ch1=ch/\i<ch.length\/ch1=ch++[fF]/\i=ch.length) {hd h:fT α} (c:h∈(sH ch1 i 0).set i hd):h=hd\/h=fF\/h∈ch:=by
 rcases CY c with h1|h1
 .rw[EX,bT]at h1;rcases h1 with h1|h1
  .exact .inr (.inl (zq.1 h1).2)
  .have a:=GV h1;rcases b with⟨rfl,-⟩|⟨rfl,-⟩
   .exact .inr (.inr a)
   .rcases bT.1 a with h3|h3
    .exact .inr (.inr h3)
    .exact .inr (.inl (by simpa using h3))
 .exact .inl h1
def setC:Nat->List α->List (List α)
 |0,_=>[]
 |k+1,r=>if 2^k<=r.length then setC k (r.drop (2^k))++[r.take (2^k)]else setC k r++[[]]
theorem ek:∀(k:Nat) (r:List α),(setC k r).length=k
 |0,_=>rfl
 |k+1,r=>by
  unfold setC;split<;>simp[ek k]
theorem xA:∀(k:Nat) (r:List α) (i:Nat) (h:i<(setC k r).length),(setC k r)[i].length=0\/(setC k r)[i].length=2^i
 |0,_,i,h=>by cases h
 |k+1,r,i,h=>by
  have c:=ek (k+1) r;unfold setC;split
  .rename_i b;by_cases a:i<k
   .rw[p9 (by rw[ek];exact a)];exact xA k _ i _
   .obtain rfl:i=k:=by omega
    rw[uT (by rw[ek];exact ay _)];right;simp only[ek,kE,qC,eB];omega
  .by_cases a:i<k
   .rw[p9 (by rw[ek];exact a)];exact xA k _ i _
   .obtain rfl:i=k:=by omega
    rw[uT (by rw[ek];exact ay _)];left;simp only[ek,kE,qC,fB]
theorem j5:∀(k:Nat) (r:List α),r.length<2^k->(setC k r).flatten.Perm r
 |0,r,h=>by
  obtain rfl:r=[]:=gJ (by simpa using h);exact oL _
 |k+1,r,h=>by
  unfold setC;rw[oO]at h;split
  .rename_i c;rw[kD];simp only[tN,List.flatten_nil,iE];have a:=j5 k (r.drop (2^k)) (by rw[kS];omega);have b:(r.take (2^k)++r.drop (2^k))=r:=ji _ _;refine(List.Perm.append_right _ a).trans (List.perm_append_comm.trans ?_);rw[b]
  .rw[kD];simp only[tN,List.flatten_nil,iE];exact j5 k r (by omega)
theorem KC (k:Nat) (r:List α) (h:2^k<=r.length) (h':k<(setC (k+1) r).length):(setC (k+1) r)[k]≠[]:=by
 have e:setC (k+1) r=setC k (r.drop (2^k))++[r.take (2^k)]:=by rw[setC,aK h]
 have a:(setC (k+1) r)[k]? =some (r.take (2^k)):=by
  rw[e,mG (by rw[ek];exact ay _),ek,kE];rfl
 rw[dw h']at a;injection a with a;rw[a];intro b;have:=congrArg List.length b;have c:0<2^k:=oV (by decide);rw[eB,fB]at this;omega
theorem Co (k:Nat):List.replicate (k+1) (fF:fT α)=List.replicate k fF++[fF]:=qD
theorem Cq (W:World) (k:Nat):nV enc sz te W (List.replicate k (fF:fT α)):=fun h a=>by
 rw[(zq.1 a).2];exact⟨.inl rfl,ay _⟩
theorem EZ (m:Nat) (T:List (List α)) (x:List α):(List.replicate (m+1) []++T).set m x=List.replicate m []++x::T:=by
 rw[qD,dW,sK _ _ (by simp),gX,kE];rfl
theorem E5 {W W':World} {ch:List (fT α)} {m:Nat} {hd:fT α} (h:nV enc sz te W ch) (c:∀(b:Nat) cur fr,W.heap[b]? =some (Obj.cells cur te fr)->W'.heap[b]? =W.heap[b]?) (d:Ky enc sz te W hd.1 hd.2.1) (e:hd.2.1.length<=hd.2.2):nV enc sz te W' (ch.set m hd):=fun x f=>by
 rcases CY f with a|rfl
 .exact⟨(h x a).1.kept c,(h x a).2⟩
 .exact⟨d.kept c,e⟩
end
theorem nV.ME {α:Type} {enc:α->List Value} {sz:Nat} {te:TypeId} {W W':World} {d:List (fT α)} {S T:Nat->Prop} (h:nV enc sz te W d) (hi:∀h∈d,h.2.1≠[]->∀a,h.1=some a->S a.block) (K:au T W W') (hd:∀k,S k->¬T k):nV enc sz te W' d:=fun x i=>by
 have⟨c,l⟩:=h x i;refine⟨?_,l⟩;by_cases e:x.2.1=[]
 .exact .inl e
 .rcases c with c|⟨b,off,j,fr,f,g,m⟩
  .exact .inl c
  .exact .inr ⟨b,off,j,fr,f,(K.block b (aZ.1 g).1 (hd _ (hi x i e _ f))).trans g,m⟩
end
section
open Go.RowKit Go.Sort Go.Shelf Go.Lib Go.Maps
abbrev eG:=Pt×Int
def kJ (p:eG):List Value:=[.int .i64 p.1.1,.int .i64 p.1.2.1,.int .u32 p.1.2.2,.int .i64 p.2]
abbrev SL (x y d n:Int):Value:=.agg #[aa x,aa y,ai d,aa n]
theorem zZ (p:eG):(kJ p).length=4:=rfl
theorem E8 (p:eG):∀u∈kJ p,u.oneCell'=true:=by intro u hu;simp[kJ]at hu;rcases hu with rfl|rfl|rfl|rfl<;>rfl
theorem E9:eH prog 213 187 4 32:=.mk' (z:=.agg #[aa 0,aa 0,ai 0,aa 0]) underlying213 (by kernel_rfl) rfl (by decide)
theorem QJ:eH prog 276 213 1 24:=.mk' (z:=aG) underlying276 (by kernel_rfl) rfl (by decide)
theorem z8 (a:Option Addr) (l:List eG) (n c:Nat) (w:World) (k:l.length=n) (h:cz kJ 4 w a l) (m:n<=1000000):
  aH 208 #[.slice a n c] w fun e w'=>∃v,e=.returned v/\w'.ownsRow w.heap.size 187 4 v n (l.flatMap kJ)/\Below w.heap.size w w':=by
 subst k;have o:∀(w:World) (a:Option Addr) (n c n' d:Nat),(binOp .eql 213 (.slice a n c) (.slice none n' d)).run prog w=.ok (.bool a.isNone) w:=fun w a n c n' d=>C9 w _ _ a n c n' d underlying213;cases a with
 |none=>
  have i:l=[]:=by
   rcases h with h|⟨b,off,h,_⟩
   .exact h
   .cases h
  subst i;go_enter func208,ntmps208;go_wp2;go_ret;exact⟨_,rfl,dz _ _ _ _,aB _ _⟩
 |some ad=>
  have f:=zt (e:=187) (size:=4) w #[] 0 (ay _) (bf _) rfl;have h':cz kJ 4 (w.alloc (.cells #[] 187)) (some ad) l:=h.below ((aB _ _).alloc (ay _) _);go_enter func208,ntmps208
  go_wp2_with (at_builtin;refine iH E9 zZ E8 w.heap.size f h' rfl _ _ rfl rfl c rfl (by unfold maxLen;omega) (by omega) (by simp) ?_;intro p w' g j)
  go_ret;rw[jU,fK]at g;exact⟨_,rfl,g,dB ((aB _ _).alloc (ay _) _) f j (by simp) (ay _)⟩
abbrev yZ:=fT eG
abbrev KD:=Ky kJ 4 187
abbrev ql:=nV kJ 4 187
theorem KD.aC {W:World} {base:Nat} {v:Value} {n:Nat} {l:List eG} (h:W.ownsRow base 187 4 v n (l.flatMap kJ)):∃a c,v=.slice a l.length c/\n=l.length/\l.length<=c/\KD W a l:=Ky.aC zZ (by decide) h
abbrev ma:=@gQ eG 278 213 187
theorem Ub:213≠278/\278≠187/\213≠187:=by decide
theorem vw {W:World} {base Cb:Nat} {cv:Value} {ch:List yZ} {N wk:Int} (h:ma W base Cb cv ch N wk):aH 207 #[ah Cb] W (eY W (.bool false)):=by
 obtain⟨a,-⟩:=h.cell;go_enter func207,ntmps207;go_wp2;go_ret;exact⟨rfl,aB _ _⟩
end
section
open Go.RowKit Go.Maps
attribute [local irreducible] wpQuiet
abbrev Uc:=@SK eG 278 213 187 kJ 4
theorem Rc {W:World} {base Cb:Nat} {cv:Value} {ch:List yZ} {N wk:Int} (h:ma W base Cb cv ch N wk) (dB:base<=W.heap.size) (ci:ql W ch) (x y d nn:Int) (dy:0<=N/\N<=100000) (dP:ch.length<=1000) (dT:(ch.map (·.2.1)).flatten.length<=10000):
  aH 135 #[ah Cb,SL x y d nn] W (Uc W base Cb cv ch ((x,y,d),nn) N wk):=by
 have aX:Below W.heap.size W (W.alloc (.cells #[aa x,aa y,ai d,aa nn] 187)):=(aB _ _).alloc (ay _) _;have co:(W.alloc (.cells #[aa x,aa y,ai d,aa nn] 187)).cell? (ae W.heap.size 0)=some (aa x):=by rw[ed _ _ _ _ rfl];rfl
 have x1:(W.alloc (.cells #[aa x,aa y,ai d,aa nn] 187)).cell? (ae W.heap.size 1)=some (aa y):=by rw[ed _ _ _ _ rfl];rfl
 have x2:(W.alloc (.cells #[aa x,aa y,ai d,aa nn] 187)).cell? (ae W.heap.size 2)=some (ai d):=by rw[ed _ _ _ _ rfl];rfl
 have cp:(W.alloc (.cells #[aa x,aa y,ai d,aa nn] 187)).cell? (ae W.heap.size 3)=some (aa nn):=by rw[ed _ _ _ _ rfl];rfl
 have bA:=af (vw (h.below aX));have H:=af h;have a2:=af ci;have bE:=af aX;clear h ci aX;go_enter func135,ntmps135
 go_wp2_with fail
 refine bA.o.mono ?_;rintro e w2 ⟨rfl,Q⟩;have bz:=af (bE.o.trans (Q.mono (by simp)));have cq:=(Q.cell (p:=(ae W.heap.size 0)) (by simp)).trans co;have y1:=(Q.cell (p:=(ae W.heap.size 1)) (by simp)).trans x1;have y2:=(Q.cell (p:=(ae W.heap.size 2)) (by simp)).trans x2;have cr:=(Q.cell (p:=(ae W.heap.size 3)) (by simp)).trans cp;have ap:W.heap.size<w2.heap.size:=by have:=Q.size;simp at this;omega
 have v:=af (H.o.below bz.o);have bU:=af cq;have bV:=af y1;have bW:=af y2;have bY:=af cr;clear co x1 x2 cp cq y1 y2 cr bA bE Q;obtain⟨cM,cN,cO,cP⟩:=v.o.cell
 go_upto_block 0 with fail
 go_cut [6]from 11 to 30 (fun sv D=>∃i:Nat,sv=.int .i64 i/\Hid (D=w2)/\i<=ch.length/\Hid (∀j (aP:j<ch.length),j<i->ch[j].2.1≠[])/\Hid (∀hi:i<ch.length,ch[i].2.1=[]))
 case first=>
  go_wp2_with fail
  go_loopw [6] (fun bn wr=>∃i:Nat,bn=.int .i64 i/\Hid (wr=w2)/\i<=ch.length/\Hid (∀j (aP:j<ch.length),j<i->ch[j].2.1≠[])) (fun bn _=>ch.length-(intOf bn).toNat)
  case atStart=>exact⟨0,rfl,(by first|rfl|trivial),bf _,fun j _ h=>absurd h (jR _)⟩
  case round=>
   obtain⟨i,rfl,aq,hi,ac⟩:=hrel;obtain rfl:wr=w2:=aq.o;clear aq;obtain⟨av,ad,rfl,-,-,ao⟩:=Rd.aC (enc:=dQ) v.o.row;by_cases cd:i<ch.length
   .obtain⟨b,off,b0,dC,b9⟩:=ao.get (by omega);have z:=b9 i cd;have S:Hid (ch[i].2.1=[]->∀hi:i<ch.length,ch[i].2.1=[]):=fun h _=>h;have aA:Hid (ch[i].2.1≠[]->∀j (aP:j<ch.length),j<i+1->ch[j].2.1≠[]):=fun h j aP da=>by
     rcases CZ.1 da with h9|rfl
     .exact ac.o j aP h9
     .exact h
    have bD:=af b0;unfold dQ at z;clear b9 b0 ao;generalize ch[i]=hd at*;obtain⟨dq,br,dt⟩:=hd;simp only at z S aA;obtain rfl:=bD.o;clear bD;have dR:(i:Int)<(ch.length:Int):=by omega
    by_cases ak:br=[]
    .have Z:=af (S.o ak);clear S aA;subst ak
     go_wp2_with fail
     go_meet;exact⟨i,rfl,(by first|rfl|trivial),hi,ac,Z⟩
    .have Z:=af (aA.o ak);have dc:0<br.length:=Df.2 ak;have dF:decide (0<br.length)=true:=by simp[dc]
     clear ak S aA
     go_wp2_with fail
     go_roundw
     case rel=>exact⟨i+1,by go_num,(by first|rfl|trivial),by omega,Z⟩
     case measure=>simp[intOf];omega
   .have Z:Hid (∀hi:i<ch.length,ch[i].2.1=[]):=fun h=>absurd h cd;have dL:¬(i:Int)<(ch.length:Int):=by omega
    go_wp2_with fail
    go_meet;exact⟨i,rfl,(by first|rfl|trivial),hi,ac,Z⟩
 case rest=>
  obtain⟨i,rfl,aq,hi,ac,S⟩:=hcut;obtain rfl:wc=w2:=aq.o;clear aq;obtain⟨l,am⟩:∃l,l=cv.ownBlock:=⟨_,rfl⟩;have dn:Hid (∀k,(k=Cb\/l=some k)->base<=k):=fun k h=>by
   rcases h with rfl|h
   .exact v.o.hb
   .exact(v.o.row.lt k (am▸h)).1
  have aD:Hid (∀k,l=some k->k<W.heap.size/\k≠Cb):=fun k h=>⟨(H.o.row.lt k (am▸h)).2,fun e=>H.o.ne (by rw[<-am,h,e])⟩;have F:=af am;have dx:=H.o.lt;obtain⟨av,ad,rfl,-,dE,-⟩:=Rd.aC (enc:=dQ) v.o.row;have bM:Hid (au (fun k=>k=Cb\/l=some k) W wc):=(au.refl _ _).grown (bQ bz.o) (by simp);have cD:Hid (∀w6,wc.grownBy w6 (Value.ownBlock (.slice av ch.length ad))->w6.heap[Cb]? =some (Obj.cells #[.bool true,.slice av ch.length ad,aa N,aa wk] 278 (0,0))):=fun w6 A=>(A.block Cb v.o.lt (fun e=>v.o.ne e.symm)).trans v.o.blk;clear am
  go_upto_if 37 with fail
  go_cut []from 37 to 46 (fun D=>∃ag ch1 c aU w,Hid (ma D base Cb ag ch1 N wk)/\ag=aj c aU w/\aU=ch1.length/\i<aU/\Hid (ch1=ch/\i<ch.length\/ch1=ch++[fF]/\i=ch.length)/\Hid (ag.ownBlock=l\/∃b,ag.ownBlock=some b/\W.heap.size<=b)/\Hid (c≠W.heap.size)/\Hid (au (fun k=>k=Cb\/l=some k) W D)/\Hid (au (fun k=>k=Cb\/l=some k) wc D))
  case first=>
   by_cases c9:i=ch.length
   .subst c9;have c5:((ch.length:Int)==(ch.length:Int))=true:=by simp
    go_wp2_with (at_builtin;refine bZ QJ base v.o.row [aG] rfl (by simp[Value.oneCell']) rfl _ _ rfl rfl _ rfl (by unfold maxLen;omega) (by omega) (by omega) ?_;intro bs w6 an A b7;obtain⟨G,n,rfl,dH,dI,dJ,dK⟩:=aQ an (by omega);have bo:=cD.o w6 A;have dV:w6.cell? (ae Cb 1)=some (.slice av ch.length ad):=(by simp[World.cell?,bo]);have dW:w6.frozen? (ae Cb 1)=false:=(by simp[World.frozen?,bo]))
    go_meet;have bi:w6.ownsRow base 213 1 (aj G (ch.length+1) n) (ch++[fF]).length ((ch++[fF]).map dQ):=by
     rw[bq,bS];exact an
    have aK:(some G=l\/G=wc.heap.size+1):=by
     rcases b7 with h9|h9
     .exact .inl (h9.trans F.o.symm)
     .simp only[Value.ownBlock,iV]at h9;rw[h9];exact .inr (by simp)
    have c7:G≠Cb:=by
     rcases aK with h9|h9
     .exact(aD.o G h9.symm).2
     .omega
    refine⟨_,ch++[fF],G,ch.length+1,n,gQ.KA (ch:=ch) bo v.o.hb v.o.ds bi (by simpa[Value.ownBlock]using c7),rfl,by simp,by omega,(by first|exact .inr ⟨rfl,rfl⟩|exact .inr ⟨rfl,trivial⟩),?_,?_,(bM.o.grown A fun k s=>.inl (.inr (F.o.trans s))).set _ (.inl (.inl rfl)),((au.refl _ wc).grown A fun k s=>.inl (.inr (F.o.trans s))).set _ (.inl (.inl rfl))⟩
    .rcases aK with h9|h9
     .exact .inl (by simpa[Value.ownBlock]using h9)
     .exact .inr ⟨G,rfl,by omega⟩
    .show G≠W.heap.size;rcases aK with h9|h9
     .have:=(aD.o G h9.symm).1;omega
     .omega
   .have c5:((i:Int)==(ch.length:Int))=false:=by simp only[beq_eq_false_iff_ne];omega
    have cc:i<ch.length:=by omega
    obtain⟨g,du,a7,c6,aM,-,-⟩:=aQ v.o.row (by omega);injection a7 with a7 _ cR;subst a7 cR;go_wp2;go_meet;have c8:l=some g:=F.o;exact⟨_,ch,g,ch.length,ad,v,rfl,rfl,cc,.inl ⟨rfl,cc⟩,.inl F.o.symm,(by show g≠W.heap.size;have:=(aD.o g c8).1;omega),bM,au.refl _ _⟩
  case rest=>
   obtain⟨ag,ch1,c,aU,w,ar,rfl,rfl,dN,ax,aY,cx,cH,T⟩:=hcut;obtain⟨w3,cV⟩:∃w3:World,w3=wc:=⟨_,rfl⟩;subst cV;have aE:Hid (¬(W.heap.size=Cb\/l=some W.heap.size)):=fun h9=>by
    rcases h9 with h9|h9
    .omega
    .have:=(aD.o _ h9).1;omega
   have cI:Hid (w3.cell? (ae W.heap.size 0)=some (aa x)):=(dD (a:=(ae W.heap.size 0)) (T.o.block _ ap aE.o)).trans bU.o;have cJ:Hid (w3.cell? (ae W.heap.size 1)=some (aa y)):=(dD (a:=(ae W.heap.size 1)) (T.o.block _ ap aE.o)).trans bV.o;have cK:Hid (w3.cell? (ae W.heap.size 2)=some (ai d)):=(dD (a:=(ae W.heap.size 2)) (T.o.block _ ap aE.o)).trans bW.o;have cL:Hid (w3.cell? (ae W.heap.size 3)=some (aa nn)):=(dD (a:=(ae W.heap.size 3)) (T.o.block _ ap aE.o)).trans bY.o;have aT:W.heap.size<w3.heap.size:=bB ap T.o.size;have c6:c<w3.heap.size:=(ar.o.row.lt c rfl).2;have cu:Hid (∀k (s:k<i) (h1:k<ch1.length) (al:k<ch.length),ch1[k]=ch[k]):=fun k s h1 al=>by
    rcases ax.o with⟨e,-⟩|⟨e,-⟩
    .subst e;rfl
    .subst e;exact p9 al
   have cw:Hid (∀W',au (fun k=>k=Cb\/l=some k) W W'->∀k (s:k<ch.length),cz kJ 4 W' ch[k].1 ch[k].2.1):=fun W' c2 k s=>((a2.o _ (bN s)).1.kept (H.o.eU F.o c2)).Mi;have cB:Hid (∀k (s:k<ch.length),k<i->(((ch.map (·.2.1)).take i).drop k).reverse.flatten=(((ch.map (·.2.1)).take i).drop (k+1)).reverse.flatten++ch[k].2.1):=fun k s dO=>by
    rw[kZ (by simp;omega)];simp
   have bH:Hid (∀k,(((ch.map (·.2.1)).take i).drop k).reverse.flatten.length<=10000):=fun k=>by
    generalize ch.map (·.2.1)=CB at*;have dv:(((CB.take i).drop k).reverse.flatten).length=((CB.take i).drop k).flatten.length:=by simp only[Dg,Dq,List.sum_reverse]
    have a6:((CB.take i).take k).flatten++((CB.take i).drop k).flatten=(CB.take i).flatten:=by rw[<-kD,ji]
    have cS:(CB.take i).flatten++(CB.drop i).flatten=CB.flatten:=by rw[<-kD,ji]
    have cT:=congrArg List.length a6;have cU:=congrArg List.length cS;rw[bq]at cT cU;omega
   clear bU bV bW bY cM cN cO cP T
   go_upto_block 2 with fail
   go_cut [7]from 49 to 67 (fun bv D=>Hid (D.ownsRow w3.heap.size 187 4 bv (eF (ch.map (·.2.1)) i).length ((eF (ch.map (·.2.1)) i).flatMap kJ))/\Hid (ma D base Cb (aj c ch1.length w) (sH ch1 i 0) N wk)/\Hid (au (fun k=>k=Cb\/l=some k) W D)/\Hid (au (fun k=>k=c) w3 D))
   case first=>
    go_wp2_with fail
    go_loopw [8,7] (fun bp bv wr=>∃(k:Nat) (bu:Value),bp=.int .i64 ((k:Int)-1)/\bv=bu/\k<=i/\Hid (wr.ownsRow w3.heap.size 187 4 bu (((ch.map (·.2.1)).take i).drop k).reverse.flatten.length ((((ch.map (·.2.1)).take i).drop k).reverse.flatten.flatMap kJ))/\Hid (ma wr base Cb (aj c ch1.length w) (sH ch1 i k) N wk)/\Hid (au (fun k=>k=Cb\/l=some k) W wr)/\Hid (au (fun k=>k=c) w3 wr)) (fun bp _ _=>(intOf bp+1).toNat)
    case atStart=>
     refine⟨i,_,rfl,rfl,ay _,?_,?_,cH,au.refl _ _⟩
     .rw[nL (by simp;omega)];exact dz _ _ _ _
     .rw[Jq];exact ar
    case round=>
     obtain⟨k,bu,rfl,rfl,s,HO,M,ab,E⟩:=hrel;rcases qf k with SN|SN
     .subst SN;have dG:¬(0:Int)<=((0:Nat):Int)-1:=by omega
      rw[nk]at HO
      go_wp2_with fail
      go_meet;exact⟨HO,M,ab,E⟩
     .obtain⟨m,rfl⟩:∃m,k=m+1:=⟨k-1,by omega⟩;have bh:m<ch.length:=by omega
      have ce:m<ch1.length:=by omega
      obtain⟨d0,d1,d2,d3⟩:=M.o.cell;have B:i<=ch1.length:=by omega
      have bk:=M.o.row;rw[iB s B]at bk;have z:=bk.cellAt m (by omega);rw[gY,Jr B (by omega),dw ce,cu.o m (by omega) ce bh]at z;simp only[aO]at z;have ao:=cw.o wr ab.o m bh;have bg:=cB.o m bh (by omega);have X:=bH.o m;rw[bg,bq]at X;have dd:=Js (ch1:=ch1) B (show m<i by omega);have db:=X;generalize(((ch.map (·.2.1)).take i).drop (m+1)).reverse.flatten=L at*;have bG:=af bg;unfold dQ at z;clear bg X;generalize ch[m]=hd at*;obtain⟨dr,dU,cQ⟩:=hd;simp only at z ao db bG;have C:=HO.o.lt;have c1:=ar.o.lt;have cb:=E.o.size;have dS:(m:Int)<(ch1.length:Int):=by omega
      go_wp2_with (at_builtin;refine mJ E9 zZ E8 w3.heap.size HO.o ao rfl _ _ rfl rfl cQ rfl (by unfold maxLen;omega) (by omega) cb ?_;intro bs w6 an A b7;have J:=M.o.grown A (fun e=>(by have:=(C Cb e).1;omega)) (.inr (fun e=>(by have:=(C c e.symm).1;omega)));obtain⟨f0,f1,f2,f3⟩:=J.cell;have b6:=A.block c (by omega) (fun e=>(by have:=(C c e.symm).1;omega));have dX:=(dD (a:=(ae c m)) b6).trans z;have b1:=(oz (a:=(ae c m)) b6).trans (bk.frozenAt m))
      have de:=an.lt;have cE:Hid ((w6.setCell (ae c m) (aG)).ownsRow w3.heap.size 187 4 bs (((ch.map (·.2.1)).take i).drop m).reverse.flatten.length ((((ch.map (·.2.1)).take i).drop m).reverse.flatten.flatMap kJ)):=by
       show World.ownsRow _ _ _ _ _ _ _;rw[bG.o,bq,gM];exact aV an fun cZ e=>az (fun a6=>by have:=(de cZ e).1;simp only at a6;omega)
      have a0:Hid (ma (w6.setCell (ae c m) (aG)) base Cb (aj c ch1.length w) (sH ch1 i m) N wk):=by
       have:=J.Kz (iB s B).symm m fF;rw[dd]at this;exact this
      have bc:l=some c\/W.heap.size<=c:=by
       rcases aY.o with h9|⟨b,h9,c0⟩
       .exact .inl h9.symm
       .simp only[Value.ownBlock,iV]at h9;exact .inr (by omega)
      have a1:Hid (au (fun k=>k=Cb\/l=some k) W (w6.setCell (ae c m) (aG))):=
       (ab.o.grown A (fun b r=>.inr (by have:=(C b r).1;omega))).set _ (by rcases bc with h9|h9;exact .inl (.inr h9);exact .inr h9)
      have cy:Hid (au (fun k=>k=c) w3 (w6.setCell (ae c m) (aG))):=(E.o.grown A (fun b r=>.inr (C b r).1)).set _ (.inl rfl);go_roundw
      case rel=>exact⟨m,bs,by go_num,rfl,by omega,cE,a0,a1,cy⟩
      case measure=>simp[intOf]
   case rest=>
    obtain⟨HO,M,ab,E⟩:=hcut;obtain⟨w4,cW⟩:∃w4:World,w4=wc:=⟨_,rfl⟩;subst cW;have cb:=E.o.size;have B:i<=ch1.length:=by omega
    have I:W.heap.size≠c:=fun e=>cx.o e.symm;have bO:w4.cell? (ae W.heap.size 0)=some (aa x):=(dD (a:=(ae W.heap.size 0)) (E.o.block _ aT I)).trans cI.o;have bP:w4.cell? (ae W.heap.size 1)=some (aa y):=(dD (a:=(ae W.heap.size 1)) (E.o.block _ aT I)).trans cJ.o;have bR:w4.cell? (ae W.heap.size 2)=some (ai d):=(dD (a:=(ae W.heap.size 2)) (E.o.block _ aT I)).trans cK.o;have bT:w4.cell? (ae W.heap.size 3)=some (aa nn):=(dD (a:=(ae W.heap.size 3)) (E.o.block _ aT I)).trans cL.o;have X:=bH.o 0;rw[nk]at X;change(eF (ch.map (·.2.1)) i).length<=10000 at X;have bJ:=(HO.o.alloc (.cells #[aa x,aa y,ai d,aa nn] 187)).bC 1;have bF:=(M.o.grown (qc w4 (.cells #[aa x,aa y,ai d,aa nn] 187) none) (by simp) (.inr (by simp[Value.ownBlock]))).drew;generalize a8:eF (ch.map (·.2.1)) i=f at*;obtain⟨dl,w6,a4,bi,aM,aK⟩:=iY (ty:=213) (t:=213) (P:=prog) E9 w3.heap.size bJ (ae w4.heap.size 0) 1 1 [.int .i64 x,.int .i64 y,.int .u32 d,.int .i64 nn] rfl (by
     intro j u hu;have c3:((ae w4.heap.size 0):Addr).add j=(ae w4.heap.size j):=by unfold Addr.add;split<;>simp_all
     rw[c3];have h9:(w4.alloc (.cells #[aa x,aa y,ai d,aa nn] 187)).cell? (ae w4.heap.size j)=some u:=by
      rw[ed _ _ _ _ (by rfl)];simpa using hu
     exact h9) (by simp[Value.oneCell']) (by unfold maxLen;omega) (by omega) (by simp;omega)
    have C:=bJ.lt;have c1:=ar.o.lt;have J:=bF.grown aM (fun e=>(by have:=(C Cb e).1;omega)) (.inr (fun e=>(by have:=(C c e.symm).1;omega)));have bj:w6.ownsRow w3.heap.size 187 4 dl (f.length+1) ((f++[((x,y,d),nn)]).flatMap kJ):=by
     rw[gM];exact bi
    have cj:=bj.lt;obtain⟨q,n,rfl,-,c4,b2⟩:=KD.aC bj;have aR:(f++[((x,y,d),nn)]).length=f.length+1:=by simp
    rw[aR]at a4 bj c4 cj;have ct:Hid (∀a,q=some a->W.heap.size<=a.block):=fun a bb=>by have:=(cj a.block (by rw[bb];rfl)).1;omega
    obtain⟨f0,f1,f2,f3⟩:=J.cell;have aS:=J.row;rw[iB (bf _) B]at aS;have cm:=aS.cellAt i (by omega);have b1:=aS.frozenAt i;have dg:i<((sH ch1 i 0).map dQ).length:=by rw[bX,iB (bf _) B];omega
    rw[dw dg]at cm;have ba:w4.cell? (ae Cb 1)=some (aj c ch1.length w)/\w4.cell? (ae W.heap.size 0)=some (aa x)/\w4.cell? (ae W.heap.size 1)=some (aa y)/\w4.cell? (ae W.heap.size 2)=some (ai d)/\w4.cell? (ae W.heap.size 3)=some (aa nn):=⟨M.o.cell.2.1,bO,bP,bR,bT⟩;have b3:w4.drew.cell? (ae Cb 1)=some (aj c ch1.length w)/\w4.drew.cell? (ae W.heap.size 0)=some (aa x)/\w4.drew.cell? (ae W.heap.size 1)=some (aa y)/\w4.drew.cell? (ae W.heap.size 2)=some (ai d)/\w4.drew.cell? (ae W.heap.size 3)=some (aa nn):=ba;have aN:=(aB w4.heap.size w4).alloc (ay _) (.cells #[aa x,aa y,ai d,aa nn] 187);have aI:W.heap.size<w4.heap.size:=by omega
    have U:(w4.alloc (.cells #[aa x,aa y,ai d,aa nn] 187)).drew.cell? (ae Cb 1)=some (aj c ch1.length w)/\(w4.alloc (.cells #[aa x,aa y,ai d,aa nn] 187)).drew.cell? (ae W.heap.size 0)=some (aa x)/\(w4.alloc (.cells #[aa x,aa y,ai d,aa nn] 187)).drew.cell? (ae W.heap.size 1)=some (aa y)/\(w4.alloc (.cells #[aa x,aa y,ai d,aa nn] 187)).drew.cell? (ae W.heap.size 2)=some (ai d)/\(w4.alloc (.cells #[aa x,aa y,ai d,aa nn] 187)).drew.cell? (ae W.heap.size 3)=some (aa nn):=
     ⟨bF.cell.2.1,(aN.cell (p:=(ae W.heap.size 0)) aI).trans bO,(aN.cell (p:=(ae W.heap.size 1)) aI).trans bP,(aN.cell (p:=(ae W.heap.size 2)) aI).trans bR,(aN.cell (p:=(ae W.heap.size 3)) aI).trans bT⟩
    have aF:=aM.block W.heap.size (by simp;omega) (fun e=>by have:=(C _ e.symm).1;omega);have V:w6.cell? (ae Cb 1)=some (aj c ch1.length w)/\w6.cell? (ae W.heap.size 0)=some (aa x)/\w6.cell? (ae W.heap.size 1)=some (aa y)/\w6.cell? (ae W.heap.size 2)=some (ai d)/\w6.cell? (ae W.heap.size 3)=some (aa nn):=
     ⟨f1,(dD (a:=(ae W.heap.size 0)) aF).trans U.2.1,(dD (a:=(ae W.heap.size 1)) aF).trans U.2.2.1,(dD (a:=(ae W.heap.size 2)) aF).trans U.2.2.2.1,(dD (a:=(ae W.heap.size 3)) aF).trans U.2.2.2.2⟩
    have R:ma (w6.setCell (ae c i) (.slice q (f.length+1) n)) base Cb (aj c ch1.length w) ((sH ch1 i 0).set i (q,f++[((x,y,d),nn)],n)) N wk:=by
     have:=J.Kz (iB (bf _) B).symm i (q,f++[((x,y,d),nn)],n);unfold dQ at this;rw[aR]at this;exact this
    have b4:(w6.setCell (ae c i) (.slice q (f.length+1) n)).cell? (ae Cb 1)=some (aj c ch1.length w)/\(w6.setCell (ae c i) (.slice q (f.length+1) n)).cell? (ae W.heap.size 0)=some (aa x)/\(w6.setCell (ae c i) (.slice q (f.length+1) n)).cell? (ae W.heap.size 1)=some (aa y)/\(w6.setCell (ae c i) (.slice q (f.length+1) n)).cell? (ae W.heap.size 2)=some (ai d)/\(w6.setCell (ae c i) (.slice q (f.length+1) n)).cell? (ae W.heap.size 3)=some (aa nn):=
     ⟨R.cell.2.1,(dD (a:=(ae W.heap.size 0)) (az (fun e=>I e.symm))).trans V.2.1,(dD (a:=(ae W.heap.size 1)) (az (fun e=>I e.symm))).trans V.2.2.1,(dD (a:=(ae W.heap.size 2)) (az (fun e=>I e.symm))).trans V.2.2.2.1,(dD (a:=(ae W.heap.size 3)) (az (fun e=>I e.symm))).trans V.2.2.2.2⟩
    have dM:(i:Int)<(ch1.length:Int):=by omega
    generalize((sH ch1 i 0).map dQ)[i]=dY at*;go_wp2
    go_hide hQ
    go_region_held3 (fun w'=>w'.cell? (ae Cb 1)=some (aj c ch1.length w)/\w'.cell? (ae W.heap.size 0)=some (aa x)/\w'.cell? (ae W.heap.size 1)=some (aa y)/\w'.cell? (ae W.heap.size 2)=some (ai d)/\w'.cell? (ae W.heap.size 3)=some (aa nn))
     (first|(with_reducible exact ba)|(with_reducible exact b3)|(with_reducible exact U)|(with_reducible exact V)|(with_reducible exact b4)|go_keep)
     ((refine gm rfl (.tmp 73) (.tmp 75) rfl a4 (by simp[Act.eval]) (by simp[Act.eval]) ?_;try simp only[Act.put,yw,nN,ng]))
    all_goals subst hQ
    clear b4;generalize ck:w6.setCell (ae c i) (.slice q (f.length+1) n)=bw at R |-;have Y:=R.zY (N+1);obtain⟨dh,di,dj,dk⟩:=R.cell;have cX:=R.frozen 2;obtain⟨t0,t1,t2,t3⟩:=Y.cell;have cY:=Y.frozen 3;have b8:((sH ch1 i 0).set i (q,f++[((x,y,d),nn)],n)).length=ch1.length:=by rw[jY,iB (bf _) B]
    have bl:=Y.row;rw[b8]at bl;have bx:=bl.cellAt i (by omega);have bd:(((sH ch1 i 0).set i (q,f++[((x,y,d),nn)],n)).map dQ)[i]? =some (.slice q (f.length+1) n):=by
     rw[gY,sJ (by rw[iB (bf _) B];omega)];simp[dQ]
    rw[bd]at bx;have K:=(Y.O6 (wrap64 (wk+((f.length:Int)+1)))).drew;have aw:=af K;clear K;have dA:(-9223372036854775808:Int)<=N+1/\N+1<=9223372036854775807:=by omega
    have a3:=af ck;clear ck;clear f0 f1 f2 f3 cm b1 ba b3 U V a4;have dp:=af bx;have cA:=af bd;have cF:=af b2;have bc:l=some c\/W.heap.size<=c:=by
     rcases aY.o with h9|⟨b,h9,c0⟩
     .exact .inl h9.symm
     .simp only[Value.ownBlock,iV]at h9;exact .inr (by omega)
    have a1:Hid (au (fun k=>k=Cb\/l=some k) W w6):=((ab.o.grown (qc w4 (.cells #[aa x,aa y,ai d,aa nn] 187) none) (by simp)).drew).grown aM (fun b r=>.inr (by have:=(C b r).1;omega));have a0:=af J;clear bd;go_wp2;go_region;have cC:Hid (au (fun k=>k=Cb\/some c=some k) w6 ((bw.setCell (ae Cb 2) (.int .i64 (N+1))).setCell (ae Cb 3) (.int .i64 (wrap64 (wk+((f.length:Int)+1))))).drew):=by
     rw[<-a3.o];exact((((au.refl _ w6).set _ (.inl (.inr rfl))).set _ (.inl (.inl rfl))).set _ (.inl (.inl rfl))).drew
    have bI:Hid (au (fun k=>k=Cb\/l=some k) W ((bw.setCell (ae Cb 2) (.int .i64 (N+1))).setCell (ae Cb 3) (.int .i64 (wrap64 (wk+((f.length:Int)+1))))).drew):=by
     rw[<-a3.o];exact(((a1.o.set _ (by rcases bc with h9|h9;exact .inl (.inr h9);exact .inr h9)).set _ (.inl (.inl rfl))).set _ (.inl (.inl rfl))).drew
    have K:=aw.o;clear bx aw dh di dj dk t0 t1 t2 t3 cX cY R Y a3;generalize df:((bw.setCell (ae Cb 2) (.int .i64 (N+1))).setCell (ae Cb 3) (.int .i64 (wrap64 (wk+((f.length:Int)+1))))).drew=cn at*;obtain⟨u0,u1,u2,u3⟩:=K.cell;have bm:=K.row;rw[b8]at bm;have dm:=bm.cellAt i (by omega);rw[cA.o]at dm;have a9:=cF.o.kept (a0.o.eU rfl cC.o);have cl:=bI.o.size;have cs:=z8 q (f++[((x,y,d),nn)]) (f.length+1) n cn aR a9.Mi (by omega);have aw:=af K;have cG:=af a9;clear df aS bl bm K a9 b2
    go_wp2_with fail
    refine cs.mono ?_;rintro e aW ⟨bt,rfl,cg,aJ⟩;go_wp2;go_ret2;have bK:au (fun k=>k=Cb\/l=some k) W aW:=bI.o.below aJ;have ca:=H.o.eU F.o bK;refine⟨i,bt,aj c ch1.length w,(sH ch1 i 0).set i (q,f++[((x,y,d),nn)],n),_,rfl,hi,ac.o,S.o,aw.o.below aJ,?_,?_,?_,?_,?_,?_,?_⟩
    .have cf:∀b,b<cn.heap.size->bt.ownBlock≠some b:=fun b r e=>by have:=(cg.lt b e).1;omega
     have b5:∀a5:World,(∀(b:Nat) O fr,aW.heap[b]? =some (Obj.cells O 187 fr)->bt.ownBlock≠some b->a5.heap[b]? =aW.heap[b]?)->ql a5 ((sH ch1 i 0).set i (q,f++[((x,y,d),nn)],n)):=by
      intro a5 al h be;rcases yY ax.o be with rfl|rfl|h1
      .exact⟨cG.o.kept fun b O fr r=>(al b O fr ((aL aJ r).trans r) (cf b (aZ.1 r).1)).trans (aL aJ r),by show(f++[((x,y,d),nn)]).length<=n;omega⟩
      .exact⟨.inl rfl,ay _⟩
      .exact⟨(a2.o h h1).1.kept fun b O fr r=>(al b O fr ((ca b O fr r).trans r) (cf b (bB (aZ.1 r).1 cl))).trans (ca b O fr r),(a2.o h h1).2⟩
     exact⟨b5 aW (fun _ _ _ _ _=>rfl),b5⟩
    .exact EY ax.o _ ((x,y,d),nn) (by show f++[((x,y,d),nn)]=_;rw[a8])
    .rw[a8,aR];exact bL cg cl
    .rcases aY.o with h9|h9
     .exact .inl (h9.trans F.o)
     .exact .inr h9
    .exact bK.mono fun k s=>s.imp id fun h9=>F.o▸h9
    .intro h be;rcases yY ax.o be with rfl|rfl|h1
     .exact .inr ct.o
     .exact .inr fun a bb=>by cases bb
     .exact .inl h1
    .rw[a8]
end
section
open Go.RowKit Go.Maps
section
variable {W:World} {base Cb:Nat} {cv:Value} {ch:List yZ} {N wk:Int}
theorem xB (h:ma W base Cb cv ch N wk) (f:ch.length<=1000000):aH 141 #[ah Cb] W (eY W (aa ch.length)):=by
 have b:=af (vw h);have H:=af h;obtain⟨av,d,rfl,-,-,-⟩:=Rd.aC (enc:=dQ) H.o.row;go_enter func141,ntmps141
 go_wp2_with fail
 refine b.o.mono ?_;rintro e w2 ⟨rfl,a⟩;obtain⟨-,c,-⟩:=(H.o.below a).cell;go_wp2;go_ret;exact⟨rfl,a⟩
theorem MF (h:ma W base Cb cv ch N wk):aH 139 #[ah Cb] W (eY W (aa N)):=by
 have b:=af (vw h);have H:=af h;go_enter func139,ntmps139
 go_wp2_with fail
 refine b.o.mono ?_;rintro e w2 ⟨rfl,a⟩;obtain⟨-,-,c,-⟩:=(H.o.below a).cell;go_wp2;go_ret;exact⟨rfl,a⟩
theorem xC (h:ma W base Cb cv ch N wk) (t:ql W ch) (B:ch.length<=1000000) (i:Nat) (hi:i<ch.length) (j:ch[i].2.1.length<=1000000):aH 142 #[ah Cb,aa i] W fun e w'=>
  ∃v,e=.returned v/\w'.ownsRow W.heap.size 187 4 v ch[i].2.1.length (ch[i].2.1.flatMap kJ)/\Below W.heap.size W w':=by
 have m:=af (vw h);have H:=af h;obtain⟨av,w,rfl,-,-,-⟩:=Rd.aC (enc:=dQ) H.o.row;obtain⟨g,x,c,y,z,-,-⟩:=aQ H.o.row (by omega);injection c with c _ q;subst c q;have f:=af (fun W' (d:Below W.heap.size W W')=>(t _ (bN hi)).1.Mi.below d);have b:=af (fun W' (d:Below W.heap.size W W')=>(show W'.cell? (ae g i)=some (dQ ch[i]) by
  have:=((H.o.below d).row).cellAt i (by omega);rw[gY,dw hi]at this;exact this))
 unfold dQ at b;have A:(i:Int)<(ch.length:Int):=by omega
 generalize ch[i]=hd at*;have⟨n,k,p⟩:=hd;simp only at f b j |-;have d1:decide ((i:Int)<0)=false:=by simp
 go_enter func142,ntmps142
 go_wp2_with fail
 refine m.o.mono ?_;rintro e w2 ⟨rfl,a⟩;obtain⟨-,u,-⟩:=(H.o.below a).cell;have D:=b.o w2 a;have l:=af (z8 n k k.length p w2 rfl (f.o w2 a) j)
 go_wp2_with fail
 refine l.o.mono ?_;rintro e w3 ⟨C,rfl,s,r⟩;have HO:=af (bL s a.size);go_wp2;go_ret;exact⟨_,rfl,HO.o,a.trans (r.mono a.size)⟩
end
end
end Go.Proofs.YtkjdbndekceffaaGreat
