/- Made small by a program. -/
import Derived.Test.YtkjdbndekceffaaGreatY03
set_option linter.unusedSimpArgs false
set_option linter.unusedVariables false
set_option maxRecDepth 100000
set_option maxHeartbeats 16000000
namespace Go.Proofs.YtkjdbndekceffaaGreat
open Tryz
section
open Go.RowKit Go.Maps
abbrev gq (α:Type):=Option Addr×List α×Nat
def dS {α:Type} (h:gq α):Value:=.slice h.1 h.2.1.length h.2.2
theorem aT {W W':World} (h:Below W.heap.size W W') {b:Nat} {o:Obj} (a:W.heap[b]? =some o):W'.heap[b]? =W.heap[b]? :=h.block b (aY.1 a).1
section
variable {α:Type} {enc:α->List Value} {sz:Nat} {te ts tc:TypeId}
def Lu (enc:α->List Value) (sz:Nat) (te:TypeId) (W:World) (a:Option Addr) (l:List α):Prop:=
 l=[]\/∃b off cur fr,a=some (af b off)/\W.heap[b]? =some (Obj.cells cur te fr)/\∀i (h:i<l.length),∀j,j<sz->cur[off+i*sz+j]? =(enc l[i])[j]?
theorem Lu.Nr {W:World} {a:Option Addr} {l:List α} (h:Lu enc sz te W a l):bV enc sz W a l:=by
 rcases h with h|⟨b,off,f,fr,rfl,c,d⟩
 .exact .inl h
 .refine .inr ⟨b,off,rfl,(aY.1 c).1,fun i hi j e=>?_⟩;have:=d i hi j e;simp only[World.cell?,c];simpa using this
theorem Lu.aG (d:∀p,(enc p).length=sz) (m:0<sz) {W:World} {base:Nat} {v:Value} {n:Nat} {l:List α} (h:W.ownsRow base te sz v n (l.flatMap enc)):∃a c,v=.slice a l.length c/\n=l.length/\l.length<=c/\Lu enc sz te W a l:=by
 have⟨e,h⟩:=h;rw[gp d]at e;obtain rfl:n=l.length:=Nat.eq_of_mul_eq_mul_right m e.symm;rcases h with⟨rfl,s⟩|⟨g,f,k,rfl,t,q,o,u,w,ht⟩
 .obtain rfl:l=[]:=gU s;exact⟨none,0,rfl,rfl,aB _,.inl rfl⟩
 .refine⟨_,f,rfl,rfl,o,.inr ⟨g,0,k,_,rfl,q,fun i hi j r=>?_⟩⟩;have b:=flat_get d l i hi j r;rw[<-ht,uK,aO (by have:=pF sz (Nat.succ_le_of_lt hi);rw[Nat.succ_mul]at this;omega)]at b;simpa using b
theorem Lu.kept {W W':World} {a:Option Addr} {l:List α} (h:Lu enc sz te W a l) (f:∀(b:Nat) c fr,W.heap[b]? =some (Obj.cells c te fr)->W'.heap[b]? =W.heap[b]?):Lu enc sz te W' a l:=by
 rcases h with h|⟨b,off,c,fr,rfl,d,e⟩
 .exact .inl h
 .exact .inr ⟨b,off,c,fr,rfl,(f b c fr d).trans d,e⟩
def oO (enc:α->List Value) (sz:Nat) (te:TypeId) (W:World) (hs:List (gq α)):Prop:=∀h∈hs,Lu enc sz te W h.1 h.2.1/\h.2.1.length<=h.2.2
theorem oO.kept {W W':World} {a:List (gq α)} (h:oO enc sz te W a) (d:∀(b:Nat) cur fr,W.heap[b]? =some (Obj.cells cur te fr)->W'.heap[b]? =W.heap[b]?):oO enc sz te W' a:=fun x c=>⟨(h x c).1.kept d,(h x c).2⟩
abbrev fH {α:Type}:gq α:=(none,[],0)
def Nw {α:Type} (n:Nat) (ch qU:List (gq α)):Prop:=∀h∈qU,h∈ch\/∀a,h.1=some a->n<=a.block
theorem Nw.refl {n:Nat} {ch:List (gq α)}:Nw n ch ch:=fun h a=>.inl a
theorem Nw.Sy {n k:Nat} {ch:List (gq α)}:Nw n ch (List.replicate k fH):=fun h c=>.inr fun a b=>by rw[(Ag.1 c).2]at b;cases b
theorem Nw.trans {n m:Nat} {b c d:List (gq α)} (e:Nw n b c) (f:Nw m c d) (k:n<=m):Nw n b d:=fun h j=>by
 rcases f h j with g|g
 .exact e h g
 .exact .inr fun a i=>bA k (g a i)
theorem Nw.nil {n m:Nat} {c b:List (gq α)} (h:Nw m [] b) (e:n<=m):Nw n c b:=fun x f=>by
 rcases h x f with i|g
 .cases i
 .exact .inr fun a d=>bA e (g a d)
theorem Nw.set {n:Nat} {b c:List (gq α)} (d:Nw n b c) {k:Nat} {hd:gq α} (e:∀a,hd.1=some a->n<=a.block):Nw n b (c.set k hd):=fun h g=>by
 rcases D6 g with f|rfl
 .exact d h f
 .exact .inr e
theorem Nw.snoc {n:Nat} {b c:List (gq α)} (d:Nw n b c) {hd:gq α} (e:∀a,hd.1=some a->n<=a.block):Nw n b (c++[hd]):=fun h f=>by
 rcases bO.1 f with h9|h9
 .exact d h h9
 .obtain rfl:h=hd:=aP h9;exact .inr e
structure ik (tc ts te:TypeId) (W:World) (base Cb:Nat) (cv:Value) (ch:List (gq α)) (N wk:Int):Prop where
 hb:base<=Cb
 ds:ts≠tc/\tc≠te/\ts≠te
 blk:W.heap[Cb]? =some (Obj.cells #[.bool true,cv,ae N,ae wk] tc (0,0))
 row:W.ownsRow base ts 1 cv ch.length (ch.map dS)
theorem ik.cell {W:World} {base Cb:Nat} {cv:Value} {ch:List (gq α)} {N wk:Int} (h:ik tc ts te W base Cb cv ch N wk):
  W.cell? (af Cb 0)=some (.bool true)/\W.cell? (af Cb 1)=some cv/\W.cell? (af Cb 2)=some (ae N)/\W.cell? (af Cb 3)=some (ae wk):=by
 have:=h.blk;refine⟨?_,?_,?_,?_⟩<;>simp[World.cell?,this]
theorem ik.frozen {W:World} {base Cb:Nat} {cv:Value} {ch:List (gq α)} {N wk:Int} (h:ik tc ts te W base Cb cv ch N wk) (j:Nat):W.frozen? (af Cb j)=false:=by
 have:=h.blk;simp[World.frozen?,this]
theorem ik.lt {W:World} {base Cb:Nat} {cv:Value} {ch:List (gq α)} {N wk:Int} (h:ik tc ts te W base Cb cv ch N wk):Cb<W.heap.size:=(aY.1 h.blk).1
theorem ik.ne {W:World} {base Cb:Nat} {cv:Value} {ch:List (gq α)} {N wk:Int} (h:ik tc ts te W base Cb cv ch N wk):cv.ownBlock≠some Cb:=by
 intro e;rcases h.row.2 with⟨rfl,_⟩|⟨g,b,c,rfl,_,a,_⟩
 .cases e
 .simp only[Value.ownBlock,jk]at e;subst e;rw[h.blk]at a;injection a with a;injection a with _ a _;exact h.ds.1 a.symm
theorem ik.grown {W W':World} {base Cb:Nat} {cv:Value} {ch:List (gq α)} {N wk:Int} {r:Option Nat} (h:ik tc ts te W base Cb cv ch N wk) (a:W.grownBy W' r) (b:r≠some Cb) (c:cv.ownBlock=none\/cv.ownBlock≠r):ik tc ts te W' base Cb cv ch N wk:=
 ⟨h.hb,h.ds,(a.block Cb h.lt (fun e=>b e.symm)).trans h.blk,h.row.kept a c⟩
theorem ik.below {W W':World} {base Cb:Nat} {cv:Value} {ch:List (gq α)} {N wk:Int} (h:ik tc ts te W base Cb cv ch N wk) (hb:Below W.heap.size W W'):ik tc ts te W' base Cb cv ch N wk:=
 h.grown (bM hb) aA (by cases a:cv.ownBlock<;>simp)
theorem ik.drew {W:World} {base Cb:Nat} {cv:Value} {ch:List (gq α)} {N wk:Int} (h:ik tc ts te W base Cb cv ch N wk):ik tc ts te W.drew base Cb cv ch N wk:=⟨h.hb,h.ds,h.blk,h.row⟩
theorem ik.Lv {W:World} {base Cb g a n:Nat} {ch:List (gq α)} {N wk:Int} (h:ik tc ts te W base Cb (ax g n a) ch N wk) (c:n=ch.length) (k:Nat) (x:gq α):ik tc ts te (W.setCell (af g k) (dS x)) base Cb (ax g n a) (ch.set k x) N wk:=by
 subst c;have b:=h.row.stored k (dS x);have d:=h.ne;refine⟨h.hb,h.ds,(aC (fun e=>d (by simp only[Value.ownBlock];exact congrArg some e))).trans h.blk,?_⟩;rw[kM,kK];exact b.1
theorem ik.A7 {W:World} {base Cb:Nat} {cv:Value} {ch:List (gq α)} {N wk:Int} (h:ik tc ts te W base Cb cv ch N wk) (a:Int):ik tc ts te (W.setCell (af Cb 2) (.int .i64 a)) base Cb cv ch a wk:=by
 refine⟨h.hb,h.ds,?_,aX h.row fun c e=>aC fun b=>h.ne (by rw[e,<-b])⟩;rw[dC W Cb 2 _ _ _ h.blk];rfl
theorem ik.Qo {W:World} {base Cb:Nat} {cv:Value} {ch:List (gq α)} {N wk:Int} (h:ik tc ts te W base Cb cv ch N wk) (a:Int):ik tc ts te (W.setCell (af Cb 3) (.int .i64 a)) base Cb cv ch N a:=by
 refine⟨h.hb,h.ds,?_,aX h.row fun c e=>aC fun b=>h.ne (by rw[e,<-b])⟩;rw[dC W Cb 3 _ _ _ h.blk];rfl
theorem ik.Lx {W:World} {base Cb:Nat} {cv a:Value} {ch b:List (gq α)} {N wk:Int} (h:W.heap[Cb]? =some (Obj.cells #[.bool true,cv,ae N,ae wk] tc (0,0))) (hb:base<=Cb) (d:ts≠tc/\tc≠te/\ts≠te) (g:W.ownsRow base ts 1 a b.length (b.map dS)) (f:a.ownBlock≠some Cb):ik tc ts te (W.setCell (af Cb 1) a) base Cb a b N wk:=by
 refine⟨hb,d,?_,aX g fun i e=>aC fun c=>f (by rw[e,<-c])⟩;rw[dC W Cb 1 _ _ _ h];rfl
theorem ik.eZ {W W':World} {base Cb:Nat} {cv:Value} {ch:List (gq α)} {N wk:Int} (h:ik tc ts te W base Cb cv ch N wk) {a:Option Nat} (hS:a=cv.ownBlock) (K:ay (fun k=>k=Cb\/a=some k) W W'):
  ∀(b:Nat) c fr,W.heap[b]? =some (Obj.cells c te fr)->W'.heap[b]? =W.heap[b]? :=by
 intro b c fr hb;refine K.block b (aY.1 hb).1 ?_;rintro(rfl|e)
 .rw[h.blk]at hb;injection hb with hb;injection hb with _ hb _;exact h.ds.2.1 hb
 .rw[hS]at e;rcases h.row.2 with⟨rfl,_⟩|⟨g,f,i,rfl,_,d,_⟩
  .cases e
  .simp only[Value.ownBlock,jk]at e;subst e;rw[d]at hb;injection hb with hb;injection hb with _ hb _;exact h.ds.2.2 hb
def eO (CB:List (List α)) (i:Nat):List α:=(CB.take i).reverse.flatten
def kC (CB:List (List α)) (i:Nat) (x:α):List (List α):=List.replicate i []++(eO CB i++[x])::CB.drop (i+1)
def Ui (tc ts te:TypeId) (enc:α->List Value) (sz:Nat) (W:World) (base Cb:Nat) (cv:Value) (ch:List (gq α)) (x:α) (N wk:Int) (e:Ending) (w':World):Prop:=
 ∃(i:Nat) (v Ct:Value) (qU:List (gq α)) (Kg:Int),e=.returned (.tuple #[ae i,v])/\i<=ch.length/\(∀j (hj:j<ch.length),j<i->ch[j].2.1≠[])/\(∀hi:i<ch.length,ch[i].2.1=[])/\
  ik tc ts te w' base Cb Ct qU (N+1) Kg/\(oO enc sz te w' qU/\∀W2:World,(∀(b:Nat) cur fr,w'.heap[b]? =some (Obj.cells cur te fr)->v.ownBlock≠some b->W2.heap[b]? =w'.heap[b]?)->oO enc sz te W2 qU)/\qU.map (·.2.1)=kC (ch.map (·.2.1)) i x/\
  w'.ownsRow W.heap.size te sz v (eO (ch.map (·.2.1)) i++[x]).length ((eO (ch.map (·.2.1)) i++[x]).flatMap enc)/\
  (Ct.ownBlock=cv.ownBlock\/∃b,Ct.ownBlock=some b/\W.heap.size<=b)/\ay (fun k=>k=Cb\/cv.ownBlock=some k) W w'/\Nw W.heap.size ch qU/\Kg=wrap64 (wk+((eO (ch.map (·.2.1)) i).length+1:Int))
def tZ (ch1:List (gq α)) (i k:Nat):List (gq α):=ch1.take k++(List.replicate (i-k) fH++ch1.drop i)
theorem iJ {ch1:List (gq α)} {i k:Nat} (a:k<=i) (hi:i<=ch1.length):(tZ ch1 i k).length=ch1.length:=by simp[tZ];omega
theorem Kh {ch1:List (gq α)} {i:Nat}:tZ ch1 i i=ch1:=by simp[tZ]
theorem FX {ch1:List (gq α)} {i:Nat}:tZ ch1 i 0=List.replicate i fH++ch1.drop i:=by simp[tZ]
theorem Ki {ch1:List (gq α)} {i m:Nat} (hi:i<=ch1.length) (a:m<i):(tZ ch1 i (m+1))[m]? =ch1[m]? :=by
 unfold tZ;rw[lQ aF,uK,aO aa]
theorem Kj {ch1:List (gq α)} {i m:Nat} (hi:i<=ch1.length) (c:m<i):(tZ ch1 i (m+1)).set m fH=tZ ch1 i m:=by
 unfold tZ;rw[List.set_append_left _ _ aF];have b:m<ch1.length:=aa;have a:(ch1.take (m+1)).set m fH=ch1.take m++[fH]:=by
  rw[ig b,ui _ _ aF];have:m-(ch1.take m).length=0:=aF;rw[this];rfl
 rw[a,show i-m=(i-(m+1))+1 by omega,List.replicate_succ,dY];rfl
theorem FY {ch ch1:List (gq α)} {i:Nat} (a:ch1=ch/\i<ch.length\/ch1=ch++[fH]/\i=ch.length) (hd:gq α) (x:α) (d:hd.2.1=eO (ch.map (·.2.1)) i++[x]):
  ((tZ ch1 i 0).set i hd).map (·.2.1)=kC (ch.map (·.2.1)) i x:=by
 have c:i<ch1.length:=by rcases a with⟨rfl,h⟩|⟨rfl,h⟩<;>first|omega|(simp;omega)
 have b:(ch1.drop (i+1)).map (·.2.1)=(ch.map (·.2.1)).drop (i+1):=by
  rcases a with⟨rfl,h⟩|⟨rfl,h⟩
  .rw[xS]
  .rw[ow aF,ow aF];rfl
 rw[FX,mE c,ui _ _ aA,iw,iM,oD,bP,lX,b,d,Ei];rfl
theorem zM {ch ch1:List (gq α)} {i:Nat} (b:ch1=ch/\i<ch.length\/ch1=ch++[fH]/\i=ch.length) {hd h:gq α} (c:h∈(tZ ch1 i 0).set i hd):h=hd\/h=fH\/h∈ch:=by
 rcases D6 c with h1|h1
 .rw[FX,bO]at h1;rcases h1 with h1|h1
  .exact .inr (.inl (Ag.1 h1).2)
  .have a:=Il h1;rcases b with⟨rfl,-⟩|⟨rfl,-⟩
   .exact .inr (.inr a)
   .rcases bO.1 a with h3|h3
    .exact .inr (.inr h3)
    .exact .inr (.inl (aP h3))
 .exact .inl h1
def setC:Nat->List α->List (List α)
 |0,_=>[]
 |k+1,r=>if 2^k<=r.length then setC k (r.drop (2^k))++[r.take (2^k)]else setC k r++[[]]
theorem eD:∀(k:Nat) (r:List α),(setC k r).length=k
 |0,_=>rfl
 |k+1,r=>by
  unfold setC;split<;>simp[eD k]
theorem yj:∀(k:Nat) (r:List α) (i:Nat) (h:i<(setC k r).length),(setC k r)[i].length=0\/(setC k r)[i].length=2^i
 |0,_,i,h=>by cases h
 |k+1,r,i,h=>by
  have c:=eD (k+1) r;unfold setC;split
  .rename_i b;by_cases a:i<k
   .rw[qK (by rw[eD];exact a)];exact yj k _ i _
   .obtain rfl:i=k:=aa;rw[vX (by rw[eD];exact aB _)];right;simp only[eD,iM,nA,eX];omega
  .by_cases a:i<k
   .rw[qK (by rw[eD];exact a)];exact yj k _ i _
   .obtain rfl:i=k:=aa;rw[vX (by rw[eD];exact aB _)];left;simp only[eD,iM,nA,fC]
theorem kQ:∀(k:Nat) (r:List α),r.length<2^k->(setC k r).flatten.Perm r
 |0,r,h=>by
  obtain rfl:r=[]:=gU (aP h);exact nS _
 |k+1,r,h=>by
  unfold setC;rw[pW]at h;split
  .rename_i c;rw[kY];simp only[uM,List.flatten_nil,iL];have a:=kQ k (r.drop (2^k)) (by rw[mJ];omega);have b:(r.take (2^k)++r.drop (2^k))=r:=jB _ _;refine(List.Perm.append_right _ a).trans (List.perm_append_comm.trans ?_);rw[b]
  .rw[kY];simp only[uM,List.flatten_nil,iL];exact kQ k r aa
theorem LA (k:Nat) (r:List α) (h:2^k<=r.length) (h':k<(setC (k+1) r).length):(setC (k+1) r)[k]≠[]:=by
 have e:setC (k+1) r=setC k (r.drop (2^k))++[r.take (2^k)]:=by rw[setC,aO h]
 have a:(setC (k+1) r)[k]? =some (r.take (2^k)):=by
  rw[e,nz (by rw[eD];exact aB _),eD,iM];rfl
 rw[bZ h']at a;injection a with a;rw[a];intro b;have:=congrArg List.length b;have c:0<2^k:=p8 ai;rw[eX,fC]at this;omega
theorem Dn (k:Nat):List.replicate (k+1) (fH:gq α)=List.replicate k fH++[fH]:=ry
theorem Dp (W:World) (k:Nat):oO enc sz te W (List.replicate k (fH:gq α)):=fun h a=>by
 rw[(Ag.1 a).2];exact⟨.inl rfl,aB _⟩
theorem FZ (m:Nat) (T:List (List α)) (x:List α):(List.replicate (m+1) []++T).set m x=List.replicate m []++x::T:=by
 rw[ry,dY,ui _ _ aA,iw,iM];rfl
theorem F3 {W W':World} {ch:List (gq α)} {m:Nat} {hd:gq α} (h:oO enc sz te W ch) (c:∀(b:Nat) cur fr,W.heap[b]? =some (Obj.cells cur te fr)->W'.heap[b]? =W.heap[b]?) (d:Lu enc sz te W hd.1 hd.2.1) (e:hd.2.1.length<=hd.2.2):oO enc sz te W' (ch.set m hd):=fun x f=>by
 rcases D6 f with a|rfl
 .exact⟨(h x a).1.kept c,(h x a).2⟩
 .exact⟨d.kept c,e⟩
end
theorem oO.NK {α:Type} {enc:α->List Value} {sz:Nat} {te:TypeId} {W W':World} {d:List (gq α)} {S T:Nat->Prop} (h:oO enc sz te W d) (hi:∀h∈d,h.2.1≠[]->∀a,h.1=some a->S a.block) (K:ay T W W') (hd:∀k,S k->¬T k):oO enc sz te W' d:=fun x i=>by
 have⟨c,l⟩:=h x i;refine⟨?_,l⟩;by_cases e:x.2.1=[]
 .exact .inl e
 .rcases c with c|⟨b,off,j,fr,f,g,m⟩
  .exact .inl c
  .exact .inr ⟨b,off,j,fr,f,(K.block b (aY.1 g).1 (hd _ (hi x i e _ f))).trans g,m⟩
end
section
open Go.RowKit Go.Sort Go.Shelf Go.Lib Go.Maps
abbrev eP:=Pt×Int
def ll (p:eP):List Value:=[.int .i64 p.1.1,.int .i64 p.1.2.1,.int .u32 p.1.2.2,.int .i64 p.2]
abbrev Uj (x y d n:Int):Value:=.agg #[ae x,ae y,ak d,ae n]
theorem A8 (p:eP):(ll p).length=4:=rfl
theorem F4 (p:eP):∀u∈ll p,u.oneCell'=true:=by intro u hu;simp[ll]at hu;rcases hu with rfl|rfl|rfl|rfl<;>rfl
theorem F5:eG prog 213 187 4 32:=.mk' (z:=.agg #[ae 0,ae 0,ak 0,ae 0]) underlying213 aN rfl ai
theorem RU:eG prog 276 213 1 24:=.mk' (z:=aL) underlying276 aN rfl ai
theorem A9 (a:Option Addr) (l:List eP) (n c:Nat) (w:World) (k:l.length=n) (h:bV ll 4 w a l) (m:n<=1000000):
  aK 208 #[.slice a n c] w fun e w'=>∃v,e=.returned v/\w'.ownsRow w.heap.size 187 4 v n (l.flatMap ll)/\Below w.heap.size w w':=by
 subst k;have o:∀(w:World) (a:Option Addr) (n c n' d:Nat),(binOp .eql 213 (.slice a n c) (.slice none n' d)).run prog w=.ok (.bool a.isNone) w:=fun w a n c n' d=>D9 w _ _ a n c n' d underlying213;cases a with
 |none=>
  have i:l=[]:=by
   rcases h with h|⟨b,off,h,_⟩
   .exact h
   .cases h
  subst i;go_enter func208,ntmps208;go_wp2;go_ret;exact⟨_,rfl,dA _ _ _ _,aJ _ _⟩
 |some ad=>
  have f:=Ah (e:=187) (size:=4) w #[] 0 (aB _) (bH _) rfl;have h':bV ll 4 (w.alloc (.cells #[] 187)) (some ad) l:=h.below ((aJ _ _).alloc (aB _) _);go_enter func208,ntmps208
  go_wp2_with (at_builtin;refine iP F5 A8 F4 w.heap.size f h' rfl _ _ rfl rfl c rfl dI aa aA ?_;intro p w' g j)
  go_ret;rw[kG,fO]at g;exact⟨_,rfl,g,dB ((aJ _ _).alloc (aB _) _) f j aA (aB _)⟩
abbrev zN:=gq eP
abbrev LB:=Lu ll 4 187
abbrev qV:=oO ll 4 187
theorem LB.aG {W:World} {base:Nat} {v:Value} {n:Nat} {l:List eP} (h:W.ownsRow base 187 4 v n (l.flatMap ll)):∃a c,v=.slice a l.length c/\n=l.length/\l.length<=c/\LB W a l:=Lu.aG A8 ai h
abbrev mU:=@ik eP 278 213 187
theorem Vi:213≠278/\278≠187/\213≠187:=ai
theorem wE {W:World} {base Cb:Nat} {cv:Value} {ch:List zN} {N wk:Int} (h:mU W base Cb cv ch N wk):aK 207 #[aj Cb] W (fV W (.bool false)):=by
 obtain⟨a,-⟩:=h.cell;go_enter func207,ntmps207;go_wp2;go_ret;exact⟨rfl,aJ _ _⟩
end
section
open Go.RowKit Go.Maps
attribute [local irreducible] wpQuiet
abbrev Vj:=@Ui eP 278 213 187 ll 4
theorem Sz {W:World} {base Cb:Nat} {cv:Value} {ch:List zN} {N wk:Int} (h:mU W base Cb cv ch N wk) (dE:base<=W.heap.size) (cm:qV W ch) (x y d nn:Int) (dC:0<=N/\N<=100000) (dT:ch.length<=1000) (dW:(ch.map (·.2.1)).flatten.length<=10000):
  aK 135 #[aj Cb,Uj x y d nn] W (Vj W base Cb cv ch ((x,y,d),nn) N wk):=by
 have a1:Below W.heap.size W (W.alloc (.cells #[ae x,ae y,ak d,ae nn] 187)):=(aJ _ _).alloc (aB _) _;have cs:(W.alloc (.cells #[ae x,ae y,ak d,ae nn] 187)).cell? (af W.heap.size 0)=some (ae x):=by rw[eu _ _ _ _ rfl];rfl
 have x1:(W.alloc (.cells #[ae x,ae y,ak d,ae nn] 187)).cell? (af W.heap.size 1)=some (ae y):=by rw[eu _ _ _ _ rfl];rfl
 have x2:(W.alloc (.cells #[ae x,ae y,ak d,ae nn] 187)).cell? (af W.heap.size 2)=some (ak d):=by rw[eu _ _ _ _ rfl];rfl
 have ct:(W.alloc (.cells #[ae x,ae y,ak d,ae nn] 187)).cell? (af W.heap.size 3)=some (ae nn):=by rw[eu _ _ _ _ rfl];rfl
 have bB:=ag (wE (h.below a1));have H:=ag h;have a5:=ag cm;have bD:=ag a1;clear h cm a1;go_enter func135,ntmps135
 go_wp2_with fail
 refine bB.o.mono ?_;rintro e w2 ⟨rfl,Q⟩;have bA:=ag (bD.o.trans (Q.mono aA));have cu:=(Q.cell (p:=(af W.heap.size 0)) aA).trans cs;have y1:=(Q.cell (p:=(af W.heap.size 1)) aA).trans x1;have y2:=(Q.cell (p:=(af W.heap.size 2)) aA).trans x2;have cw:=(Q.cell (p:=(af W.heap.size 3)) aA).trans ct;have ap:W.heap.size<w2.heap.size:=by have:=Q.size;simp at this;omega
 have v:=ag (H.o.below bA.o);have b0:=ag cu;have b1:=ag y1;have b2:=ag y2;have b3:=ag cw;clear cs x1 x2 ct cu y1 y2 cw bB bD Q;obtain⟨cP,cQ,cR,cS⟩:=v.o.cell
 go_upto_block 0 with fail
 go_cut [6]from 11 to 30 (fun sv D=>∃i:Nat,sv=.int .i64 i/\Hid (D=w2)/\i<=ch.length/\Hid (∀j (aS:j<ch.length),j<i->ch[j].2.1≠[])/\Hid (∀hi:i<ch.length,ch[i].2.1=[]))
 case first=>
  go_wp2_with fail
  go_loopw [6] (fun bq wr=>∃i:Nat,bq=.int .i64 i/\Hid (wr=w2)/\i<=ch.length/\Hid (∀j (aS:j<ch.length),j<i->ch[j].2.1≠[])) (fun bq _=>ch.length-(intOf bq).toNat)
  case atStart=>exact⟨0,rfl,(by first|rfl|trivial),bH _,fun j _ h=>absurd h (jL _)⟩
  case round=>
   obtain⟨i,rfl,aq,hi,ac⟩:=hrel;obtain rfl:wr=w2:=aq.o;clear aq;obtain⟨av,ad,rfl,-,-,ao⟩:=Rd.aG (enc:=dS) v.o.row;by_cases ci:i<ch.length
   .obtain⟨b,off,b4,dF,cd⟩:=ao.get aa;have z:=cd i ci;have S:Hid (ch[i].2.1=[]->∀hi:i<ch.length,ch[i].2.1=[]):=fun h _=>h;have az:Hid (ch[i].2.1≠[]->∀j (aS:j<ch.length),j<i+1->ch[j].2.1≠[]):=fun h j aS dd=>by
     rcases D7.1 dd with h9|rfl
     .exact ac.o j aS h9
     .exact h
    have bC:=ag b4;unfold dS at z;clear cd b4 ao;generalize ch[i]=hd at*;obtain⟨du,bt,dw⟩:=hd;simp only at z S az;obtain rfl:=bC.o;clear bC;have dU:(i:Int)<(ch.length:Int):=aa;by_cases ai:bt=[]
    .have Z:=ag (S.o ai);clear S az;subst ai
     go_wp2_with fail
     go_meet;exact⟨i,rfl,(by first|rfl|trivial),hi,ac,Z⟩
    .have Z:=ag (az.o ai);have df:0<bt.length:=Aa.2 ai;have dH:decide (0<bt.length)=true:=by simp[df]
     clear ai S az
     go_wp2_with fail
     go_roundw
     case rel=>exact⟨i+1,by go_num,(by first|rfl|trivial),aa,Z⟩
     case measure=>exact dX
   .have Z:Hid (∀hi:i<ch.length,ch[i].2.1=[]):=fun h=>absurd h ci;have dO:¬(i:Int)<(ch.length:Int):=aa
    go_wp2_with fail
    go_meet;exact⟨i,rfl,(by first|rfl|trivial),hi,ac,Z⟩
 case rest=>
  obtain⟨i,rfl,aq,hi,ac,S⟩:=hcut;obtain rfl:wc=w2:=aq.o;clear aq;obtain⟨l,am⟩:∃l,l=cv.ownBlock:=⟨_,rfl⟩;have dr:Hid (∀k,(k=Cb\/l=some k)->base<=k):=fun k h=>by
   rcases h with rfl|h
   .exact v.o.hb
   .exact(v.o.row.lt k (am▸h)).1
  have aE:Hid (∀k,l=some k->k<W.heap.size/\k≠Cb):=fun k h=>⟨(H.o.row.lt k (am▸h)).2,fun e=>H.o.ne (by rw[<-am,h,e])⟩;have F:=ag am;have dB:=H.o.lt;obtain⟨av,ad,rfl,-,dG,-⟩:=Rd.aG (enc:=dS) v.o.row;have bO:Hid (ay (fun k=>k=Cb\/l=some k) W wc):=(ay.refl _ _).grown (bM bA.o) aA;have cG:Hid (∀w6,wc.grownBy w6 (Value.ownBlock (.slice av ch.length ad))->w6.heap[Cb]? =some (Obj.cells #[.bool true,.slice av ch.length ad,ae N,ae wk] 278 (0,0))):=fun w6 A=>(A.block Cb v.o.lt (fun e=>v.o.ne e.symm)).trans v.o.blk;clear am
  go_upto_if 37 with fail
  go_cut []from 37 to 46 (fun D=>∃ah ch1 c aZ w,Hid (mU D base Cb ah ch1 N wk)/\ah=ax c aZ w/\aZ=ch1.length/\i<aZ/\Hid (ch1=ch/\i<ch.length\/ch1=ch++[fH]/\i=ch.length)/\Hid (ah.ownBlock=l\/∃b,ah.ownBlock=some b/\W.heap.size<=b)/\Hid (c≠W.heap.size)/\Hid (ay (fun k=>k=Cb\/l=some k) W D)/\Hid (ay (fun k=>k=Cb\/l=some k) wc D))
  case first=>
   by_cases dc:i=ch.length
   .subst dc;have c8:((ch.length:Int)==(ch.length:Int))=true:=aA
    go_wp2_with (at_builtin;refine bX RU base v.o.row [aL] rfl (by simp[Value.oneCell']) rfl _ _ rfl rfl _ rfl dI aa aa ?_;intro bu w6 an A cb;obtain⟨G,n,rfl,dK,dL,dM,dN⟩:=aQ an aa;have br:=cG.o w6 A;have dZ:w6.cell? (af Cb 1)=some (.slice av ch.length ad):=(aD br);have d4:w6.frozen? (af Cb 1)=false:=(aD br))
    go_meet;have bk:w6.ownsRow base 213 1 (ax G (ch.length+1) n) (ch++[fH]).length ((ch++[fH]).map dS):=by
     rw[bQ,bP];exact an
    have aO:(some G=l\/G=wc.heap.size+1):=by
     rcases cb with h9|h9
     .exact .inl (h9.trans F.o.symm)
     .simp only[Value.ownBlock,jk]at h9;rw[h9];exact .inr aA
    have da:G≠Cb:=by
     rcases aO with h9|h9
     .exact(aE.o G h9.symm).2
     .omega
    refine⟨_,ch++[fH],G,ch.length+1,n,ik.Lx (ch:=ch) br v.o.hb v.o.ds bk (by simpa[Value.ownBlock]using da),rfl,aA,aa,(by first|exact .inr ⟨rfl,rfl⟩|exact .inr ⟨rfl,trivial⟩),?_,?_,(bO.o.grown A fun k s=>.inl (.inr (F.o.trans s))).set _ (.inl (.inl rfl)),((ay.refl _ wc).grown A fun k s=>.inl (.inr (F.o.trans s))).set _ (.inl (.inl rfl))⟩
    .rcases aO with h9|h9
     .exact .inl (by simpa[Value.ownBlock]using h9)
     .exact .inr ⟨G,rfl,aa⟩
    .show G≠W.heap.size;rcases aO with h9|h9
     .have:=(aE.o G h9.symm).1;omega
     .omega
   .have c8:((i:Int)==(ch.length:Int))=false:=by simp only[beq_eq_false_iff_ne];omega
    have cg:i<ch.length:=aa;obtain⟨g,dx,ba,c9,aP,-,-⟩:=aQ v.o.row aa;injection ba with ba _ cU;subst ba cU;go_wp2;go_meet;have db:l=some g:=F.o;exact⟨_,ch,g,ch.length,ad,v,rfl,rfl,cg,.inl ⟨rfl,cg⟩,.inl F.o.symm,(by show g≠W.heap.size;have:=(aE.o g db).1;omega),bO,ay.refl _ _⟩
  case rest=>
   obtain⟨ah,ch1,c,aZ,w,ar,rfl,rfl,dQ,aw,a2,cB,cK,T⟩:=hcut;obtain⟨w3,cY⟩:∃w3:World,w3=wc:=⟨_,rfl⟩;subst cY;have aH:Hid (¬(W.heap.size=Cb\/l=some W.heap.size)):=fun h9=>by
    rcases h9 with h9|h9
    .omega
    .have:=(aE.o _ h9).1;omega
   have cL:Hid (w3.cell? (af W.heap.size 0)=some (ae x)):=(dz (a:=(af W.heap.size 0)) (T.o.block _ ap aH.o)).trans b0.o;have cM:Hid (w3.cell? (af W.heap.size 1)=some (ae y)):=(dz (a:=(af W.heap.size 1)) (T.o.block _ ap aH.o)).trans b1.o;have cN:Hid (w3.cell? (af W.heap.size 2)=some (ak d)):=(dz (a:=(af W.heap.size 2)) (T.o.block _ ap aH.o)).trans b2.o;have cO:Hid (w3.cell? (af W.heap.size 3)=some (ae nn)):=(dz (a:=(af W.heap.size 3)) (T.o.block _ ap aH.o)).trans b3.o;have aW:W.heap.size<w3.heap.size:=bT ap T.o.size;have c9:c<w3.heap.size:=(ar.o.row.lt c rfl).2;have cz:Hid (∀k (s:k<i) (h1:k<ch1.length) (al:k<ch.length),ch1[k]=ch[k]):=fun k s h1 al=>by
    rcases aw.o with⟨e,-⟩|⟨e,-⟩
    .subst e;rfl
    .subst e;exact qK al
   have cA:Hid (∀W',ay (fun k=>k=Cb\/l=some k) W W'->∀k (s:k<ch.length),bV ll 4 W' ch[k].1 ch[k].2.1):=fun W' c5 k s=>((a5.o _ (bG s)).1.kept (H.o.eZ F.o c5)).Nr;have cE:Hid (∀k (s:k<ch.length),k<i->(((ch.map (·.2.1)).take i).drop k).reverse.flatten=(((ch.map (·.2.1)).take i).drop (k+1)).reverse.flatten++ch[k].2.1):=fun k s dR=>by
    rw[mE aF];simp
   have bI:Hid (∀k,(((ch.map (·.2.1)).take i).drop k).reverse.flatten.length<=10000):=fun k=>by
    generalize ch.map (·.2.1)=CB at*;have dy:(((CB.take i).drop k).reverse.flatten).length=((CB.take i).drop k).flatten.length:=by simp only[Ef,Eo,List.sum_reverse]
    have a9:((CB.take i).take k).flatten++((CB.take i).drop k).flatten=(CB.take i).flatten:=by rw[<-kY,jB]
    have cV:(CB.take i).flatten++(CB.drop i).flatten=CB.flatten:=by rw[<-kY,jB]
    have cW:=congrArg List.length a9;have cX:=congrArg List.length cV;rw[bQ]at cW cX;omega
   clear b0 b1 b2 b3 cP cQ cR cS T
   go_upto_block 2 with fail
   go_cut [7]from 49 to 67 (fun bw D=>Hid (D.ownsRow w3.heap.size 187 4 bw (eO (ch.map (·.2.1)) i).length ((eO (ch.map (·.2.1)) i).flatMap ll))/\Hid (mU D base Cb (ax c ch1.length w) (tZ ch1 i 0) N wk)/\Hid (ay (fun k=>k=Cb\/l=some k) W D)/\Hid (ay (fun k=>k=c) w3 D))
   case first=>
    go_wp2_with fail
    go_loopw [8,7] (fun bs bw wr=>∃(k:Nat) (va:Value),bs=.int .i64 ((k:Int)-1)/\bw=va/\k<=i/\Hid (wr.ownsRow w3.heap.size 187 4 va (((ch.map (·.2.1)).take i).drop k).reverse.flatten.length ((((ch.map (·.2.1)).take i).drop k).reverse.flatten.flatMap ll))/\Hid (mU wr base Cb (ax c ch1.length w) (tZ ch1 i k) N wk)/\Hid (ay (fun k=>k=Cb\/l=some k) W wr)/\Hid (ay (fun k=>k=c) w3 wr)) (fun bs _ _=>(intOf bs+1).toNat)
    case atStart=>
     refine⟨i,_,rfl,rfl,aB _,?_,?_,cK,ay.refl _ _⟩
     .rw[ow aF];exact dA _ _ _ _
     .rw[Kh];exact ar
    case round=>
     obtain⟨k,va,rfl,rfl,s,HO,M,ab,E⟩:=hrel;rcases nC k with Uk|Uk
     .subst Uk;have dJ:¬(0:Int)<=((0:Nat):Int)-1:=aa;rw[kE]at HO
      go_wp2_with fail
      go_meet;exact⟨HO,M,ab,E⟩
     .obtain⟨m,rfl⟩:∃m,k=m+1:=⟨k-1,aa⟩;have bj:m<ch.length:=aa;have cj:m<ch1.length:=aa;obtain⟨d0,d1,d2,d3⟩:=M.o.cell;have B:i<=ch1.length:=aa;have bm:=M.o.row;rw[iJ s B]at bm;have z:=bm.cellAt m aa;rw[iy,Ki B aa,bZ cj,cz.o m aa cj bj]at z;simp only[fP]at z;have ao:=cA.o wr ab.o m bj;have bi:=cE.o m bj aa;have X:=bI.o m;rw[bi,bQ]at X;have dg:=Kj (ch1:=ch1) B (show m<i by omega);have de:=X;generalize(((ch.map (·.2.1)).take i).drop (m+1)).reverse.flatten=L at*;have bF:=ag bi;unfold dS at z;clear bi X;generalize ch[m]=hd at*;obtain⟨dv,dY,cT⟩:=hd;simp only at z ao de bF;have C:=HO.o.lt;have c4:=ar.o.lt;have cf:=E.o.size;have dV:(m:Int)<(ch1.length:Int):=aa
      go_wp2_with (at_builtin;refine nE F5 A8 F4 w3.heap.size HO.o ao rfl _ _ rfl rfl cT rfl dI aa cf ?_;intro bu w6 an A cb;have J:=M.o.grown A (fun e=>(by have:=(C Cb e).1;omega)) (.inr (fun e=>(by have:=(C c e.symm).1;omega)));obtain⟨f0,f1,f2,f3⟩:=J.cell;have ca:=A.block c aa (fun e=>(by have:=(C c e.symm).1;omega));have d5:=(dz (a:=(af c m)) ca).trans z;have b5:=(pE (a:=(af c m)) ca).trans (bm.frozenAt m))
      have dh:=an.lt;have cH:Hid ((w6.setCell (af c m) (aL)).ownsRow w3.heap.size 187 4 bu (((ch.map (·.2.1)).take i).drop m).reverse.flatten.length ((((ch.map (·.2.1)).take i).drop m).reverse.flatten.flatMap ll)):=by
       show World.ownsRow _ _ _ _ _ _ _;rw[bF.o,bQ,gZ];exact aX an fun c2 e=>aC (fun a9=>by have:=(dh c2 e).1;simp only at a9;omega)
      have a3:Hid (mU (w6.setCell (af c m) (aL)) base Cb (ax c ch1.length w) (tZ ch1 i m) N wk):=by
       have:=J.Lv (iJ s B).symm m fH;rw[dg]at this;exact this
      have bf:l=some c\/W.heap.size<=c:=by
       rcases a2.o with h9|⟨b,h9,c3⟩
       .exact .inl h9.symm
       .simp only[Value.ownBlock,jk]at h9;exact .inr aa
      have a4:Hid (ay (fun k=>k=Cb\/l=some k) W (w6.setCell (af c m) (aL))):=
       (ab.o.grown A (fun b r=>.inr (by have:=(C b r).1;omega))).set _ (by rcases bf with h9|h9;exact .inl (.inr h9);exact .inr h9)
      have cC:Hid (ay (fun k=>k=c) w3 (w6.setCell (af c m) (aL))):=(E.o.grown A (fun b r=>.inr (C b r).1)).set _ (.inl rfl);go_roundw
      case rel=>exact⟨m,bu,by go_num,rfl,aa,cH,a3,a4,cC⟩
      case measure=>simp[intOf]
   case rest=>
    obtain⟨HO,M,ab,E⟩:=hcut;obtain⟨w4,cZ⟩:∃w4:World,w4=wc:=⟨_,rfl⟩;subst cZ;have cf:=E.o.size;have B:i<=ch1.length:=aa;have I:W.heap.size≠c:=fun e=>cB.o e.symm;have bS:w4.cell? (af W.heap.size 0)=some (ae x):=(dz (a:=(af W.heap.size 0)) (E.o.block _ aW I)).trans cL.o;have bU:w4.cell? (af W.heap.size 1)=some (ae y):=(dz (a:=(af W.heap.size 1)) (E.o.block _ aW I)).trans cM.o;have bW:w4.cell? (af W.heap.size 2)=some (ak d):=(dz (a:=(af W.heap.size 2)) (E.o.block _ aW I)).trans cN.o;have bY:w4.cell? (af W.heap.size 3)=some (ae nn):=(dz (a:=(af W.heap.size 3)) (E.o.block _ aW I)).trans cO.o;have X:=bI.o 0;rw[kE]at X;change(eO (ch.map (·.2.1)) i).length<=10000 at X;have bL:=(HO.o.alloc (.cells #[ae x,ae y,ak d,ae nn] 187)).bn 1;have bE:=(M.o.grown (qN w4 (.cells #[ae x,ae y,ak d,ae nn] 187) none) aA (.inr (by simp[Value.ownBlock]))).drew;generalize bb:eO (ch.map (·.2.1)) i=f at*;obtain⟨dp,w6,a7,bk,aP,aO⟩:=jo (ty:=213) (t:=213) (P:=prog) F5 w3.heap.size bL (af w4.heap.size 0) 1 1 [.int .i64 x,.int .i64 y,.int .u32 d,.int .i64 nn] rfl (by
     intro j u hu;have c6:((af w4.heap.size 0):Addr).add j=(af w4.heap.size j):=by unfold Addr.add;split<;>simp_all
     rw[c6];have h9:(w4.alloc (.cells #[ae x,ae y,ak d,ae nn] 187)).cell? (af w4.heap.size j)=some u:=by
      rw[eu _ _ _ _ (by rfl)];simpa using hu
     exact h9) (by simp[Value.oneCell']) dI aa aF
    have C:=bL.lt;have c4:=ar.o.lt;have J:=bE.grown aP (fun e=>(by have:=(C Cb e).1;omega)) (.inr (fun e=>(by have:=(C c e.symm).1;omega)));have bl:w6.ownsRow w3.heap.size 187 4 dp (f.length+1) ((f++[((x,y,d),nn)]).flatMap ll):=by
     rw[gZ];exact bk
    have cn:=bl.lt;obtain⟨q,n,rfl,-,c7,b6⟩:=LB.aG bl;have aU:(f++[((x,y,d),nn)]).length=f.length+1:=aA;rw[aU]at a7 bl c7 cn;have cy:Hid (∀a,q=some a->W.heap.size<=a.block):=fun a be=>by have:=(cn a.block (by rw[be];rfl)).1;omega
    obtain⟨f0,f1,f2,f3⟩:=J.cell;have aV:=J.row;rw[iJ (bH _) B]at aV;have cq:=aV.cellAt i aa;have b5:=aV.frozenAt i;have dj:i<((tZ ch1 i 0).map dS).length:=by rw[bR,iJ (bH _) B];omega
    rw[bZ dj]at cq;have bd:w4.cell? (af Cb 1)=some (ax c ch1.length w)/\w4.cell? (af W.heap.size 0)=some (ae x)/\w4.cell? (af W.heap.size 1)=some (ae y)/\w4.cell? (af W.heap.size 2)=some (ak d)/\w4.cell? (af W.heap.size 3)=some (ae nn):=⟨M.o.cell.2.1,bS,bU,bW,bY⟩;have b7:w4.drew.cell? (af Cb 1)=some (ax c ch1.length w)/\w4.drew.cell? (af W.heap.size 0)=some (ae x)/\w4.drew.cell? (af W.heap.size 1)=some (ae y)/\w4.drew.cell? (af W.heap.size 2)=some (ak d)/\w4.drew.cell? (af W.heap.size 3)=some (ae nn):=bd;have aR:=(aJ w4.heap.size w4).alloc (aB _) (.cells #[ae x,ae y,ak d,ae nn] 187);have aM:W.heap.size<w4.heap.size:=aa;have U:(w4.alloc (.cells #[ae x,ae y,ak d,ae nn] 187)).drew.cell? (af Cb 1)=some (ax c ch1.length w)/\(w4.alloc (.cells #[ae x,ae y,ak d,ae nn] 187)).drew.cell? (af W.heap.size 0)=some (ae x)/\(w4.alloc (.cells #[ae x,ae y,ak d,ae nn] 187)).drew.cell? (af W.heap.size 1)=some (ae y)/\(w4.alloc (.cells #[ae x,ae y,ak d,ae nn] 187)).drew.cell? (af W.heap.size 2)=some (ak d)/\(w4.alloc (.cells #[ae x,ae y,ak d,ae nn] 187)).drew.cell? (af W.heap.size 3)=some (ae nn):=
     ⟨bE.cell.2.1,(aR.cell (p:=(af W.heap.size 0)) aM).trans bS,(aR.cell (p:=(af W.heap.size 1)) aM).trans bU,(aR.cell (p:=(af W.heap.size 2)) aM).trans bW,(aR.cell (p:=(af W.heap.size 3)) aM).trans bY⟩
    have aI:=aP.block W.heap.size aF (fun e=>by have:=(C _ e.symm).1;omega);have V:w6.cell? (af Cb 1)=some (ax c ch1.length w)/\w6.cell? (af W.heap.size 0)=some (ae x)/\w6.cell? (af W.heap.size 1)=some (ae y)/\w6.cell? (af W.heap.size 2)=some (ak d)/\w6.cell? (af W.heap.size 3)=some (ae nn):=
     ⟨f1,(dz (a:=(af W.heap.size 0)) aI).trans U.2.1,(dz (a:=(af W.heap.size 1)) aI).trans U.2.2.1,(dz (a:=(af W.heap.size 2)) aI).trans U.2.2.2.1,(dz (a:=(af W.heap.size 3)) aI).trans U.2.2.2.2⟩
    have R:mU (w6.setCell (af c i) (.slice q (f.length+1) n)) base Cb (ax c ch1.length w) ((tZ ch1 i 0).set i (q,f++[((x,y,d),nn)],n)) N wk:=by
     have:=J.Lv (iJ (bH _) B).symm i (q,f++[((x,y,d),nn)],n);unfold dS at this;rw[aU]at this;exact this
    have b8:(w6.setCell (af c i) (.slice q (f.length+1) n)).cell? (af Cb 1)=some (ax c ch1.length w)/\(w6.setCell (af c i) (.slice q (f.length+1) n)).cell? (af W.heap.size 0)=some (ae x)/\(w6.setCell (af c i) (.slice q (f.length+1) n)).cell? (af W.heap.size 1)=some (ae y)/\(w6.setCell (af c i) (.slice q (f.length+1) n)).cell? (af W.heap.size 2)=some (ak d)/\(w6.setCell (af c i) (.slice q (f.length+1) n)).cell? (af W.heap.size 3)=some (ae nn):=
     ⟨R.cell.2.1,(dz (a:=(af W.heap.size 0)) (aC (fun e=>I e.symm))).trans V.2.1,(dz (a:=(af W.heap.size 1)) (aC (fun e=>I e.symm))).trans V.2.2.1,(dz (a:=(af W.heap.size 2)) (aC (fun e=>I e.symm))).trans V.2.2.2.1,(dz (a:=(af W.heap.size 3)) (aC (fun e=>I e.symm))).trans V.2.2.2.2⟩
    have dP:(i:Int)<(ch1.length:Int):=aa;generalize((tZ ch1 i 0).map dS)[i]=d6 at*;go_wp2
    go_hide hQ
    go_region_held3 (fun w'=>w'.cell? (af Cb 1)=some (ax c ch1.length w)/\w'.cell? (af W.heap.size 0)=some (ae x)/\w'.cell? (af W.heap.size 1)=some (ae y)/\w'.cell? (af W.heap.size 2)=some (ak d)/\w'.cell? (af W.heap.size 3)=some (ae nn))
     (first|(with_reducible exact bd)|(with_reducible exact b7)|(with_reducible exact U)|(with_reducible exact V)|(with_reducible exact b8)|go_keep)
     ((refine gD rfl (.tmp 73) (.tmp 75) rfl a7 (by simp[Act.eval]) (by simp[Act.eval]) ?_;try simp only[Act.put,y7,oD,nR]))
    all_goals subst hQ
    clear b8;generalize co:w6.setCell (af c i) (.slice q (f.length+1) n)=bx at R |-;have Y:=R.A7 (N+1);obtain⟨dk,dl,dm,dn⟩:=R.cell;have c0:=R.frozen 2;obtain⟨t0,t1,t2,t3⟩:=Y.cell;have c1:=Y.frozen 3;have cc:((tZ ch1 i 0).set i (q,f++[((x,y,d),nn)],n)).length=ch1.length:=by rw[kK,iJ (bH _) B]
    have bo:=Y.row;rw[cc]at bo;have bz:=bo.cellAt i aa;have bg:(((tZ ch1 i 0).set i (q,f++[((x,y,d),nn)],n)).map dS)[i]? =some (.slice q (f.length+1) n):=by
     rw[iy,uh (by rw[iJ (bH _) B];omega)];simp[dS]
    rw[bg]at bz;have K:=(Y.Qo (wrap64 (wk+((f.length:Int)+1)))).drew;have au:=ag K;clear K;have dD:(-9223372036854775808:Int)<=N+1/\N+1<=9223372036854775807:=aa;have a6:=ag co;clear co;clear f0 f1 f2 f3 cq b5 bd b7 U V a7;have dt:=ag bz;have cD:=ag bg;have cI:=ag b6;have bf:l=some c\/W.heap.size<=c:=by
     rcases a2.o with h9|⟨b,h9,c3⟩
     .exact .inl h9.symm
     .simp only[Value.ownBlock,jk]at h9;exact .inr aa
    have a4:Hid (ay (fun k=>k=Cb\/l=some k) W w6):=((ab.o.grown (qN w4 (.cells #[ae x,ae y,ak d,ae nn] 187) none) aA).drew).grown aP (fun b r=>.inr (by have:=(C b r).1;omega));have a3:=ag J;clear bg;go_wp2;go_region;have cF:Hid (ay (fun k=>k=Cb\/some c=some k) w6 ((bx.setCell (af Cb 2) (.int .i64 (N+1))).setCell (af Cb 3) (.int .i64 (wrap64 (wk+((f.length:Int)+1))))).drew):=by
     rw[<-a6.o];exact((((ay.refl _ w6).set _ (.inl (.inr rfl))).set _ (.inl (.inl rfl))).set _ (.inl (.inl rfl))).drew
    have bK:Hid (ay (fun k=>k=Cb\/l=some k) W ((bx.setCell (af Cb 2) (.int .i64 (N+1))).setCell (af Cb 3) (.int .i64 (wrap64 (wk+((f.length:Int)+1))))).drew):=by
     rw[<-a6.o];exact(((a4.o.set _ (by rcases bf with h9|h9;exact .inl (.inr h9);exact .inr h9)).set _ (.inl (.inl rfl))).set _ (.inl (.inl rfl))).drew
    have K:=au.o;clear bz au dk dl dm dn t0 t1 t2 t3 c0 c1 R Y a6;generalize di:((bx.setCell (af Cb 2) (.int .i64 (N+1))).setCell (af Cb 3) (.int .i64 (wrap64 (wk+((f.length:Int)+1))))).drew=cr at*;obtain⟨u0,u1,u2,u3⟩:=K.cell;have bp:=K.row;rw[cc]at bp;have dq:=bp.cellAt i aa;rw[cD.o]at dq;have bc:=cI.o.kept (a3.o.eZ rfl cF.o);have cp:=bK.o.size;have cx:=A9 q (f++[((x,y,d),nn)]) (f.length+1) n cr aU bc.Nr aa;have au:=ag K;have cJ:=ag bc;clear di aV bo bp K bc b6
    go_wp2_with fail
    refine cx.mono ?_;rintro e a0 ⟨bv,rfl,cl,aN⟩;go_wp2;go_ret2;have bN:ay (fun k=>k=Cb\/l=some k) W a0:=bK.o.below aN;have ce:=H.o.eZ F.o bN;refine⟨i,bv,ax c ch1.length w,(tZ ch1 i 0).set i (q,f++[((x,y,d),nn)],n),_,rfl,hi,ac.o,S.o,au.o.below aN,?_,?_,?_,?_,?_,?_,?_⟩
    .have ck:∀b,b<cr.heap.size->bv.ownBlock≠some b:=fun b r e=>by have:=(cl.lt b e).1;omega
     have b9:∀a8:World,(∀(b:Nat) O fr,a0.heap[b]? =some (Obj.cells O 187 fr)->bv.ownBlock≠some b->a8.heap[b]? =a0.heap[b]?)->qV a8 ((tZ ch1 i 0).set i (q,f++[((x,y,d),nn)],n)):=by
      intro a8 al h bh;rcases zM aw.o bh with rfl|rfl|h1
      .exact⟨cJ.o.kept fun b O fr r=>(al b O fr ((aT aN r).trans r) (ck b (aY.1 r).1)).trans (aT aN r),by show(f++[((x,y,d),nn)]).length<=n;omega⟩
      .exact⟨.inl rfl,aB _⟩
      .exact⟨(a5.o h h1).1.kept fun b O fr r=>(al b O fr ((ce b O fr r).trans r) (ck b (bT (aY.1 r).1 cp))).trans (ce b O fr r),(a5.o h h1).2⟩
     exact⟨b9 a0 (fun _ _ _ _ _=>rfl),b9⟩
    .exact FY aw.o _ ((x,y,d),nn) (by show f++[((x,y,d),nn)]=_;rw[bb])
    .rw[bb,aU];exact bJ cl cp
    .rcases a2.o with h9|h9
     .exact .inl (h9.trans F.o)
     .exact .inr h9
    .exact bN.mono fun k s=>s.imp id fun h9=>F.o▸h9
    .intro h bh;rcases zM aw.o bh with rfl|rfl|h1
     .exact .inr cy.o
     .exact .inr fun a be=>by cases be
     .exact .inl h1
    .rw[bb]
end
section
open Go.RowKit Go.Maps
section
variable {W:World} {base Cb:Nat} {cv:Value} {ch:List zN} {N wk:Int}
theorem yl (h:mU W base Cb cv ch N wk) (f:ch.length<=1000000):aK 141 #[aj Cb] W (fV W (ae ch.length)):=by
 have b:=ag (wE h);have H:=ag h;obtain⟨av,d,rfl,-,-,-⟩:=Rd.aG (enc:=dS) H.o.row;go_enter func141,ntmps141
 go_wp2_with fail
 refine b.o.mono ?_;rintro e w2 ⟨rfl,a⟩;obtain⟨-,c,-⟩:=(H.o.below a).cell;go_wp2;go_ret;exact⟨rfl,a⟩
theorem NL (h:mU W base Cb cv ch N wk):aK 139 #[aj Cb] W (fV W (ae N)):=by
 have b:=ag (wE h);have H:=ag h;go_enter func139,ntmps139
 go_wp2_with fail
 refine b.o.mono ?_;rintro e w2 ⟨rfl,a⟩;obtain⟨-,-,c,-⟩:=(H.o.below a).cell;go_wp2;go_ret;exact⟨rfl,a⟩
theorem ym (h:mU W base Cb cv ch N wk) (t:qV W ch) (B:ch.length<=1000000) (i:Nat) (hi:i<ch.length) (j:ch[i].2.1.length<=1000000):aK 142 #[aj Cb,ae i] W fun e w'=>
  ∃v,e=.returned v/\w'.ownsRow W.heap.size 187 4 v ch[i].2.1.length (ch[i].2.1.flatMap ll)/\Below W.heap.size W w':=by
 have m:=ag (wE h);have H:=ag h;obtain⟨av,w,rfl,-,-,-⟩:=Rd.aG (enc:=dS) H.o.row;obtain⟨g,x,c,y,z,-,-⟩:=aQ H.o.row aa;injection c with c _ q;subst c q;have f:=ag (fun W' (d:Below W.heap.size W W')=>(t _ (bG hi)).1.Nr.below d);have b:=ag (fun W' (d:Below W.heap.size W W')=>(show W'.cell? (af g i)=some (dS ch[i]) by
  have:=((H.o.below d).row).cellAt i aa;rw[iy,bZ hi]at this;exact this))
 unfold dS at b;have A:(i:Int)<(ch.length:Int):=aa;generalize ch[i]=hd at*;have⟨n,k,p⟩:=hd;simp only at f b j |-;have d1:decide ((i:Int)<0)=false:=aA;go_enter func142,ntmps142
 go_wp2_with fail
 refine m.o.mono ?_;rintro e w2 ⟨rfl,a⟩;obtain⟨-,u,-⟩:=(H.o.below a).cell;have D:=b.o w2 a;have l:=ag (A9 n k k.length p w2 rfl (f.o w2 a) j)
 go_wp2_with fail
 refine l.o.mono ?_;rintro e w3 ⟨C,rfl,s,r⟩;have HO:=ag (bJ s a.size);go_wp2;go_ret;exact⟨_,rfl,HO.o,a.trans (r.mono a.size)⟩
end
end
end Go.Proofs.YtkjdbndekceffaaGreat
