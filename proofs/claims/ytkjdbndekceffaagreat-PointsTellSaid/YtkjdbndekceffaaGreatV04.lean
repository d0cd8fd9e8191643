/- Made small by a program. -/
import Derived.Test.YtkjdbndekceffaaGreatV03
set_option linter.unusedSimpArgs false
set_option linter.unusedVariables false
set_option maxRecDepth 100000
set_option maxHeartbeats 16000000
namespace Go.Proofs.YtkjdbndekceffaaGreat
open Tryz
section
open Go.RowKit Go.Maps
abbrev gM (α:Type):=Option Addr×List α×Nat
def eu {α:Type} (h:gM α):Value:=.slice h.1 h.2.1.length h.2.2
theorem aP {W W':World} (h:Below W.heap.size W W') {b:Nat} {o:Obj} (a:W.heap[b]? =some o):W'.heap[b]? =W.heap[b]? :=h.block b (bg.1 a).1
section
variable {α:Type} {enc:α->List Value} {sz:Nat} {te ts tc:TypeId}
def MW (enc:α->List Value) (sz:Nat) (te:TypeId) (W:World) (a:Option Addr) (l:List α):Prop:=
 l=[]\/∃b off cur fr,a=some (ag b off)/\W.heap[b]? =some (Obj.cells cur te fr)/\∀i (h:i<l.length),∀j,j<sz->cur[off+i*sz+j]? =(enc l[i])[j]?
theorem MW.OP {W:World} {a:Option Addr} {l:List α} (h:MW enc sz te W a l):bV enc sz W a l:=by
 rcases h with h|⟨b,off,f,fr,rfl,c,d⟩
 .exact .inl h
 .refine .inr ⟨b,off,rfl,(bg.1 c).1,fun i hi j e=>?_⟩;have:=d i hi j e;simp only[World.cell?,c];simpa using this
theorem MW.aD (d:∀p,(enc p).length=sz) (m:0<sz) {W:World} {base:Nat} {v:Value} {n:Nat} {l:List α} (h:W.ownsRow base te sz v n (l.flatMap enc)):∃a c,v=.slice a l.length c/\n=l.length/\l.length<=c/\MW enc sz te W a l:=by
 have⟨e,h⟩:=h;rw[gK d]at e;obtain rfl:n=l.length:=Nat.eq_of_mul_eq_mul_right m e.symm;rcases h with⟨rfl,s⟩|⟨g,f,k,rfl,t,q,o,u,w,ht⟩
 .obtain rfl:l=[]:=iC s;exact⟨none,0,rfl,rfl,aA _,.inl rfl⟩
 .refine⟨_,f,rfl,rfl,o,.inr ⟨g,0,k,_,rfl,q,fun i hi j r=>?_⟩⟩;have b:=flat_get d l i hi j r;rw[<-ht,vN,aO (by have:=oz sz (Nat.succ_le_of_lt hi);rw[Nat.succ_mul]at this;omega)]at b;simpa using b
theorem MW.kept {W W':World} {a:Option Addr} {l:List α} (h:MW enc sz te W a l) (f:∀(b:Nat) c fr,W.heap[b]? =some (Obj.cells c te fr)->W'.heap[b]? =W.heap[b]?):MW enc sz te W' a l:=by
 rcases h with h|⟨b,off,c,fr,rfl,d,e⟩
 .exact .inl h
 .exact .inr ⟨b,off,c,fr,rfl,(f b c fr d).trans d,e⟩
def pU (enc:α->List Value) (sz:Nat) (te:TypeId) (W:World) (hs:List (gM α)):Prop:=∀h∈hs,MW enc sz te W h.1 h.2.1/\h.2.1.length<=h.2.2
theorem pU.kept {W W':World} {a:List (gM α)} (h:pU enc sz te W a) (d:∀(b:Nat) cur fr,W.heap[b]? =some (Obj.cells cur te fr)->W'.heap[b]? =W.heap[b]?):pU enc sz te W' a:=fun x c=>⟨(h x c).1.kept d,(h x c).2⟩
abbrev fZ {α:Type}:gM α:=(none,[],0)
def Nw {α:Type} (n:Nat) (ch rR:List (gM α)):Prop:=∀h∈rR,h∈ch\/∀a,h.1=some a->n<=a.block
theorem Nw.refl {n:Nat} {ch:List (gM α)}:Nw n ch ch:=fun h a=>.inl a
theorem Nw.Uq {n k:Nat} {ch:List (gM α)}:Nw n ch (List.replicate k fZ):=fun h c=>.inr fun a b=>by rw[(BD.1 c).2]at b;cases b
theorem Nw.trans {n m:Nat} {b c d:List (gM α)} (e:Nw n b c) (f:Nw m c d) (k:n<=m):Nw n b d:=fun h j=>by
 rcases f h j with g|g
 .exact e h g
 .exact .inr fun a i=>bA k (g a i)
theorem Nw.nil {n m:Nat} {c b:List (gM α)} (h:Nw m [] b) (e:n<=m):Nw n c b:=fun x f=>by
 rcases h x f with i|g
 .cases i
 .exact .inr fun a d=>bA e (g a d)
theorem Nw.set {n:Nat} {b c:List (gM α)} (d:Nw n b c) {k:Nat} {hd:gM α} (e:∀a,hd.1=some a->n<=a.block):Nw n b (c.set k hd):=fun h g=>by
 rcases Fe g with f|rfl
 .exact d h f
 .exact .inr e
theorem Nw.snoc {n:Nat} {b c:List (gM α)} (d:Nw n b c) {hd:gM α} (e:∀a,hd.1=some a->n<=a.block):Nw n b (c++[hd]):=fun h f=>by
 rcases bW.1 f with h9|h9
 .exact d h h9
 .obtain rfl:h=hd:=aQ h9;exact .inr e
structure iI (tc ts te:TypeId) (W:World) (base Cb:Nat) (cv:Value) (ch:List (gM α)) (N wk:Int):Prop where
 hb:base<=Cb
 ds:ts≠tc/\tc≠te/\ts≠te
 blk:W.heap[Cb]? =some (Obj.cells #[.bool true,cv,ae N,ae wk] tc (0,0))
 row:W.ownsRow base ts 1 cv ch.length (ch.map eu)
theorem iI.cell {W:World} {base Cb:Nat} {cv:Value} {ch:List (gM α)} {N wk:Int} (h:iI tc ts te W base Cb cv ch N wk):
  W.cell? (ag Cb 0)=some (.bool true)/\W.cell? (ag Cb 1)=some cv/\W.cell? (ag Cb 2)=some (ae N)/\W.cell? (ag Cb 3)=some (ae wk):=by
 have:=h.blk;refine⟨?_,?_,?_,?_⟩<;>simp[World.cell?,this]
theorem iI.frozen {W:World} {base Cb:Nat} {cv:Value} {ch:List (gM α)} {N wk:Int} (h:iI tc ts te W base Cb cv ch N wk) (j:Nat):W.frozen? (ag Cb j)=false:=by
 have:=h.blk;simp[World.frozen?,this]
theorem iI.lt {W:World} {base Cb:Nat} {cv:Value} {ch:List (gM α)} {N wk:Int} (h:iI tc ts te W base Cb cv ch N wk):Cb<W.heap.size:=(bg.1 h.blk).1
theorem iI.ne {W:World} {base Cb:Nat} {cv:Value} {ch:List (gM α)} {N wk:Int} (h:iI tc ts te W base Cb cv ch N wk):cv.ownBlock≠some Cb:=by
 intro e;rcases h.row.2 with⟨rfl,_⟩|⟨g,b,c,rfl,_,a,_⟩
 .cases e
 .simp only[Value.ownBlock,jH]at e;subst e;rw[h.blk]at a;injection a with a;injection a with _ a _;exact h.ds.1 a.symm
theorem iI.grown {W W':World} {base Cb:Nat} {cv:Value} {ch:List (gM α)} {N wk:Int} {r:Option Nat} (h:iI tc ts te W base Cb cv ch N wk) (a:W.grownBy W' r) (b:r≠some Cb) (c:cv.ownBlock=none\/cv.ownBlock≠r):iI tc ts te W' base Cb cv ch N wk:=
 ⟨h.hb,h.ds,(a.block Cb h.lt (fun e=>b e.symm)).trans h.blk,h.row.kept a c⟩
theorem iI.below {W W':World} {base Cb:Nat} {cv:Value} {ch:List (gM α)} {N wk:Int} (h:iI tc ts te W base Cb cv ch N wk) (hb:Below W.heap.size W W'):iI tc ts te W' base Cb cv ch N wk:=
 h.grown (bT hb) ax (by cases a:cv.ownBlock<;>simp)
theorem iI.drew {W:World} {base Cb:Nat} {cv:Value} {ch:List (gM α)} {N wk:Int} (h:iI tc ts te W base Cb cv ch N wk):iI tc ts te W.drew base Cb cv ch N wk:=⟨h.hb,h.ds,h.blk,h.row⟩
theorem iI.MX {W:World} {base Cb g a n:Nat} {ch:List (gM α)} {N wk:Int} (h:iI tc ts te W base Cb (aC g n a) ch N wk) (c:n=ch.length) (k:Nat) (x:gM α):iI tc ts te (W.setCell (ag g k) (eu x)) base Cb (aC g n a) (ch.set k x) N wk:=by
 subst c;have b:=h.row.stored k (eu x);have d:=h.ne;refine⟨h.hb,h.ds,(aG (fun e=>d (by simp only[Value.ownBlock];exact congrArg some e))).trans h.blk,?_⟩;rw[jg,nu];exact b.1
theorem iI.Cr {W:World} {base Cb:Nat} {cv:Value} {ch:List (gM α)} {N wk:Int} (h:iI tc ts te W base Cb cv ch N wk) (a:Int):iI tc ts te (W.setCell (ag Cb 2) (.int .i64 a)) base Cb cv ch a wk:=by
 refine⟨h.hb,h.ds,?_,bn h.row fun c e=>aG fun b=>h.ne (by rw[e,<-b])⟩;rw[dC W Cb 2 _ _ _ h.blk];rfl
theorem iI.RN {W:World} {base Cb:Nat} {cv:Value} {ch:List (gM α)} {N wk:Int} (h:iI tc ts te W base Cb cv ch N wk) (a:Int):iI tc ts te (W.setCell (ag Cb 3) (.int .i64 a)) base Cb cv ch N a:=by
 refine⟨h.hb,h.ds,?_,bn h.row fun c e=>aG fun b=>h.ne (by rw[e,<-b])⟩;rw[dC W Cb 3 _ _ _ h.blk];rfl
theorem iI.MZ {W:World} {base Cb:Nat} {cv a:Value} {ch b:List (gM α)} {N wk:Int} (h:W.heap[Cb]? =some (Obj.cells #[.bool true,cv,ae N,ae wk] tc (0,0))) (hb:base<=Cb) (d:ts≠tc/\tc≠te/\ts≠te) (g:W.ownsRow base ts 1 a b.length (b.map eu)) (f:a.ownBlock≠some Cb):iI tc ts te (W.setCell (ag Cb 1) a) base Cb a b N wk:=by
 refine⟨hb,d,?_,bn g fun i e=>aG fun c=>f (by rw[e,<-c])⟩;rw[dC W Cb 1 _ _ _ h];rfl
theorem iI.fG {W W':World} {base Cb:Nat} {cv:Value} {ch:List (gM α)} {N wk:Int} (h:iI tc ts te W base Cb cv ch N wk) {a:Option Nat} (hS:a=cv.ownBlock) (K:aB (fun k=>k=Cb\/a=some k) W W'):
  ∀(b:Nat) c fr,W.heap[b]? =some (Obj.cells c te fr)->W'.heap[b]? =W.heap[b]? :=by
 intro b c fr hb;refine K.block b (bg.1 hb).1 ?_;rintro(rfl|e)
 .rw[h.blk]at hb;injection hb with hb;injection hb with _ hb _;exact h.ds.2.1 hb
 .rw[hS]at e;rcases h.row.2 with⟨rfl,_⟩|⟨g,f,i,rfl,_,d,_⟩
  .cases e
  .simp only[Value.ownBlock,jH]at e;subst e;rw[d]at hb;injection hb with hb;injection hb with _ hb _;exact h.ds.2.2 hb
def fw (CB:List (List α)) (i:Nat):List α:=(CB.take i).reverse.flatten
def kT (CB:List (List α)) (i:Nat) (x:α):List (List α):=List.replicate i []++(fw CB i++[x])::CB.drop (i+1)
def VH (tc ts te:TypeId) (enc:α->List Value) (sz:Nat) (W:World) (base Cb:Nat) (cv:Value) (ch:List (gM α)) (x:α) (N wk:Int) (e:Ending) (w':World):Prop:=
 ∃(i:Nat) (v DT:Value) (rR:List (gM α)) (LC:Int),e=.returned (.tuple #[ae i,v])/\i<=ch.length/\(∀j (hj:j<ch.length),j<i->ch[j].2.1≠[])/\(∀hi:i<ch.length,ch[i].2.1=[])/\
  iI tc ts te w' base Cb DT rR (N+1) LC/\(pU enc sz te w' rR/\∀W2:World,(∀(b:Nat) cur fr,w'.heap[b]? =some (Obj.cells cur te fr)->v.ownBlock≠some b->W2.heap[b]? =w'.heap[b]?)->pU enc sz te W2 rR)/\rR.map (·.2.1)=kT (ch.map (·.2.1)) i x/\
  w'.ownsRow W.heap.size te sz v (fw (ch.map (·.2.1)) i++[x]).length ((fw (ch.map (·.2.1)) i++[x]).flatMap enc)/\
  (DT.ownBlock=cv.ownBlock\/∃b,DT.ownBlock=some b/\W.heap.size<=b)/\aB (fun k=>k=Cb\/cv.ownBlock=some k) W w'/\Nw W.heap.size ch rR/\LC=wrap64 (wk+((fw (ch.map (·.2.1)) i).length+1:Int))
def uW (ch1:List (gM α)) (i k:Nat):List (gM α):=ch1.take k++(List.replicate (i-k) fZ++ch1.drop i)
theorem iY {ch1:List (gM α)} {i k:Nat} (a:k<=i) (hi:i<=ch1.length):(uW ch1 i k).length=ch1.length:=by simp[uW];omega
theorem LD {ch1:List (gM α)} {i:Nat}:uW ch1 i i=ch1:=by simp[uW]
theorem Ho {ch1:List (gM α)} {i:Nat}:uW ch1 i 0=List.replicate i fZ++ch1.drop i:=by simp[uW]
theorem LF {ch1:List (gM α)} {i m:Nat} (hi:i<=ch1.length) (a:m<i):(uW ch1 i (m+1))[m]? =ch1[m]? :=by
 unfold uW;rw[mr aH,vN,aO aa]
theorem LG {ch1:List (gM α)} {i m:Nat} (hi:i<=ch1.length) (c:m<i):(uW ch1 i (m+1)).set m fZ=uW ch1 i m:=by
 unfold uW;rw[List.set_append_left _ _ aH];have b:m<ch1.length:=aa;have a:(ch1.take (m+1)).set m fZ=ch1.take m++[fZ]:=by
  rw[gT b,su _ _ aH];have:m-(ch1.take m).length=0:=aH;rw[this];rfl
 rw[a,show i-m=(i-(m+1))+1 by omega,List.replicate_succ,dW];rfl
theorem Hq {ch ch1:List (gM α)} {i:Nat} (a:ch1=ch/\i<ch.length\/ch1=ch++[fZ]/\i=ch.length) (hd:gM α) (x:α) (d:hd.2.1=fw (ch.map (·.2.1)) i++[x]):
  ((uW ch1 i 0).set i hd).map (·.2.1)=kT (ch.map (·.2.1)) i x:=by
 have c:i<ch1.length:=by rcases a with⟨rfl,h⟩|⟨rfl,h⟩<;>first|omega|(simp;omega)
 have b:(ch1.drop (i+1)).map (·.2.1)=(ch.map (·.2.1)).drop (i+1):=by
  rcases a with⟨rfl,h⟩|⟨rfl,h⟩
  .rw[y7]
  .rw[o8 aH,o8 aH];rfl
 rw[Ho,ky c,su _ _ ax,iM,jh,pz,bJ,mG,b,d,FB];rfl
theorem Bc {ch ch1:List (gM α)} {i:Nat} (b:ch1=ch/\i<ch.length\/ch1=ch++[fZ]/\i=ch.length) {hd h:gM α} (c:h∈(uW ch1 i 0).set i hd):h=hd\/h=fZ\/h∈ch:=by
 rcases Fe c with h1|h1
 .rw[Ho,bW]at h1;rcases h1 with h1|h1
  .exact .inr (.inl (BD.1 h1).2)
  .have a:=JK h1;rcases b with⟨rfl,-⟩|⟨rfl,-⟩
   .exact .inr (.inr a)
   .rcases bW.1 a with h3|h3
    .exact .inr (.inr h3)
    .exact .inr (.inl (aQ h3))
 .exact .inl h1
def setC:Nat->List α->List (List α)
 |0,_=>[]
 |k+1,r=>if 2^k<=r.length then setC k (r.drop (2^k))++[r.take (2^k)]else setC k r++[[]]
theorem fo:∀(k:Nat) (r:List α),(setC k r).length=k
 |0,_=>rfl
 |k+1,r=>by
  unfold setC;split<;>simp[fo k]
theorem zq:∀(k:Nat) (r:List α) (i:Nat) (h:i<(setC k r).length),(setC k r)[i].length=0\/(setC k r)[i].length=2^i
 |0,_,i,h=>by cases h
 |k+1,r,i,h=>by
  have c:=fo (k+1) r;unfold setC;split
  .rename_i b;by_cases a:i<k
   .rw[rJ (by rw[fo];exact a)];exact zq k _ i _
   .obtain rfl:i=k:=aa;rw[uZ (by rw[fo];exact aA _)];right;simp only[fo,jh,ni,dO];omega
  .by_cases a:i<k
   .rw[rJ (by rw[fo];exact a)];exact zq k _ i _
   .obtain rfl:i=k:=aa;rw[uZ (by rw[fo];exact aA _)];left;simp only[fo,jh,ni,fE]
theorem lu:∀(k:Nat) (r:List α),r.length<2^k->(setC k r).flatten.Perm r
 |0,r,h=>by
  obtain rfl:r=[]:=iC (aQ h);exact qE _
 |k+1,r,h=>by
  unfold setC;rw[qH]at h;split
  .rename_i c;rw[lN];simp only[vO,List.flatten_nil,je];have a:=lu k (r.drop (2^k)) (by rw[mg];omega);have b:(r.take (2^k)++r.drop (2^k))=r:=jd _ _;refine(List.Perm.append_right _ a).trans (List.perm_append_comm.trans ?_);rw[b]
  .rw[lN];simp only[vO,List.flatten_nil,je];exact lu k r aa
theorem M0 (k:Nat) (r:List α) (h:2^k<=r.length) (h':k<(setC (k+1) r).length):(setC (k+1) r)[k]≠[]:=by
 have e:setC (k+1) r=setC k (r.drop (2^k))++[r.take (2^k)]:=by rw[setC,aO h]
 have a:(setC (k+1) r)[k]? =some (r.take (2^k)):=by
  rw[e,nV (by rw[fo];exact aA _),fo,jh];rfl
 rw[cK h']at a;injection a with a;rw[a];intro b;have:=congrArg List.length b;have c:0<2^k:=qK ai;rw[dO,fE]at this;omega
theorem EA (k:Nat):List.replicate (k+1) (fZ:gM α)=List.replicate k fZ++[fZ]:=sJ
theorem EB (W:World) (k:Nat):pU enc sz te W (List.replicate k (fZ:gM α)):=fun h a=>by
 rw[(BD.1 a).2];exact⟨.inl rfl,aA _⟩
theorem Hr (m:Nat) (T:List (List α)) (x:List α):(List.replicate (m+1) []++T).set m x=List.replicate m []++x::T:=by
 rw[sJ,dW,su _ _ ax,iM,jh];rfl
theorem Ht {W W':World} {ch:List (gM α)} {m:Nat} {hd:gM α} (h:pU enc sz te W ch) (c:∀(b:Nat) cur fr,W.heap[b]? =some (Obj.cells cur te fr)->W'.heap[b]? =W.heap[b]?) (d:MW enc sz te W hd.1 hd.2.1) (e:hd.2.1.length<=hd.2.2):pU enc sz te W' (ch.set m hd):=fun x f=>by
 rcases Fe f with a|rfl
 .exact⟨(h x a).1.kept c,(h x a).2⟩
 .exact⟨d.kept c,e⟩
end
theorem pU.O7 {α:Type} {enc:α->List Value} {sz:Nat} {te:TypeId} {W W':World} {d:List (gM α)} {S T:Nat->Prop} (h:pU enc sz te W d) (hi:∀h∈d,h.2.1≠[]->∀a,h.1=some a->S a.block) (K:aB T W W') (hd:∀k,S k->¬T k):pU enc sz te W' d:=fun x i=>by
 have⟨c,l⟩:=h x i;refine⟨?_,l⟩;by_cases e:x.2.1=[]
 .exact .inl e
 .rcases c with c|⟨b,off,j,fr,f,g,m⟩
  .exact .inl c
  .exact .inr ⟨b,off,j,fr,f,(K.block b (bg.1 g).1 (hd _ (hi x i e _ f))).trans g,m⟩
end
section
open Go.RowKit Go.Sort Go.Shelf Go.Lib Go.Maps
abbrev fB:=Pt×Int
def lW (p:fB):List Value:=[.int .i64 p.1.1,.int .i64 p.1.2.1,.int .u32 p.1.2.2,.int .i64 p.2]
abbrev VI (x y d n:Int):Value:=.agg #[ae x,ae y,ak d,ae n]
theorem Cs (p:fB):(lW p).length=4:=rfl
theorem Hu (p:fB):∀u∈lW p,u.oneCell'=true:=by intro u hu;simp[lW]at hu;rcases hu with rfl|rfl|rfl|rfl<;>rfl
theorem Hw:eY prog 213 187 4 32:=.mk' (z:=.agg #[ae 0,ae 0,ak 0,ae 0]) underlying213 aL rfl ai
theorem TL:eY prog 276 213 1 24:=.mk' (z:=aM) underlying276 aL rfl ai
theorem Ct (a:Option Addr) (l:List fB) (n c:Nat) (w:World) (k:l.length=n) (h:bV lW 4 w a l) (m:n<=1000000):
  aK 208 #[.slice a n c] w fun e w'=>∃v,e=.returned v/\w'.ownsRow w.heap.size 187 4 v n (l.flatMap lW)/\Below w.heap.size w w':=by
 subst k;have o:∀(w:World) (a:Option Addr) (n c n' d:Nat),(binOp .eql 213 (.slice a n c) (.slice none n' d)).run prog w=.ok (.bool a.isNone) w:=fun w a n c n' d=>Fp w _ _ a n c n' d underlying213;cases a with
 |none=>
  have i:l=[]:=by
   rcases h with h|⟨b,off,h,_⟩
   .exact h
   .cases h
  subst i;go_enter func208,ntmps208;go_wp2;go_ret;exact⟨_,rfl,cZ _ _ _ _,aJ _ _⟩
 |some ad=>
  have f:=BF (e:=187) (size:=4) w #[] 0 (aA _) (aT _) rfl;have h':bV lW 4 (w.alloc (.cells #[] 187)) (some ad) l:=h.below ((aJ _ _).alloc (aA _) _);go_enter func208,ntmps208
  go_wp2_with (at_builtin;refine jl Hw Cs Hu w.heap.size f h' rfl _ _ rfl rfl c rfl dE aa ax ?_;intro p w' g j)
  go_ret;rw[kD,gu]at g;exact⟨_,rfl,g,bH ((aJ _ _).alloc (aA _) _) f j ax (aA _)⟩
abbrev Bd:=gM fB
abbrev M3:=MW lW 4 187
abbrev rT:=pU lW 4 187
theorem M3.aD {W:World} {base:Nat} {v:Value} {n:Nat} {l:List fB} (h:W.ownsRow base 187 4 v n (l.flatMap lW)):∃a c,v=.slice a l.length c/\n=l.length/\l.length<=c/\M3 W a l:=MW.aD Cs ai h
abbrev nK:=@iI fB 278 213 187
theorem WQ:213≠278/\278≠187/\213≠187:=ai
theorem xD {W:World} {base Cb:Nat} {cv:Value} {ch:List Bd} {N wk:Int} (h:nK W base Cb cv ch N wk):aK 207 #[aj Cb] W (gD W (.bool false)):=by
 obtain⟨a,-⟩:=h.cell;go_enter func207,ntmps207;go_wp2;go_ret;exact⟨rfl,aJ _ _⟩
end
section
open Go.RowKit Go.Maps
attribute [local irreducible] wpQuiet
abbrev WR:=@VH fB 278 213 187 lW 4
theorem Ur {W:World} {base Cb:Nat} {cv:Value} {ch:List Bd} {N wk:Int} (h:nK W base Cb cv ch N wk) (dG:base<=W.heap.size) (cl:rT W ch) (x y d nn:Int) (dD:0<=N/\N<=100000) (dU:ch.length<=1000) (dX:(ch.map (·.2.1)).flatten.length<=10000):
  aK 135 #[aj Cb,VI x y d nn] W (WR W base Cb cv ch ((x,y,d),nn) N wk):=by
 have a1:Below W.heap.size W (W.alloc (.cells #[ae x,ae y,ak d,ae nn] 187)):=(aJ _ _).alloc (aA _) _;have cr:(W.alloc (.cells #[ae x,ae y,ak d,ae nn] 187)).cell? (ag W.heap.size 0)=some (ae x):=by rw[eX _ _ _ _ rfl];rfl
 have x1:(W.alloc (.cells #[ae x,ae y,ak d,ae nn] 187)).cell? (ag W.heap.size 1)=some (ae y):=by rw[eX _ _ _ _ rfl];rfl
 have x2:(W.alloc (.cells #[ae x,ae y,ak d,ae nn] 187)).cell? (ag W.heap.size 2)=some (ak d):=by rw[eX _ _ _ _ rfl];rfl
 have cs:(W.alloc (.cells #[ae x,ae y,ak d,ae nn] 187)).cell? (ag W.heap.size 3)=some (ae nn):=by rw[eX _ _ _ _ rfl];rfl
 have bE:=af (xD (h.below a1));have H:=af h;have a5:=af cl;have bG:=af a1;clear h cl a1;go_enter func135,ntmps135
 go_wp2_with fail
 refine bE.o.mono ?_;rintro e w2 ⟨rfl,Q⟩;have bD:=af (bG.o.trans (Q.mono ax));have ct:=(Q.cell (p:=(ag W.heap.size 0)) ax).trans cr;have y1:=(Q.cell (p:=(ag W.heap.size 1)) ax).trans x1;have y2:=(Q.cell (p:=(ag W.heap.size 2)) ax).trans x2;have cu:=(Q.cell (p:=(ag W.heap.size 3)) ax).trans cs;have ap:W.heap.size<w2.heap.size:=by have:=Q.size;simp at this;omega
 have v:=af (H.o.below bD.o);have bY:=af ct;have b0:=af y1;have b1:=af y2;have b2:=af cu;clear cr x1 x2 cs ct y1 y2 cu bE bG Q;obtain⟨cR,cS,cT,cU⟩:=v.o.cell
 go_upto_block 0 with fail
 go_cut [6]from 11 to 30 (fun sv D=>∃i:Nat,sv=.int .i64 i/\Hid (D=w2)/\i<=ch.length/\Hid (∀j (aU:j<ch.length),j<i->ch[j].2.1≠[])/\Hid (∀hi:i<ch.length,ch[i].2.1=[]))
 case first=>
  go_wp2_with fail
  go_loopw [6] (fun br wr=>∃i:Nat,br=.int .i64 i/\Hid (wr=w2)/\i<=ch.length/\Hid (∀j (aU:j<ch.length),j<i->ch[j].2.1≠[])) (fun br _=>ch.length-(intOf br).toNat)
  case atStart=>exact⟨0,rfl,(by first|rfl|trivial),aT _,fun j _ h=>absurd h (kz _)⟩
  case round=>
   obtain⟨i,rfl,aq,hi,ac⟩:=hrel;obtain rfl:wr=w2:=aq.o;clear aq;obtain⟨av,ad,rfl,-,-,ao⟩:=Rd.aD (enc:=eu) v.o.row;by_cases cg:i<ch.length
   .obtain⟨b,off,b3,dH,cc⟩:=ao.get aa;have z:=cc i cg;have S:Hid (ch[i].2.1=[]->∀hi:i<ch.length,ch[i].2.1=[]):=fun h _=>h;have ay:Hid (ch[i].2.1≠[]->∀j (aU:j<ch.length),j<i+1->ch[j].2.1≠[]):=fun h j aU dg=>by
     rcases Ff.1 dg with h9|rfl
     .exact ac.o j aU h9
     .exact h
    have bF:=af b3;unfold eu at z;clear cc b3 ao;generalize ch[i]=hd at*;obtain⟨dx,bu,dz⟩:=hd;simp only at z S ay;obtain rfl:=bF.o;clear bF;have dV:(i:Int)<(ch.length:Int):=aa;by_cases ai:bu=[]
    .have Z:=af (S.o ai);clear S ay;subst ai
     go_wp2_with fail
     go_meet;exact⟨i,rfl,(by first|rfl|trivial),hi,ac,Z⟩
    .have Z:=af (ay.o ai);have di:0<bu.length:=Bv.2 ai;have dK:decide (0<bu.length)=true:=by simp[di]
     clear ai S ay
     go_wp2_with fail
     go_roundw
     case rel=>exact⟨i+1,by go_num,(by first|rfl|trivial),aa,Z⟩
     case measure=>exact bZ
   .have Z:Hid (∀hi:i<ch.length,ch[i].2.1=[]):=fun h=>absurd h cg;have dQ:¬(i:Int)<(ch.length:Int):=aa
    go_wp2_with fail
    go_meet;exact⟨i,rfl,(by first|rfl|trivial),hi,ac,Z⟩
 case rest=>
  obtain⟨i,rfl,aq,hi,ac,S⟩:=hcut;obtain rfl:wc=w2:=aq.o;clear aq;obtain⟨l,am⟩:∃l,l=cv.ownBlock:=⟨_,rfl⟩;have dv:Hid (∀k,(k=Cb\/l=some k)->base<=k):=fun k h=>by
   rcases h with rfl|h
   .exact v.o.hb
   .exact(v.o.row.lt k (am▸h)).1
  have az:Hid (∀k,l=some k->k<W.heap.size/\k≠Cb):=fun k h=>⟨(H.o.row.lt k (am▸h)).2,fun e=>H.o.ne (by rw[<-am,h,e])⟩;have F:=af am;have dC:=H.o.lt;obtain⟨av,ad,rfl,-,dI,-⟩:=Rd.aD (enc:=eu) v.o.row;have bR:Hid (aB (fun k=>k=Cb\/l=some k) W wc):=(aB.refl _ _).grown (bT bD.o) ax;have cG:Hid (∀w6,wc.grownBy w6 (Value.ownBlock (.slice av ch.length ad))->w6.heap[Cb]? =some (Obj.cells #[.bool true,.slice av ch.length ad,ae N,ae wk] 278 (0,0))):=fun w6 A=>(A.block Cb v.o.lt (fun e=>v.o.ne e.symm)).trans v.o.blk;clear am
  go_upto_if 37 with fail
  go_cut []from 37 to 46 (fun D=>∃ah ch1 c aZ w,Hid (nK D base Cb ah ch1 N wk)/\ah=aC c aZ w/\aZ=ch1.length/\i<aZ/\Hid (ch1=ch/\i<ch.length\/ch1=ch++[fZ]/\i=ch.length)/\Hid (ah.ownBlock=l\/∃b,ah.ownBlock=some b/\W.heap.size<=b)/\Hid (c≠W.heap.size)/\Hid (aB (fun k=>k=Cb\/l=some k) W D)/\Hid (aB (fun k=>k=Cb\/l=some k) wc D))
  case first=>
   by_cases df:i=ch.length
   .subst df;have db:((ch.length:Int)==(ch.length:Int))=true:=ax
    go_wp2_with (at_builtin;refine cB TL base v.o.row [aM] rfl (by simp[Value.oneCell']) rfl _ _ rfl rfl _ rfl dE aa aa ?_;intro bv w6 an A ca;obtain⟨G,n,rfl,dM,dN,dO,dP⟩:=aS an aa;have bs:=cG.o w6 A;have dZ:w6.cell? (ag Cb 1)=some (.slice av ch.length ad):=(aI bs);have d4:w6.frozen? (ag Cb 1)=false:=(aI bs))
    go_meet;have bl:w6.ownsRow base 213 1 (aC G (ch.length+1) n) (ch++[fZ]).length ((ch++[fZ]).map eu):=by
     rw[bQ,bJ];exact an
    have aO:(some G=l\/G=wc.heap.size+1):=by
     rcases ca with h9|h9
     .exact .inl (h9.trans F.o.symm)
     .simp only[Value.ownBlock,jH]at h9;rw[h9];exact .inr ax
    have dd:G≠Cb:=by
     rcases aO with h9|h9
     .exact(az.o G h9.symm).2
     .omega
    refine⟨_,ch++[fZ],G,ch.length+1,n,iI.MZ (ch:=ch) bs v.o.hb v.o.ds bl (by simpa[Value.ownBlock]using dd),rfl,ax,aa,(by first|exact .inr ⟨rfl,rfl⟩|exact .inr ⟨rfl,trivial⟩),?_,?_,(bR.o.grown A fun k s=>.inl (.inr (F.o.trans s))).set _ (.inl (.inl rfl)),((aB.refl _ wc).grown A fun k s=>.inl (.inr (F.o.trans s))).set _ (.inl (.inl rfl))⟩
    .rcases aO with h9|h9
     .exact .inl (by simpa[Value.ownBlock]using h9)
     .exact .inr ⟨G,rfl,aa⟩
    .show G≠W.heap.size;rcases aO with h9|h9
     .have:=(az.o G h9.symm).1;omega
     .omega
   .have db:((i:Int)==(ch.length:Int))=false:=by simp only[Fw];omega
    have cf:i<ch.length:=aa;obtain⟨g,dA,ba,dc,aQ,-,-⟩:=aS v.o.row aa;injection ba with ba _ cW;subst ba cW;go_wp2;go_meet;have de:l=some g:=F.o;exact⟨_,ch,g,ch.length,ad,v,rfl,rfl,cf,.inl ⟨rfl,cf⟩,.inl F.o.symm,(by show g≠W.heap.size;have:=(az.o g de).1;omega),bR,aB.refl _ _⟩
  case rest=>
   obtain⟨ah,ch1,c,aZ,w,ar,rfl,rfl,dS,aw,a2,cA,cL,T⟩:=hcut;obtain⟨w3,c1⟩:∃w3:World,w3=wc:=⟨_,rfl⟩;subst c1;have aE:Hid (¬(W.heap.size=Cb\/l=some W.heap.size)):=fun h9=>by
    rcases h9 with h9|h9
    .omega
    .have:=(az.o _ h9).1;omega
   have cM:Hid (w3.cell? (ag W.heap.size 0)=some (ae x)):=(dJ (a:=(ag W.heap.size 0)) (T.o.block _ ap aE.o)).trans bY.o;have cN:Hid (w3.cell? (ag W.heap.size 1)=some (ae y)):=(dJ (a:=(ag W.heap.size 1)) (T.o.block _ ap aE.o)).trans b0.o;have cP:Hid (w3.cell? (ag W.heap.size 2)=some (ak d)):=(dJ (a:=(ag W.heap.size 2)) (T.o.block _ ap aE.o)).trans b1.o;have cQ:Hid (w3.cell? (ag W.heap.size 3)=some (ae nn)):=(dJ (a:=(ag W.heap.size 3)) (T.o.block _ ap aE.o)).trans b2.o;have aY:W.heap.size<w3.heap.size:=cO ap T.o.size;have dc:c<w3.heap.size:=(ar.o.row.lt c rfl).2;have cy:Hid (∀k (s:k<i) (h1:k<ch1.length) (al:k<ch.length),ch1[k]=ch[k]):=fun k s h1 al=>by
    rcases aw.o with⟨e,-⟩|⟨e,-⟩
    .subst e;rfl
    .subst e;exact rJ al
   have cz:Hid (∀W',aB (fun k=>k=Cb\/l=some k) W W'->∀k (s:k<ch.length),bV lW 4 W' ch[k].1 ch[k].2.1):=fun W' c8 k s=>((a5.o _ (bC s)).1.kept (H.o.fG F.o c8)).OP;have cE:Hid (∀k (s:k<ch.length),k<i->(((ch.map (·.2.1)).take i).drop k).reverse.flatten=(((ch.map (·.2.1)).take i).drop (k+1)).reverse.flatten++ch[k].2.1):=fun k s dT=>by
    rw[ky aH];simp
   have bL:Hid (∀k,(((ch.map (·.2.1)).take i).drop k).reverse.flatten.length<=10000):=fun k=>by
    generalize ch.map (·.2.1)=CB at*;have dB:(((CB.take i).drop k).reverse.flatten).length=((CB.take i).drop k).flatten.length:=by simp only[Fx,FJ,List.sum_reverse]
    have a9:((CB.take i).take k).flatten++((CB.take i).drop k).flatten=(CB.take i).flatten:=by rw[<-lN,jd]
    have cX:(CB.take i).flatten++(CB.drop i).flatten=CB.flatten:=by rw[<-lN,jd]
    have cY:=congrArg List.length a9;have c0:=congrArg List.length cX;rw[bQ]at cY c0;omega
   clear bY b0 b1 b2 cR cS cT cU T
   go_upto_block 2 with fail
   go_cut [7]from 49 to 67 (fun bz D=>Hid (D.ownsRow w3.heap.size 187 4 bz (fw (ch.map (·.2.1)) i).length ((fw (ch.map (·.2.1)) i).flatMap lW))/\Hid (nK D base Cb (aC c ch1.length w) (uW ch1 i 0) N wk)/\Hid (aB (fun k=>k=Cb\/l=some k) W D)/\Hid (aB (fun k=>k=c) w3 D))
   case first=>
    go_wp2_with fail
    go_loopw [8,7] (fun bt bz wr=>∃(k:Nat) (bx:Value),bt=.int .i64 ((k:Int)-1)/\bz=bx/\k<=i/\Hid (wr.ownsRow w3.heap.size 187 4 bx (((ch.map (·.2.1)).take i).drop k).reverse.flatten.length ((((ch.map (·.2.1)).take i).drop k).reverse.flatten.flatMap lW))/\Hid (nK wr base Cb (aC c ch1.length w) (uW ch1 i k) N wk)/\Hid (aB (fun k=>k=Cb\/l=some k) W wr)/\Hid (aB (fun k=>k=c) w3 wr)) (fun bt _ _=>(intOf bt+1).toNat)
    case atStart=>
     refine⟨i,_,rfl,rfl,aA _,?_,?_,cL,aB.refl _ _⟩
     .rw[o8 aH];exact cZ _ _ _ _
     .rw[LD];exact ar
    case round=>
     obtain⟨k,bx,rfl,rfl,s,HO,M,ab,E⟩:=hrel;rcases nW k with VJ|VJ
     .subst VJ;have dL:¬(0:Int)<=((0:Nat):Int)-1:=aa;rw[jY]at HO
      go_wp2_with fail
      go_meet;exact⟨HO,M,ab,E⟩
     .obtain⟨m,rfl⟩:∃m,k=m+1:=⟨k-1,aa⟩;have bk:m<ch.length:=aa;have ci:m<ch1.length:=aa;obtain⟨d0,d1,d2,d3⟩:=M.o.cell;have B:i<=ch1.length:=aa;have bo:=M.o.row;rw[iY s B]at bo;have z:=bo.cellAt m aa;rw[ib,LF B aa,cK ci,cy.o m aa ci bk]at z;simp only[eP]at z;have ao:=cz.o wr ab.o m bk;have bj:=cE.o m bk aa;have X:=bL.o m;rw[bj,bQ]at X;have dj:=LG (ch1:=ch1) B (show m<i by omega);have dh:=X;generalize(((ch.map (·.2.1)).take i).drop (m+1)).reverse.flatten=L at*;have bI:=af bj;unfold eu at z;clear bj X;generalize ch[m]=hd at*;obtain⟨dy,dY,cV⟩:=hd;simp only at z ao dh bI;have C:=HO.o.lt;have c7:=ar.o.lt;have ce:=E.o.size;have dW:(m:Int)<(ch1.length:Int):=aa
      go_wp2_with (at_builtin;refine nY Hw Cs Hu w3.heap.size HO.o ao rfl _ _ rfl rfl cV rfl dE aa ce ?_;intro bv w6 an A ca;have J:=M.o.grown A (fun e=>(by have:=(C Cb e).1;omega)) (.inr (fun e=>(by have:=(C c e.symm).1;omega)));obtain⟨f0,f1,f2,f3⟩:=J.cell;have b9:=A.block c aa (fun e=>(by have:=(C c e.symm).1;omega));have d5:=(dJ (a:=(ag c m)) b9).trans z;have b4:=(qm (a:=(ag c m)) b9).trans (bo.frozenAt m))
      have dk:=an.lt;have cH:Hid ((w6.setCell (ag c m) (aM)).ownsRow w3.heap.size 187 4 bv (((ch.map (·.2.1)).take i).drop m).reverse.flatten.length ((((ch.map (·.2.1)).take i).drop m).reverse.flatten.flatMap lW)):=by
       show World.ownsRow _ _ _ _ _ _ _;rw[bI.o,bQ,gZ];exact bn an fun c5 e=>aG (fun a9=>by have:=(dk c5 e).1;simp only at a9;omega)
      have a3:Hid (nK (w6.setCell (ag c m) (aM)) base Cb (aC c ch1.length w) (uW ch1 i m) N wk):=by
       have:=J.MX (iY s B).symm m fZ;rw[dj]at this;exact this
      have bf:l=some c\/W.heap.size<=c:=by
       rcases a2.o with h9|⟨b,h9,c6⟩
       .exact .inl h9.symm
       .simp only[Value.ownBlock,jH]at h9;exact .inr aa
      have a4:Hid (aB (fun k=>k=Cb\/l=some k) W (w6.setCell (ag c m) (aM))):=
       (ab.o.grown A (fun b r=>.inr (by have:=(C b r).1;omega))).set _ (by rcases bf with h9|h9;exact .inl (.inr h9);exact .inr h9)
      have cC:Hid (aB (fun k=>k=c) w3 (w6.setCell (ag c m) (aM))):=(E.o.grown A (fun b r=>.inr (C b r).1)).set _ (.inl rfl);go_roundw
      case rel=>exact⟨m,bv,by go_num,rfl,aa,cH,a3,a4,cC⟩
      case measure=>simp[intOf]
   case rest=>
    obtain⟨HO,M,ab,E⟩:=hcut;obtain⟨w4,c2⟩:∃w4:World,w4=wc:=⟨_,rfl⟩;subst c2;have ce:=E.o.size;have B:i<=ch1.length:=aa;have I:W.heap.size≠c:=fun e=>cA.o e.symm;have bS:w4.cell? (ag W.heap.size 0)=some (ae x):=(dJ (a:=(ag W.heap.size 0)) (E.o.block _ aY I)).trans cM.o;have bU:w4.cell? (ag W.heap.size 1)=some (ae y):=(dJ (a:=(ag W.heap.size 1)) (E.o.block _ aY I)).trans cN.o;have bW:w4.cell? (ag W.heap.size 2)=some (ak d):=(dJ (a:=(ag W.heap.size 2)) (E.o.block _ aY I)).trans cP.o;have bX:w4.cell? (ag W.heap.size 3)=some (ae nn):=(dJ (a:=(ag W.heap.size 3)) (E.o.block _ aY I)).trans cQ.o;have X:=bL.o 0;rw[jY]at X;change(fw (ch.map (·.2.1)) i).length<=10000 at X;have bO:=(HO.o.alloc (.cells #[ae x,ae y,ak d,ae nn] 187)).aX 1;have bH:=(M.o.grown (rP w4 (.cells #[ae x,ae y,ak d,ae nn] 187) none) ax (.inr (by simp[Value.ownBlock]))).drew;generalize bb:fw (ch.map (·.2.1)) i=f at*;obtain⟨dt,w6,a7,bl,aQ,aO⟩:=jN (ty:=213) (t:=213) (P:=prog) Hw w3.heap.size bO (ag w4.heap.size 0) 1 1 [.int .i64 x,.int .i64 y,.int .u32 d,.int .i64 nn] rfl (by
     intro j u hu;have c9:((ag w4.heap.size 0):Addr).add j=(ag w4.heap.size j):=by unfold Addr.add;split<;>simp_all
     rw[c9];have h9:(w4.alloc (.cells #[ae x,ae y,ak d,ae nn] 187)).cell? (ag w4.heap.size j)=some u:=by
      rw[eX _ _ _ _ (by rfl)];simpa using hu
     exact h9) (by simp[Value.oneCell']) dE aa aH
    have C:=bO.lt;have c7:=ar.o.lt;have J:=bH.grown aQ (fun e=>(by have:=(C Cb e).1;omega)) (.inr (fun e=>(by have:=(C c e.symm).1;omega)));have bm:w6.ownsRow w3.heap.size 187 4 dt (f.length+1) ((f++[((x,y,d),nn)]).flatMap lW):=by
     rw[gZ];exact bl
    have cm:=bm.lt;obtain⟨q,n,rfl,-,da,b5⟩:=M3.aD bm;have aV:(f++[((x,y,d),nn)]).length=f.length+1:=ax;rw[aV]at a7 bm da cm;have cx:Hid (∀a,q=some a->W.heap.size<=a.block):=fun a be=>by have:=(cm a.block (by rw[be];rfl)).1;omega
    obtain⟨f0,f1,f2,f3⟩:=J.cell;have aW:=J.row;rw[iY (aT _) B]at aW;have cp:=aW.cellAt i aa;have b4:=aW.frozenAt i;have dm:i<((uW ch1 i 0).map eu).length:=by rw[bK,iY (aT _) B];omega
    rw[cK dm]at cp;have bd:w4.cell? (ag Cb 1)=some (aC c ch1.length w)/\w4.cell? (ag W.heap.size 0)=some (ae x)/\w4.cell? (ag W.heap.size 1)=some (ae y)/\w4.cell? (ag W.heap.size 2)=some (ak d)/\w4.cell? (ag W.heap.size 3)=some (ae nn):=⟨M.o.cell.2.1,bS,bU,bW,bX⟩;have b6:w4.drew.cell? (ag Cb 1)=some (aC c ch1.length w)/\w4.drew.cell? (ag W.heap.size 0)=some (ae x)/\w4.drew.cell? (ag W.heap.size 1)=some (ae y)/\w4.drew.cell? (ag W.heap.size 2)=some (ak d)/\w4.drew.cell? (ag W.heap.size 3)=some (ae nn):=bd;have aR:=(aJ w4.heap.size w4).alloc (aA _) (.cells #[ae x,ae y,ak d,ae nn] 187);have aL:W.heap.size<w4.heap.size:=aa;have U:(w4.alloc (.cells #[ae x,ae y,ak d,ae nn] 187)).drew.cell? (ag Cb 1)=some (aC c ch1.length w)/\(w4.alloc (.cells #[ae x,ae y,ak d,ae nn] 187)).drew.cell? (ag W.heap.size 0)=some (ae x)/\(w4.alloc (.cells #[ae x,ae y,ak d,ae nn] 187)).drew.cell? (ag W.heap.size 1)=some (ae y)/\(w4.alloc (.cells #[ae x,ae y,ak d,ae nn] 187)).drew.cell? (ag W.heap.size 2)=some (ak d)/\(w4.alloc (.cells #[ae x,ae y,ak d,ae nn] 187)).drew.cell? (ag W.heap.size 3)=some (ae nn):=
     ⟨bH.cell.2.1,(aR.cell (p:=(ag W.heap.size 0)) aL).trans bS,(aR.cell (p:=(ag W.heap.size 1)) aL).trans bU,(aR.cell (p:=(ag W.heap.size 2)) aL).trans bW,(aR.cell (p:=(ag W.heap.size 3)) aL).trans bX⟩
    have aF:=aQ.block W.heap.size aH (fun e=>by have:=(C _ e.symm).1;omega);have V:w6.cell? (ag Cb 1)=some (aC c ch1.length w)/\w6.cell? (ag W.heap.size 0)=some (ae x)/\w6.cell? (ag W.heap.size 1)=some (ae y)/\w6.cell? (ag W.heap.size 2)=some (ak d)/\w6.cell? (ag W.heap.size 3)=some (ae nn):=
     ⟨f1,(dJ (a:=(ag W.heap.size 0)) aF).trans U.2.1,(dJ (a:=(ag W.heap.size 1)) aF).trans U.2.2.1,(dJ (a:=(ag W.heap.size 2)) aF).trans U.2.2.2.1,(dJ (a:=(ag W.heap.size 3)) aF).trans U.2.2.2.2⟩
    have R:nK (w6.setCell (ag c i) (.slice q (f.length+1) n)) base Cb (aC c ch1.length w) ((uW ch1 i 0).set i (q,f++[((x,y,d),nn)],n)) N wk:=by
     have:=J.MX (iY (aT _) B).symm i (q,f++[((x,y,d),nn)],n);unfold eu at this;rw[aV]at this;exact this
    have b7:(w6.setCell (ag c i) (.slice q (f.length+1) n)).cell? (ag Cb 1)=some (aC c ch1.length w)/\(w6.setCell (ag c i) (.slice q (f.length+1) n)).cell? (ag W.heap.size 0)=some (ae x)/\(w6.setCell (ag c i) (.slice q (f.length+1) n)).cell? (ag W.heap.size 1)=some (ae y)/\(w6.setCell (ag c i) (.slice q (f.length+1) n)).cell? (ag W.heap.size 2)=some (ak d)/\(w6.setCell (ag c i) (.slice q (f.length+1) n)).cell? (ag W.heap.size 3)=some (ae nn):=
     ⟨R.cell.2.1,(dJ (a:=(ag W.heap.size 0)) (aG (fun e=>I e.symm))).trans V.2.1,(dJ (a:=(ag W.heap.size 1)) (aG (fun e=>I e.symm))).trans V.2.2.1,(dJ (a:=(ag W.heap.size 2)) (aG (fun e=>I e.symm))).trans V.2.2.2.1,(dJ (a:=(ag W.heap.size 3)) (aG (fun e=>I e.symm))).trans V.2.2.2.2⟩
    have dR:(i:Int)<(ch1.length:Int):=aa;generalize((uW ch1 i 0).map eu)[i]=d6 at*;go_wp2
    go_hide hQ
    go_region_held3 (fun w'=>w'.cell? (ag Cb 1)=some (aC c ch1.length w)/\w'.cell? (ag W.heap.size 0)=some (ae x)/\w'.cell? (ag W.heap.size 1)=some (ae y)/\w'.cell? (ag W.heap.size 2)=some (ak d)/\w'.cell? (ag W.heap.size 3)=some (ae nn))
     (first|(with_reducible exact bd)|(with_reducible exact b6)|(with_reducible exact U)|(with_reducible exact V)|(with_reducible exact b7)|go_keep)
     ((refine gX rfl (.tmp 73) (.tmp 75) rfl a7 (by simp[Act.eval]) (by simp[Act.eval]) ?_;try simp only[Act.put,sG,pz,oD]))
    all_goals subst hQ
    clear b7;generalize cn:w6.setCell (ag c i) (.slice q (f.length+1) n)=bA at R |-;have Y:=R.Cr (N+1);obtain⟨dn,dp,dq,dr⟩:=R.cell;have c3:=R.frozen 2;obtain⟨t0,t1,t2,t3⟩:=Y.cell;have c4:=Y.frozen 3;have cb:((uW ch1 i 0).set i (q,f++[((x,y,d),nn)],n)).length=ch1.length:=by rw[nu,iY (aT _) B]
    have bp:=Y.row;rw[cb]at bp;have bB:=bp.cellAt i aa;have bh:(((uW ch1 i 0).set i (q,f++[((x,y,d),nn)],n)).map eu)[i]? =some (.slice q (f.length+1) n):=by
     rw[ib,ve (by rw[iY (aT _) B];omega)];simp[eu]
    rw[bh]at bB;have K:=(Y.RN (wrap64 (wk+((f.length:Int)+1)))).drew;have au:=af K;clear K;have dF:(-9223372036854775808:Int)<=N+1/\N+1<=9223372036854775807:=aa;have a6:=af cn;clear cn;clear f0 f1 f2 f3 cp b4 bd b6 U V a7;have dw:=af bB;have cD:=af bh;have cI:=af b5;have bf:l=some c\/W.heap.size<=c:=by
     rcases a2.o with h9|⟨b,h9,c6⟩
     .exact .inl h9.symm
     .simp only[Value.ownBlock,jH]at h9;exact .inr aa
    have a4:Hid (aB (fun k=>k=Cb\/l=some k) W w6):=((ab.o.grown (rP w4 (.cells #[ae x,ae y,ak d,ae nn] 187) none) ax).drew).grown aQ (fun b r=>.inr (by have:=(C b r).1;omega));have a3:=af J;clear bh;go_wp2;go_region;have cF:Hid (aB (fun k=>k=Cb\/some c=some k) w6 ((bA.setCell (ag Cb 2) (.int .i64 (N+1))).setCell (ag Cb 3) (.int .i64 (wrap64 (wk+((f.length:Int)+1))))).drew):=by
     rw[<-a6.o];exact((((aB.refl _ w6).set _ (.inl (.inr rfl))).set _ (.inl (.inl rfl))).set _ (.inl (.inl rfl))).drew
    have bN:Hid (aB (fun k=>k=Cb\/l=some k) W ((bA.setCell (ag Cb 2) (.int .i64 (N+1))).setCell (ag Cb 3) (.int .i64 (wrap64 (wk+((f.length:Int)+1))))).drew):=by
     rw[<-a6.o];exact(((a4.o.set _ (by rcases bf with h9|h9;exact .inl (.inr h9);exact .inr h9)).set _ (.inl (.inl rfl))).set _ (.inl (.inl rfl))).drew
    have K:=au.o;clear bB au dn dp dq dr t0 t1 t2 t3 c3 c4 R Y a6;generalize dl:((bA.setCell (ag Cb 2) (.int .i64 (N+1))).setCell (ag Cb 3) (.int .i64 (wrap64 (wk+((f.length:Int)+1))))).drew=cq at*;obtain⟨u0,u1,u2,u3⟩:=K.cell;have bq:=K.row;rw[cb]at bq;have du:=bq.cellAt i aa;rw[cD.o]at du;have bc:=cI.o.kept (a3.o.fG rfl cF.o);have co:=bN.o.size;have cw:=Ct q (f++[((x,y,d),nn)]) (f.length+1) n cq aV bc.OP aa;have au:=af K;have cJ:=af bc;clear dl aW bp bq K bc b5
    go_wp2_with fail
    refine cw.mono ?_;rintro e a0 ⟨bw,rfl,ck,aN⟩;go_wp2;go_ret2;have bP:aB (fun k=>k=Cb\/l=some k) W a0:=bN.o.below aN;have cd:=H.o.fG F.o bP;refine⟨i,bw,aC c ch1.length w,(uW ch1 i 0).set i (q,f++[((x,y,d),nn)],n),_,rfl,hi,ac.o,S.o,au.o.below aN,?_,?_,?_,?_,?_,?_,?_⟩
    .have cj:∀b,b<cq.heap.size->bw.ownBlock≠some b:=fun b r e=>by have:=(ck.lt b e).1;omega
     have b8:∀a8:World,(∀(b:Nat) O fr,a0.heap[b]? =some (Obj.cells O 187 fr)->bw.ownBlock≠some b->a8.heap[b]? =a0.heap[b]?)->rT a8 ((uW ch1 i 0).set i (q,f++[((x,y,d),nn)],n)):=by
      intro a8 al h bi;rcases Bc aw.o bi with rfl|rfl|h1
      .exact⟨cJ.o.kept fun b O fr r=>(al b O fr ((aP aN r).trans r) (cj b (bg.1 r).1)).trans (aP aN r),by show(f++[((x,y,d),nn)]).length<=n;omega⟩
      .exact⟨.inl rfl,aA _⟩
      .exact⟨(a5.o h h1).1.kept fun b O fr r=>(al b O fr ((cd b O fr r).trans r) (cj b (cO (bg.1 r).1 co))).trans (cd b O fr r),(a5.o h h1).2⟩
     exact⟨b8 a0 (fun _ _ _ _ _=>rfl),b8⟩
    .exact Hq aw.o _ ((x,y,d),nn) (by show f++[((x,y,d),nn)]=_;rw[bb])
    .rw[bb,aV];exact bM ck co
    .rcases a2.o with h9|h9
     .exact .inl (h9.trans F.o)
     .exact .inr h9
    .exact bP.mono fun k s=>s.imp id fun h9=>F.o▸h9
    .intro h bi;rcases Bc aw.o bi with rfl|rfl|h1
     .exact .inr cx.o
     .exact .inr fun a be=>by cases be
     .exact .inl h1
    .rw[bb]
end
section
open Go.RowKit Go.Maps
section
variable {W:World} {base Cb:Nat} {cv:Value} {ch:List Bd} {N wk:Int}
theorem zu (h:nK W base Cb cv ch N wk) (f:ch.length<=1000000):aK 141 #[aj Cb] W (gD W (ae ch.length)):=by
 have b:=af (xD h);have H:=af h;obtain⟨av,d,rfl,-,-,-⟩:=Rd.aD (enc:=eu) H.o.row;go_enter func141,ntmps141
 go_wp2_with fail
 refine b.o.mono ?_;rintro e w2 ⟨rfl,a⟩;obtain⟨-,c,-⟩:=(H.o.below a).cell;go_wp2;go_ret;exact⟨rfl,a⟩
theorem O8 (h:nK W base Cb cv ch N wk):aK 139 #[aj Cb] W (gD W (ae N)):=by
 have b:=af (xD h);have H:=af h;go_enter func139,ntmps139
 go_wp2_with fail
 refine b.o.mono ?_;rintro e w2 ⟨rfl,a⟩;obtain⟨-,-,c,-⟩:=(H.o.below a).cell;go_wp2;go_ret;exact⟨rfl,a⟩
theorem zw (h:nK W base Cb cv ch N wk) (t:rT W ch) (B:ch.length<=1000000) (i:Nat) (hi:i<ch.length) (j:ch[i].2.1.length<=1000000):aK 142 #[aj Cb,ae i] W fun e w'=>
  ∃v,e=.returned v/\w'.ownsRow W.heap.size 187 4 v ch[i].2.1.length (ch[i].2.1.flatMap lW)/\Below W.heap.size W w':=by
 have m:=af (xD h);have H:=af h;obtain⟨av,w,rfl,-,-,-⟩:=Rd.aD (enc:=eu) H.o.row;obtain⟨g,x,c,y,z,-,-⟩:=aS H.o.row aa;injection c with c _ q;subst c q;have f:=af (fun W' (d:Below W.heap.size W W')=>(t _ (bC hi)).1.OP.below d);have b:=af (fun W' (d:Below W.heap.size W W')=>(show W'.cell? (ag g i)=some (eu ch[i]) by
  have:=((H.o.below d).row).cellAt i aa;rw[ib,cK hi]at this;exact this))
 unfold eu at b;have A:(i:Int)<(ch.length:Int):=aa;generalize ch[i]=hd at*;have⟨n,k,p⟩:=hd;simp only at f b j |-;have d1:decide ((i:Int)<0)=false:=ax;go_enter func142,ntmps142
 go_wp2_with fail
 refine m.o.mono ?_;rintro e w2 ⟨rfl,a⟩;obtain⟨-,u,-⟩:=(H.o.below a).cell;have D:=b.o w2 a;have l:=af (Ct n k k.length p w2 rfl (f.o w2 a) j)
 go_wp2_with fail
 refine l.o.mono ?_;rintro e w3 ⟨C,rfl,s,r⟩;have HO:=af (bM s a.size);go_wp2;go_ret;exact⟨_,rfl,HO.o,a.trans (r.mono a.size)⟩
end
end
end Go.Proofs.YtkjdbndekceffaaGreat
