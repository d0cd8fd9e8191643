/- Made small by a program. -/
import Derived.Test.YtkjdbndekceffaaGreatX03
set_option linter.unusedSimpArgs false
set_option linter.unusedVariables false
set_option maxRecDepth 100000
set_option maxHeartbeats 16000000
namespace Go.Proofs.YtkjdbndekceffaaGreat
open Tryz
section
open Go.RowKit Go.Maps
abbrev gu (α:Type):=Option Addr×List α×Nat
def dW {α:Type} (h:gu α):Value:=.slice h.1 h.2.1.length h.2.2
theorem aP {W W':World} (h:Below W.heap.size W W') {b:Nat} {o:Obj} (a:W.heap[b]? =some o):W'.heap[b]? =W.heap[b]? :=h.block b (aY.1 a).1
section
variable {α:Type} {enc:α->List Value} {sz:Nat} {te ts tc:TypeId}
def LW (enc:α->List Value) (sz:Nat) (te:TypeId) (W:World) (a:Option Addr) (l:List α):Prop:=
 l=[]\/∃b off cur fr,a=some (af b off)/\W.heap[b]? =some (Obj.cells cur te fr)/\∀i (h:i<l.length),∀j,j<sz->cur[off+i*sz+j]? =(enc l[i])[j]?
theorem LW.NH {W:World} {a:Option Addr} {l:List α} (h:LW enc sz te W a l):bY enc sz W a l:=by
 rcases h with h|⟨b,off,f,fr,rfl,c,d⟩
 .exact .inl h
 .refine .inr ⟨b,off,rfl,(aY.1 c).1,fun i hi j e=>?_⟩;have:=d i hi j e;simp only[World.cell?,c];simpa using this
theorem LW.aJ (d:∀p,(enc p).length=sz) (m:0<sz) {W:World} {base:Nat} {v:Value} {n:Nat} {l:List α} (h:W.ownsRow base te sz v n (l.flatMap enc)):∃a c,v=.slice a l.length c/\n=l.length/\l.length<=c/\LW enc sz te W a l:=by
 have⟨e,h⟩:=h;rw[gq d]at e;obtain rfl:n=l.length:=Nat.eq_of_mul_eq_mul_right m e.symm;rcases h with⟨rfl,s⟩|⟨g,f,k,rfl,t,q,o,u,w,ht⟩
 .obtain rfl:l=[]:=gU s;exact⟨none,0,rfl,rfl,aB _,.inl rfl⟩
 .refine⟨_,f,rfl,rfl,o,.inr ⟨g,0,k,_,rfl,q,fun i hi j r=>?_⟩⟩;have b:=flat_get d l i hi j r;rw[<-ht,uN,aO (by have:=nR sz (Nat.succ_le_of_lt hi);rw[Nat.succ_mul]at this;omega)]at b;simpa using b
theorem LW.kept {W W':World} {a:Option Addr} {l:List α} (h:LW enc sz te W a l) (f:∀(b:Nat) c fr,W.heap[b]? =some (Obj.cells c te fr)->W'.heap[b]? =W.heap[b]?):LW enc sz te W' a l:=by
 rcases h with h|⟨b,off,c,fr,rfl,d,e⟩
 .exact .inl h
 .exact .inr ⟨b,off,c,fr,rfl,(f b c fr d).trans d,e⟩
def oO (enc:α->List Value) (sz:Nat) (te:TypeId) (W:World) (hs:List (gu α)):Prop:=∀h∈hs,LW enc sz te W h.1 h.2.1/\h.2.1.length<=h.2.2
theorem oO.kept {W W':World} {a:List (gu α)} (h:oO enc sz te W a) (d:∀(b:Nat) cur fr,W.heap[b]? =some (Obj.cells cur te fr)->W'.heap[b]? =W.heap[b]?):oO enc sz te W' a:=fun x c=>⟨(h x c).1.kept d,(h x c).2⟩
abbrev fK {α:Type}:gu α:=(none,[],0)
def Nw {α:Type} (n:Nat) (ch qV:List (gu α)):Prop:=∀h∈qV,h∈ch\/∀a,h.1=some a->n<=a.block
theorem Nw.refl {n:Nat} {ch:List (gu α)}:Nw n ch ch:=fun h a=>.inl a
theorem Nw.Ta {n k:Nat} {ch:List (gu α)}:Nw n ch (List.replicate k fK):=fun h c=>.inr fun a b=>by rw[(AL.1 c).2]at b;cases b
theorem Nw.trans {n m:Nat} {b c d:List (gu α)} (e:Nw n b c) (f:Nw m c d) (k:n<=m):Nw n b d:=fun h j=>by
 rcases f h j with g|g
 .exact e h g
 .exact .inr fun a i=>bA k (g a i)
theorem Nw.nil {n m:Nat} {c b:List (gu α)} (h:Nw m [] b) (e:n<=m):Nw n c b:=fun x f=>by
 rcases h x f with i|g
 .cases i
 .exact .inr fun a d=>bA e (g a d)
theorem Nw.set {n:Nat} {b c:List (gu α)} (d:Nw n b c) {k:Nat} {hd:gu α} (e:∀a,hd.1=some a->n<=a.block):Nw n b (c.set k hd):=fun h g=>by
 rcases Ei g with f|rfl
 .exact d h f
 .exact .inr e
theorem Nw.snoc {n:Nat} {b c:List (gu α)} (d:Nw n b c) {hd:gu α} (e:∀a,hd.1=some a->n<=a.block):Nw n b (c++[hd]):=fun h f=>by
 rcases bT.1 f with h9|h9
 .exact d h h9
 .obtain rfl:h=hd:=aQ h9;exact .inr e
structure ik (tc ts te:TypeId) (W:World) (base Cb:Nat) (cv:Value) (ch:List (gu α)) (N wk:Int):Prop where
 hb:base<=Cb
 ds:ts≠tc/\tc≠te/\ts≠te
 blk:W.heap[Cb]? =some (Obj.cells #[.bool true,cv,ae N,ae wk] tc (0,0))
 row:W.ownsRow base ts 1 cv ch.length (ch.map dW)
theorem ik.cell {W:World} {base Cb:Nat} {cv:Value} {ch:List (gu α)} {N wk:Int} (h:ik tc ts te W base Cb cv ch N wk):
  W.cell? (af Cb 0)=some (.bool true)/\W.cell? (af Cb 1)=some cv/\W.cell? (af Cb 2)=some (ae N)/\W.cell? (af Cb 3)=some (ae wk):=by
 have:=h.blk;refine⟨?_,?_,?_,?_⟩<;>simp[World.cell?,this]
theorem ik.frozen {W:World} {base Cb:Nat} {cv:Value} {ch:List (gu α)} {N wk:Int} (h:ik tc ts te W base Cb cv ch N wk) (j:Nat):W.frozen? (af Cb j)=false:=by
 have:=h.blk;simp[World.frozen?,this]
theorem ik.lt {W:World} {base Cb:Nat} {cv:Value} {ch:List (gu α)} {N wk:Int} (h:ik tc ts te W base Cb cv ch N wk):Cb<W.heap.size:=(aY.1 h.blk).1
theorem ik.ne {W:World} {base Cb:Nat} {cv:Value} {ch:List (gu α)} {N wk:Int} (h:ik tc ts te W base Cb cv ch N wk):cv.ownBlock≠some Cb:=by
 intro e;rcases h.row.2 with⟨rfl,_⟩|⟨g,b,c,rfl,_,a,_⟩
 .cases e
 .simp only[Value.ownBlock,jq]at e;subst e;rw[h.blk]at a;injection a with a;injection a with _ a _;exact h.ds.1 a.symm
theorem ik.grown {W W':World} {base Cb:Nat} {cv:Value} {ch:List (gu α)} {N wk:Int} {r:Option Nat} (h:ik tc ts te W base Cb cv ch N wk) (a:W.grownBy W' r) (b:r≠some Cb) (c:cv.ownBlock=none\/cv.ownBlock≠r):ik tc ts te W' base Cb cv ch N wk:=
 ⟨h.hb,h.ds,(a.block Cb h.lt (fun e=>b e.symm)).trans h.blk,h.row.kept a c⟩
theorem ik.below {W W':World} {base Cb:Nat} {cv:Value} {ch:List (gu α)} {N wk:Int} (h:ik tc ts te W base Cb cv ch N wk) (hb:Below W.heap.size W W'):ik tc ts te W' base Cb cv ch N wk:=
 h.grown (bN hb) ay (by cases a:cv.ownBlock<;>simp)
theorem ik.drew {W:World} {base Cb:Nat} {cv:Value} {ch:List (gu α)} {N wk:Int} (h:ik tc ts te W base Cb cv ch N wk):ik tc ts te W.drew base Cb cv ch N wk:=⟨h.hb,h.ds,h.blk,h.row⟩
theorem ik.LX {W:World} {base Cb g a n:Nat} {ch:List (gu α)} {N wk:Int} (h:ik tc ts te W base Cb (aA g n a) ch N wk) (c:n=ch.length) (k:Nat) (x:gu α):ik tc ts te (W.setCell (af g k) (dW x)) base Cb (aA g n a) (ch.set k x) N wk:=by
 subst c;have b:=h.row.stored k (dW x);have d:=h.ne;refine⟨h.hb,h.ds,(aF (fun e=>d (by simp only[Value.ownBlock];exact congrArg some e))).trans h.blk,?_⟩;rw[kP,kM];exact b.1
theorem ik.Bu {W:World} {base Cb:Nat} {cv:Value} {ch:List (gu α)} {N wk:Int} (h:ik tc ts te W base Cb cv ch N wk) (a:Int):ik tc ts te (W.setCell (af Cb 2) (.int .i64 a)) base Cb cv ch a wk:=by
 refine⟨h.hb,h.ds,?_,aZ h.row fun c e=>aF fun b=>h.ne (by rw[e,<-b])⟩;rw[di W Cb 2 _ _ _ h.blk];rfl
theorem ik.QJ {W:World} {base Cb:Nat} {cv:Value} {ch:List (gu α)} {N wk:Int} (h:ik tc ts te W base Cb cv ch N wk) (a:Int):ik tc ts te (W.setCell (af Cb 3) (.int .i64 a)) base Cb cv ch N a:=by
 refine⟨h.hb,h.ds,?_,aZ h.row fun c e=>aF fun b=>h.ne (by rw[e,<-b])⟩;rw[di W Cb 3 _ _ _ h.blk];rfl
theorem ik.LY {W:World} {base Cb:Nat} {cv a:Value} {ch b:List (gu α)} {N wk:Int} (h:W.heap[Cb]? =some (Obj.cells #[.bool true,cv,ae N,ae wk] tc (0,0))) (hb:base<=Cb) (d:ts≠tc/\tc≠te/\ts≠te) (g:W.ownsRow base ts 1 a b.length (b.map dW)) (f:a.ownBlock≠some Cb):ik tc ts te (W.setCell (af Cb 1) a) base Cb a b N wk:=by
 refine⟨hb,d,?_,aZ g fun i e=>aF fun c=>f (by rw[e,<-c])⟩;rw[di W Cb 1 _ _ _ h];rfl
theorem ik.fq {W W':World} {base Cb:Nat} {cv:Value} {ch:List (gu α)} {N wk:Int} (h:ik tc ts te W base Cb cv ch N wk) {a:Option Nat} (hS:a=cv.ownBlock) (K:ax (fun k=>k=Cb\/a=some k) W W'):
  ∀(b:Nat) c fr,W.heap[b]? =some (Obj.cells c te fr)->W'.heap[b]? =W.heap[b]? :=by
 intro b c fr hb;refine K.block b (aY.1 hb).1 ?_;rintro(rfl|e)
 .rw[h.blk]at hb;injection hb with hb;injection hb with _ hb _;exact h.ds.2.1 hb
 .rw[hS]at e;rcases h.row.2 with⟨rfl,_⟩|⟨g,f,i,rfl,_,d,_⟩
  .cases e
  .simp only[Value.ownBlock,jq]at e;subst e;rw[d]at hb;injection hb with hb;injection hb with _ hb _;exact h.ds.2.2 hb
def eU (CB:List (List α)) (i:Nat):List α:=(CB.take i).reverse.flatten
def kz (CB:List (List α)) (i:Nat) (x:α):List (List α):=List.replicate i []++(eU CB i++[x])::CB.drop (i+1)
def UH (tc ts te:TypeId) (enc:α->List Value) (sz:Nat) (W:World) (base Cb:Nat) (cv:Value) (ch:List (gu α)) (x:α) (N wk:Int) (e:Ending) (w':World):Prop:=
 ∃(i:Nat) (v CW:Value) (qV:List (gu α)) (KI:Int),e=.returned (.tuple #[ae i,v])/\i<=ch.length/\(∀j (hj:j<ch.length),j<i->ch[j].2.1≠[])/\(∀hi:i<ch.length,ch[i].2.1=[])/\
  ik tc ts te w' base Cb CW qV (N+1) KI/\(oO enc sz te w' qV/\∀W2:World,(∀(b:Nat) cur fr,w'.heap[b]? =some (Obj.cells cur te fr)->v.ownBlock≠some b->W2.heap[b]? =w'.heap[b]?)->oO enc sz te W2 qV)/\qV.map (·.2.1)=kz (ch.map (·.2.1)) i x/\
  w'.ownsRow W.heap.size te sz v (eU (ch.map (·.2.1)) i++[x]).length ((eU (ch.map (·.2.1)) i++[x]).flatMap enc)/\
  (CW.ownBlock=cv.ownBlock\/∃b,CW.ownBlock=some b/\W.heap.size<=b)/\ax (fun k=>k=Cb\/cv.ownBlock=some k) W w'/\Nw W.heap.size ch qV/\KI=wrap64 (wk+((eU (ch.map (·.2.1)) i).length+1:Int))
def uo (ch1:List (gu α)) (i k:Nat):List (gu α):=ch1.take k++(List.replicate (i-k) fK++ch1.drop i)
theorem iM {ch1:List (gu α)} {i k:Nat} (a:k<=i) (hi:i<=ch1.length):(uo ch1 i k).length=ch1.length:=by simp[uo];omega
theorem KJ {ch1:List (gu α)} {i:Nat}:uo ch1 i i=ch1:=by simp[uo]
theorem Gi {ch1:List (gu α)} {i:Nat}:uo ch1 i 0=List.replicate i fK++ch1.drop i:=by simp[uo]
theorem KL {ch1:List (gu α)} {i m:Nat} (hi:i<=ch1.length) (a:m<i):(uo ch1 i (m+1))[m]? =ch1[m]? :=by
 unfold uo;rw[lW aH,uN,aO aa]
theorem KM {ch1:List (gu α)} {i m:Nat} (hi:i<=ch1.length) (c:m<i):(uo ch1 i (m+1)).set m fK=uo ch1 i m:=by
 unfold uo;rw[List.set_append_left _ _ aH];have b:m<ch1.length:=aa;have a:(ch1.take (m+1)).set m fK=ch1.take m++[fK]:=by
  rw[ic b,uu _ _ aH];have:m-(ch1.take m).length=0:=aH;rw[this];rfl
 rw[a,show i-m=(i-(m+1))+1 by omega,List.replicate_succ,ed];rfl
theorem Gj {ch ch1:List (gu α)} {i:Nat} (a:ch1=ch/\i<ch.length\/ch1=ch++[fK]/\i=ch.length) (hd:gu α) (x:α) (d:hd.2.1=eU (ch.map (·.2.1)) i++[x]):
  ((uo ch1 i 0).set i hd).map (·.2.1)=kz (ch.map (·.2.1)) i x:=by
 have c:i<ch1.length:=by rcases a with⟨rfl,h⟩|⟨rfl,h⟩<;>first|omega|(simp;omega)
 have b:(ch1.drop (i+1)).map (·.2.1)=(ch.map (·.2.1)).drop (i+1):=by
  rcases a with⟨rfl,h⟩|⟨rfl,h⟩
  .rw[yg]
  .rw[oC aH,oC aH];rfl
 rw[Gi,mJ c,uu _ _ ay,iA,iR,oF,bM,l8,b,d,Et];rfl
theorem Ad {ch ch1:List (gu α)} {i:Nat} (b:ch1=ch/\i<ch.length\/ch1=ch++[fK]/\i=ch.length) {hd h:gu α} (c:h∈(uo ch1 i 0).set i hd):h=hd\/h=fK\/h∈ch:=by
 rcases Ei c with h1|h1
 .rw[Gi,bT]at h1;rcases h1 with h1|h1
  .exact .inr (.inl (AL.1 h1).2)
  .have a:=IV h1;rcases b with⟨rfl,-⟩|⟨rfl,-⟩
   .exact .inr (.inr a)
   .rcases bT.1 a with h3|h3
    .exact .inr (.inr h3)
    .exact .inr (.inl (aQ h3))
 .exact .inl h1
def setC:Nat->List α->List (List α)
 |0,_=>[]
 |k+1,r=>if 2^k<=r.length then setC k (r.drop (2^k))++[r.take (2^k)]else setC k r++[[]]
theorem eG:∀(k:Nat) (r:List α),(setC k r).length=k
 |0,_=>rfl
 |k+1,r=>by
  unfold setC;split<;>simp[eG k]
theorem yB:∀(k:Nat) (r:List α) (i:Nat) (h:i<(setC k r).length),(setC k r)[i].length=0\/(setC k r)[i].length=2^i
 |0,_,i,h=>by cases h
 |k+1,r,i,h=>by
  have c:=eG (k+1) r;unfold setC;split
  .rename_i b;by_cases a:i<k
   .rw[qJ (by rw[eG];exact a)];exact yB k _ i _
   .obtain rfl:i=k:=aa;rw[wu (by rw[eG];exact aB _)];right;simp only[eG,iR,nE,eH];omega
  .by_cases a:i<k
   .rw[qJ (by rw[eG];exact a)];exact yB k _ i _
   .obtain rfl:i=k:=aa;rw[wu (by rw[eG];exact aB _)];left;simp only[eG,iR,nE,fF]
theorem kR:∀(k:Nat) (r:List α),r.length<2^k->(setC k r).flatten.Perm r
 |0,r,h=>by
  obtain rfl:r=[]:=gU (aQ h);exact pR _
 |k+1,r,h=>by
  unfold setC;rw[nX]at h;split
  .rename_i c;rw[ll];simp only[uP,List.flatten_nil,iP];have a:=kR k (r.drop (2^k)) (by rw[lM];omega);have b:(r.take (2^k)++r.drop (2^k))=r:=jJ _ _;refine(List.Perm.append_right _ a).trans (List.perm_append_comm.trans ?_);rw[b]
  .rw[ll];simp only[uP,List.flatten_nil,iP];exact kR k r aa
theorem LZ (k:Nat) (r:List α) (h:2^k<=r.length) (h':k<(setC (k+1) r).length):(setC (k+1) r)[k]≠[]:=by
 have e:setC (k+1) r=setC k (r.drop (2^k))++[r.take (2^k)]:=by rw[setC,aO h]
 have a:(setC (k+1) r)[k]? =some (r.take (2^k)):=by
  rw[e,nD (by rw[eG];exact aB _),eG,iR];rfl
 rw[cB h']at a;injection a with a;rw[a];intro b;have:=congrArg List.length b;have c:0<2^k:=pY ai;rw[eH,fF]at this;omega
theorem DK (k:Nat):List.replicate (k+1) (fK:gu α)=List.replicate k fK++[fK]:=rA
theorem DL (W:World) (k:Nat):oO enc sz te W (List.replicate k (fK:gu α)):=fun h a=>by
 rw[(AL.1 a).2];exact⟨.inl rfl,aB _⟩
theorem Gl (m:Nat) (T:List (List α)) (x:List α):(List.replicate (m+1) []++T).set m x=List.replicate m []++x::T:=by
 rw[rA,ed,uu _ _ ay,iA,iR];rfl
theorem Gm {W W':World} {ch:List (gu α)} {m:Nat} {hd:gu α} (h:oO enc sz te W ch) (c:∀(b:Nat) cur fr,W.heap[b]? =some (Obj.cells cur te fr)->W'.heap[b]? =W.heap[b]?) (d:LW enc sz te W hd.1 hd.2.1) (e:hd.2.1.length<=hd.2.2):oO enc sz te W' (ch.set m hd):=fun x f=>by
 rcases Ei f with a|rfl
 .exact⟨(h x a).1.kept c,(h x a).2⟩
 .exact⟨d.kept c,e⟩
end
theorem oO.NY {α:Type} {enc:α->List Value} {sz:Nat} {te:TypeId} {W W':World} {d:List (gu α)} {S T:Nat->Prop} (h:oO enc sz te W d) (hi:∀h∈d,h.2.1≠[]->∀a,h.1=some a->S a.block) (K:ax T W W') (hd:∀k,S k->¬T k):oO enc sz te W' d:=fun x i=>by
 have⟨c,l⟩:=h x i;refine⟨?_,l⟩;by_cases e:x.2.1=[]
 .exact .inl e
 .rcases c with c|⟨b,off,j,fr,f,g,m⟩
  .exact .inl c
  .exact .inr ⟨b,off,j,fr,f,(K.block b (aY.1 g).1 (hd _ (hi x i e _ f))).trans g,m⟩
end
section
open Go.RowKit Go.Sort Go.Shelf Go.Lib Go.Maps
abbrev eX:=Pt×Int
def lF (p:eX):List Value:=[.int .i64 p.1.1,.int .i64 p.1.2.1,.int .u32 p.1.2.2,.int .i64 p.2]
abbrev UI (x y d n:Int):Value:=.agg #[ae x,ae y,ak d,ae n]
theorem Bv (p:eX):(lF p).length=4:=rfl
theorem Gn (p:eX):∀u∈lF p,u.oneCell'=true:=by intro u hu;simp[lF]at hu;rcases hu with rfl|rfl|rfl|rfl<;>rfl
theorem Gp:eP prog 213 187 4 32:=.mk' (z:=.agg #[ae 0,ae 0,ak 0,ae 0]) underlying213 aM rfl ai
theorem Sm:eP prog 276 213 1 24:=.mk' (z:=aL) underlying276 aM rfl ai
theorem Bw (a:Option Addr) (l:List eX) (n c:Nat) (w:World) (k:l.length=n) (h:bY lF 4 w a l) (m:n<=1000000):
  aK 208 #[.slice a n c] w fun e w'=>∃v,e=.returned v/\w'.ownsRow w.heap.size 187 4 v n (l.flatMap lF)/\Below w.heap.size w w':=by
 subst k;have o:∀(w:World) (a:Option Addr) (n c n' d:Nat),(binOp .eql 213 (.slice a n c) (.slice none n' d)).run prog w=.ok (.bool a.isNone) w:=fun w a n c n' d=>Em w _ _ a n c n' d underlying213;cases a with
 |none=>
  have i:l=[]:=by
   rcases h with h|⟨b,off,h,_⟩
   .exact h
   .cases h
  subst i;go_enter func208,ntmps208;go_wp2;go_ret;exact⟨_,rfl,dx _ _ _ _,aI _ _⟩
 |some ad=>
  have f:=AO (e:=187) (size:=4) w #[] 0 (aB _) (bD _) rfl;have h':bY lF 4 (w.alloc (.cells #[] 187)) (some ad) l:=h.below ((aI _ _).alloc (aB _) _);go_enter func208,ntmps208
  go_wp2_with (at_builtin;refine iU Gp Bv Gn w.heap.size f h' rfl _ _ rfl rfl c rfl dJ aa ay ?_;intro p w' g j)
  go_ret;rw[kH,fQ]at g;exact⟨_,rfl,g,dB ((aI _ _).alloc (aB _) _) f j ay (aB _)⟩
abbrev Ae:=gu eX
abbrev L6:=LW lF 4 187
abbrev qW:=oO lF 4 187
theorem L6.aJ {W:World} {base:Nat} {v:Value} {n:Nat} {l:List eX} (h:W.ownsRow base 187 4 v n (l.flatMap lF)):∃a c,v=.slice a l.length c/\n=l.length/\l.length<=c/\L6 W a l:=LW.aJ Bv ai h
abbrev mi:=@ik eX 278 213 187
theorem VE:213≠278/\278≠187/\213≠187:=ai
theorem tK {W:World} {base Cb:Nat} {cv:Value} {ch:List Ae} {N wk:Int} (h:mi W base Cb cv ch N wk):aK 207 #[aj Cb] W (fw W (.bool false)):=by
 obtain⟨a,-⟩:=h.cell;go_enter func207,ntmps207;go_wp2;go_ret;exact⟨rfl,aI _ _⟩
end
section
open Go.RowKit Go.Maps
attribute [local irreducible] wpQuiet
abbrev VF:=@UH eX 278 213 187 lF 4
theorem Tc {W:World} {base Cb:Nat} {cv:Value} {ch:List Ae} {N wk:Int} (h:mi W base Cb cv ch N wk) (dF:base<=W.heap.size) (cm:qW W ch) (x y d nn:Int) (dC:0<=N/\N<=100000) (dT:ch.length<=1000) (dX:(ch.map (·.2.1)).flatten.length<=10000):
  aK 135 #[aj Cb,UI x y d nn] W (VF W base Cb cv ch ((x,y,d),nn) N wk):=by
 have a1:Below W.heap.size W (W.alloc (.cells #[ae x,ae y,ak d,ae nn] 187)):=(aI _ _).alloc (aB _) _;have cs:(W.alloc (.cells #[ae x,ae y,ak d,ae nn] 187)).cell? (af W.heap.size 0)=some (ae x):=by rw[eF _ _ _ _ rfl];rfl
 have x1:(W.alloc (.cells #[ae x,ae y,ak d,ae nn] 187)).cell? (af W.heap.size 1)=some (ae y):=by rw[eF _ _ _ _ rfl];rfl
 have x2:(W.alloc (.cells #[ae x,ae y,ak d,ae nn] 187)).cell? (af W.heap.size 2)=some (ak d):=by rw[eF _ _ _ _ rfl];rfl
 have ct:(W.alloc (.cells #[ae x,ae y,ak d,ae nn] 187)).cell? (af W.heap.size 3)=some (ae nn):=by rw[eF _ _ _ _ rfl];rfl
 have bC:=ag (tK (h.below a1));have H:=ag h;have a5:=ag cm;have bG:=ag a1;clear h cm a1;go_enter func135,ntmps135
 go_wp2_with fail
 refine bC.o.mono ?_;rintro e w2 ⟨rfl,Q⟩;have bB:=ag (bG.o.trans (Q.mono ay));have cu:=(Q.cell (p:=(af W.heap.size 0)) ay).trans cs;have y1:=(Q.cell (p:=(af W.heap.size 1)) ay).trans x1;have y2:=(Q.cell (p:=(af W.heap.size 2)) ay).trans x2;have cw:=(Q.cell (p:=(af W.heap.size 3)) ay).trans ct;have ap:W.heap.size<w2.heap.size:=by have:=Q.size;simp at this;omega
 have v:=ag (H.o.below bB.o);have b0:=ag cu;have b1:=ag y1;have b2:=ag y2;have b3:=ag cw;clear cs x1 x2 ct cu y1 y2 cw bC bG Q;obtain⟨cQ,cR,cS,cT⟩:=v.o.cell
 go_upto_block 0 with fail
 go_cut [6]from 11 to 30 (fun sv D=>∃i:Nat,sv=.int .i64 i/\Hid (D=w2)/\i<=ch.length/\Hid (∀j (aS:j<ch.length),j<i->ch[j].2.1≠[])/\Hid (∀hi:i<ch.length,ch[i].2.1=[]))
 case first=>
  go_wp2_with fail
  go_loopw [6] (fun bp wr=>∃i:Nat,bp=.int .i64 i/\Hid (wr=w2)/\i<=ch.length/\Hid (∀j (aS:j<ch.length),j<i->ch[j].2.1≠[])) (fun bp _=>ch.length-(intOf bp).toNat)
  case atStart=>exact⟨0,rfl,(by first|rfl|trivial),bD _,fun j _ h=>absurd h (kE _)⟩
  case round=>
   obtain⟨i,rfl,aq,hi,ac⟩:=hrel;obtain rfl:wr=w2:=aq.o;clear aq;obtain⟨av,ad,rfl,-,-,ao⟩:=Rd.aJ (enc:=dW) v.o.row;by_cases ci:i<ch.length
   .obtain⟨b,off,b4,dG,cd⟩:=ao.get aa;have z:=cd i ci;have S:Hid (ch[i].2.1=[]->∀hi:i<ch.length,ch[i].2.1=[]):=fun h _=>h;have az:Hid (ch[i].2.1≠[]->∀j (aS:j<ch.length),j<i+1->ch[j].2.1≠[]):=fun h j aS de=>by
     rcases Ej.1 de with h9|rfl
     .exact ac.o j aS h9
     .exact h
    have bE:=ag b4;unfold dW at z;clear cd b4 ao;generalize ch[i]=hd at*;obtain⟨dv,bs,dy⟩:=hd;simp only at z S az;obtain rfl:=bE.o;clear bE;have dU:(i:Int)<(ch.length:Int):=aa;by_cases ai:bs=[]
    .have Z:=ag (S.o ai);clear S az;subst ai
     go_wp2_with fail
     go_meet;exact⟨i,rfl,(by first|rfl|trivial),hi,ac,Z⟩
    .have Z:=ag (az.o ai);have dg:0<bs.length:=Aw.2 ai;have dI:decide (0<bs.length)=true:=by simp[dg]
     clear ai S az
     go_wp2_with fail
     go_roundw
     case rel=>exact⟨i+1,by go_num,(by first|rfl|trivial),aa,Z⟩
     case measure=>exact eT
   .have Z:Hid (∀hi:i<ch.length,ch[i].2.1=[]):=fun h=>absurd h ci;have dP:¬(i:Int)<(ch.length:Int):=aa
    go_wp2_with fail
    go_meet;exact⟨i,rfl,(by first|rfl|trivial),hi,ac,Z⟩
 case rest=>
  obtain⟨i,rfl,aq,hi,ac,S⟩:=hcut;obtain rfl:wc=w2:=aq.o;clear aq;obtain⟨l,am⟩:∃l,l=cv.ownBlock:=⟨_,rfl⟩;have dt:Hid (∀k,(k=Cb\/l=some k)->base<=k):=fun k h=>by
   rcases h with rfl|h
   .exact v.o.hb
   .exact(v.o.row.lt k (am▸h)).1
  have aC:Hid (∀k,l=some k->k<W.heap.size/\k≠Cb):=fun k h=>⟨(H.o.row.lt k (am▸h)).2,fun e=>H.o.ne (by rw[<-am,h,e])⟩;have F:=ag am;have dB:=H.o.lt;obtain⟨av,ad,rfl,-,dH,-⟩:=Rd.aJ (enc:=dW) v.o.row;have bQ:Hid (ax (fun k=>k=Cb\/l=some k) W wc):=(ax.refl _ _).grown (bN bB.o) ay;have cH:Hid (∀w6,wc.grownBy w6 (Value.ownBlock (.slice av ch.length ad))->w6.heap[Cb]? =some (Obj.cells #[.bool true,.slice av ch.length ad,ae N,ae wk] 278 (0,0))):=fun w6 A=>(A.block Cb v.o.lt (fun e=>v.o.ne e.symm)).trans v.o.blk;clear am
  go_upto_if 37 with fail
  go_cut []from 37 to 46 (fun D=>∃ah ch1 c aX w,Hid (mi D base Cb ah ch1 N wk)/\ah=aA c aX w/\aX=ch1.length/\i<aX/\Hid (ch1=ch/\i<ch.length\/ch1=ch++[fK]/\i=ch.length)/\Hid (ah.ownBlock=l\/∃b,ah.ownBlock=some b/\W.heap.size<=b)/\Hid (c≠W.heap.size)/\Hid (ax (fun k=>k=Cb\/l=some k) W D)/\Hid (ax (fun k=>k=Cb\/l=some k) wc D))
  case first=>
   by_cases dd:i=ch.length
   .subst dd;have c9:((ch.length:Int)==(ch.length:Int))=true:=ay
    go_wp2_with (at_builtin;refine bZ Sm base v.o.row [aL] rfl (by simp[Value.oneCell']) rfl _ _ rfl rfl _ rfl dJ aa aa ?_;intro bt w6 an A cb;obtain⟨G,n,rfl,dL,dM,dN,dO⟩:=aV an aa;have bq:=cH.o w6 A;have dZ:w6.cell? (af Cb 1)=some (.slice av ch.length ad):=(aD bq);have d4:w6.frozen? (af Cb 1)=false:=(aD bq))
    go_meet;have bk:w6.ownsRow base 213 1 (aA G (ch.length+1) n) (ch++[fK]).length ((ch++[fK]).map dW):=by
     rw[bS,bM];exact an
    have aO:(some G=l\/G=wc.heap.size+1):=by
     rcases cb with h9|h9
     .exact .inl (h9.trans F.o.symm)
     .simp only[Value.ownBlock,jq]at h9;rw[h9];exact .inr ay
    have db:G≠Cb:=by
     rcases aO with h9|h9
     .exact(aC.o G h9.symm).2
     .omega
    refine⟨_,ch++[fK],G,ch.length+1,n,ik.LY (ch:=ch) bq v.o.hb v.o.ds bk (by simpa[Value.ownBlock]using db),rfl,ay,aa,(by first|exact .inr ⟨rfl,rfl⟩|exact .inr ⟨rfl,trivial⟩),?_,?_,(bQ.o.grown A fun k s=>.inl (.inr (F.o.trans s))).set _ (.inl (.inl rfl)),((ax.refl _ wc).grown A fun k s=>.inl (.inr (F.o.trans s))).set _ (.inl (.inl rfl))⟩
    .rcases aO with h9|h9
     .exact .inl (by simpa[Value.ownBlock]using h9)
     .exact .inr ⟨G,rfl,aa⟩
    .show G≠W.heap.size;rcases aO with h9|h9
     .have:=(aC.o G h9.symm).1;omega
     .omega
   .have c9:((i:Int)==(ch.length:Int))=false:=by simp only[beq_eq_false_iff_ne];omega
    have cg:i<ch.length:=aa;obtain⟨g,dz,ba,da,aQ,-,-⟩:=aV v.o.row aa;injection ba with ba _ cV;subst ba cV;go_wp2;go_meet;have dc:l=some g:=F.o;exact⟨_,ch,g,ch.length,ad,v,rfl,rfl,cg,.inl ⟨rfl,cg⟩,.inl F.o.symm,(by show g≠W.heap.size;have:=(aC.o g dc).1;omega),bQ,ax.refl _ _⟩
  case rest=>
   obtain⟨ah,ch1,c,aX,w,ar,rfl,rfl,dR,aw,a2,cC,cL,T⟩:=hcut;obtain⟨w3,cZ⟩:∃w3:World,w3=wc:=⟨_,rfl⟩;subst cZ;have aE:Hid (¬(W.heap.size=Cb\/l=some W.heap.size)):=fun h9=>by
    rcases h9 with h9|h9
    .omega
    .have:=(aC.o _ h9).1;omega
   have cM:Hid (w3.cell? (af W.heap.size 0)=some (ae x)):=(dD (a:=(af W.heap.size 0)) (T.o.block _ ap aE.o)).trans b0.o;have cN:Hid (w3.cell? (af W.heap.size 1)=some (ae y)):=(dD (a:=(af W.heap.size 1)) (T.o.block _ ap aE.o)).trans b1.o;have cO:Hid (w3.cell? (af W.heap.size 2)=some (ak d)):=(dD (a:=(af W.heap.size 2)) (T.o.block _ ap aE.o)).trans b2.o;have cP:Hid (w3.cell? (af W.heap.size 3)=some (ae nn)):=(dD (a:=(af W.heap.size 3)) (T.o.block _ ap aE.o)).trans b3.o;have aW:W.heap.size<w3.heap.size:=bX ap T.o.size;have da:c<w3.heap.size:=(ar.o.row.lt c rfl).2;have cz:Hid (∀k (s:k<i) (h1:k<ch1.length) (al:k<ch.length),ch1[k]=ch[k]):=fun k s h1 al=>by
    rcases aw.o with⟨e,-⟩|⟨e,-⟩
    .subst e;rfl
    .subst e;exact qJ al
   have cA:Hid (∀W',ax (fun k=>k=Cb\/l=some k) W W'->∀k (s:k<ch.length),bY lF 4 W' ch[k].1 ch[k].2.1):=fun W' c6 k s=>((a5.o _ (bF s)).1.kept (H.o.fq F.o c6)).NH;have cF:Hid (∀k (s:k<ch.length),k<i->(((ch.map (·.2.1)).take i).drop k).reverse.flatten=(((ch.map (·.2.1)).take i).drop (k+1)).reverse.flatten++ch[k].2.1):=fun k s dS=>by
    rw[mJ aH];simp
   have bK:Hid (∀k,(((ch.map (·.2.1)).take i).drop k).reverse.flatten.length<=10000):=fun k=>by
    generalize ch.map (·.2.1)=CB at*;have dA:(((CB.take i).drop k).reverse.flatten).length=((CB.take i).drop k).flatten.length:=by simp only[Er,Ey,List.sum_reverse]
    have a9:((CB.take i).take k).flatten++((CB.take i).drop k).flatten=(CB.take i).flatten:=by rw[<-ll,jJ]
    have cW:(CB.take i).flatten++(CB.drop i).flatten=CB.flatten:=by rw[<-ll,jJ]
    have cX:=congrArg List.length a9;have cY:=congrArg List.length cW;rw[bS]at cX cY;omega
   clear b0 b1 b2 b3 cQ cR cS cT T
   go_upto_block 2 with fail
   go_cut [7]from 49 to 67 (fun bx D=>Hid (D.ownsRow w3.heap.size 187 4 bx (eU (ch.map (·.2.1)) i).length ((eU (ch.map (·.2.1)) i).flatMap lF))/\Hid (mi D base Cb (aA c ch1.length w) (uo ch1 i 0) N wk)/\Hid (ax (fun k=>k=Cb\/l=some k) W D)/\Hid (ax (fun k=>k=c) w3 D))
   case first=>
    go_wp2_with fail
    go_loopw [8,7] (fun br bx wr=>∃(k:Nat) (bw:Value),br=.int .i64 ((k:Int)-1)/\bx=bw/\k<=i/\Hid (wr.ownsRow w3.heap.size 187 4 bw (((ch.map (·.2.1)).take i).drop k).reverse.flatten.length ((((ch.map (·.2.1)).take i).drop k).reverse.flatten.flatMap lF))/\Hid (mi wr base Cb (aA c ch1.length w) (uo ch1 i k) N wk)/\Hid (ax (fun k=>k=Cb\/l=some k) W wr)/\Hid (ax (fun k=>k=c) w3 wr)) (fun br _ _=>(intOf br+1).toNat)
    case atStart=>
     refine⟨i,_,rfl,rfl,aB _,?_,?_,cL,ax.refl _ _⟩
     .rw[oC aH];exact dx _ _ _ _
     .rw[KJ];exact ar
    case round=>
     obtain⟨k,bw,rfl,rfl,s,HO,M,ab,E⟩:=hrel;rcases qO k with UJ|UJ
     .subst UJ;have dK:¬(0:Int)<=((0:Nat):Int)-1:=aa;rw[kF]at HO
      go_wp2_with fail
      go_meet;exact⟨HO,M,ab,E⟩
     .obtain⟨m,rfl⟩:∃m,k=m+1:=⟨k-1,aa⟩;have bj:m<ch.length:=aa;have cj:m<ch1.length:=aa;obtain⟨d0,d1,d2,d3⟩:=M.o.cell;have B:i<=ch1.length:=aa;have bm:=M.o.row;rw[iM s B]at bm;have z:=bm.cellAt m aa;rw[iB,KL B aa,cB cj,cz.o m aa cj bj]at z;simp only[fT]at z;have ao:=cA.o wr ab.o m bj;have bi:=cF.o m bj aa;have X:=bK.o m;rw[bi,bS]at X;have dh:=KM (ch1:=ch1) B (show m<i by omega);have df:=X;generalize(((ch.map (·.2.1)).take i).drop (m+1)).reverse.flatten=L at*;have bJ:=ag bi;unfold dW at z;clear bi X;generalize ch[m]=hd at*;obtain⟨dw,dY,cU⟩:=hd;simp only at z ao df bJ;have C:=HO.o.lt;have c5:=ar.o.lt;have cf:=E.o.size;have dV:(m:Int)<(ch1.length:Int):=aa
      go_wp2_with (at_builtin;refine nH Gp Bv Gn w3.heap.size HO.o ao rfl _ _ rfl rfl cU rfl dJ aa cf ?_;intro bt w6 an A cb;have J:=M.o.grown A (fun e=>(by have:=(C Cb e).1;omega)) (.inr (fun e=>(by have:=(C c e.symm).1;omega)));obtain⟨f0,f1,f2,f3⟩:=J.cell;have ca:=A.block c aa (fun e=>(by have:=(C c e.symm).1;omega));have d5:=(dD (a:=(af c m)) ca).trans z;have b5:=(pq (a:=(af c m)) ca).trans (bm.frozenAt m))
      have di:=an.lt;have cI:Hid ((w6.setCell (af c m) (aL)).ownsRow w3.heap.size 187 4 bt (((ch.map (·.2.1)).take i).drop m).reverse.flatten.length ((((ch.map (·.2.1)).take i).drop m).reverse.flatten.flatMap lF)):=by
       show World.ownsRow _ _ _ _ _ _ _;rw[bJ.o,bS,gX];exact aZ an fun c3 e=>aF (fun a9=>by have:=(di c3 e).1;simp only at a9;omega)
      have a3:Hid (mi (w6.setCell (af c m) (aL)) base Cb (aA c ch1.length w) (uo ch1 i m) N wk):=by
       have:=J.LX (iM s B).symm m fK;rw[dh]at this;exact this
      have bf:l=some c\/W.heap.size<=c:=by
       rcases a2.o with h9|⟨b,h9,c4⟩
       .exact .inl h9.symm
       .simp only[Value.ownBlock,jq]at h9;exact .inr aa
      have a4:Hid (ax (fun k=>k=Cb\/l=some k) W (w6.setCell (af c m) (aL))):=
       (ab.o.grown A (fun b r=>.inr (by have:=(C b r).1;omega))).set _ (by rcases bf with h9|h9;exact .inl (.inr h9);exact .inr h9)
      have cD:Hid (ax (fun k=>k=c) w3 (w6.setCell (af c m) (aL))):=(E.o.grown A (fun b r=>.inr (C b r).1)).set _ (.inl rfl);go_roundw
      case rel=>exact⟨m,bt,by go_num,rfl,aa,cI,a3,a4,cD⟩
      case measure=>simp[intOf]
   case rest=>
    obtain⟨HO,M,ab,E⟩:=hcut;obtain⟨w4,c0⟩:∃w4:World,w4=wc:=⟨_,rfl⟩;subst c0;have cf:=E.o.size;have B:i<=ch1.length:=aa;have I:W.heap.size≠c:=fun e=>cC.o e.symm;have bT:w4.cell? (af W.heap.size 0)=some (ae x):=(dD (a:=(af W.heap.size 0)) (E.o.block _ aW I)).trans cM.o;have bU:w4.cell? (af W.heap.size 1)=some (ae y):=(dD (a:=(af W.heap.size 1)) (E.o.block _ aW I)).trans cN.o;have bV:w4.cell? (af W.heap.size 2)=some (ak d):=(dD (a:=(af W.heap.size 2)) (E.o.block _ aW I)).trans cO.o;have bW:w4.cell? (af W.heap.size 3)=some (ae nn):=(dD (a:=(af W.heap.size 3)) (E.o.block _ aW I)).trans cP.o;have X:=bK.o 0;rw[kF]at X;change(eU (ch.map (·.2.1)) i).length<=10000 at X;have bO:=(HO.o.alloc (.cells #[ae x,ae y,ak d,ae nn] 187)).bu 1;have bH:=(M.o.grown (qM w4 (.cells #[ae x,ae y,ak d,ae nn] 187) none) ay (.inr (by simp[Value.ownBlock]))).drew;generalize bb:eU (ch.map (·.2.1)) i=f at*;obtain⟨dq,w6,a7,bk,aQ,aO⟩:=jy (ty:=213) (t:=213) (P:=prog) Gp w3.heap.size bO (af w4.heap.size 0) 1 1 [.int .i64 x,.int .i64 y,.int .u32 d,.int .i64 nn] rfl (by
     intro j u hu;have c7:((af w4.heap.size 0):Addr).add j=(af w4.heap.size j):=by unfold Addr.add;split<;>simp_all
     rw[c7];have h9:(w4.alloc (.cells #[ae x,ae y,ak d,ae nn] 187)).cell? (af w4.heap.size j)=some u:=by
      rw[eF _ _ _ _ (by rfl)];simpa using hu
     exact h9) (by simp[Value.oneCell']) dJ aa aH
    have C:=bO.lt;have c5:=ar.o.lt;have J:=bH.grown aQ (fun e=>(by have:=(C Cb e).1;omega)) (.inr (fun e=>(by have:=(C c e.symm).1;omega)));have bl:w6.ownsRow w3.heap.size 187 4 dq (f.length+1) ((f++[((x,y,d),nn)]).flatMap lF):=by
     rw[gX];exact bk
    have cn:=bl.lt;obtain⟨q,n,rfl,-,c8,b6⟩:=L6.aJ bl;have aT:(f++[((x,y,d),nn)]).length=f.length+1:=ay;rw[aT]at a7 bl c8 cn;have cy:Hid (∀a,q=some a->W.heap.size<=a.block):=fun a be=>by have:=(cn a.block (by rw[be];rfl)).1;omega
    obtain⟨f0,f1,f2,f3⟩:=J.cell;have aU:=J.row;rw[iM (bD _) B]at aU;have cq:=aU.cellAt i aa;have b5:=aU.frozenAt i;have dk:i<((uo ch1 i 0).map dW).length:=by rw[bR,iM (bD _) B];omega
    rw[cB dk]at cq;have bd:w4.cell? (af Cb 1)=some (aA c ch1.length w)/\w4.cell? (af W.heap.size 0)=some (ae x)/\w4.cell? (af W.heap.size 1)=some (ae y)/\w4.cell? (af W.heap.size 2)=some (ak d)/\w4.cell? (af W.heap.size 3)=some (ae nn):=⟨M.o.cell.2.1,bT,bU,bV,bW⟩;have b7:w4.drew.cell? (af Cb 1)=some (aA c ch1.length w)/\w4.drew.cell? (af W.heap.size 0)=some (ae x)/\w4.drew.cell? (af W.heap.size 1)=some (ae y)/\w4.drew.cell? (af W.heap.size 2)=some (ak d)/\w4.drew.cell? (af W.heap.size 3)=some (ae nn):=bd;have aR:=(aI w4.heap.size w4).alloc (aB _) (.cells #[ae x,ae y,ak d,ae nn] 187);have aM:W.heap.size<w4.heap.size:=aa;have U:(w4.alloc (.cells #[ae x,ae y,ak d,ae nn] 187)).drew.cell? (af Cb 1)=some (aA c ch1.length w)/\(w4.alloc (.cells #[ae x,ae y,ak d,ae nn] 187)).drew.cell? (af W.heap.size 0)=some (ae x)/\(w4.alloc (.cells #[ae x,ae y,ak d,ae nn] 187)).drew.cell? (af W.heap.size 1)=some (ae y)/\(w4.alloc (.cells #[ae x,ae y,ak d,ae nn] 187)).drew.cell? (af W.heap.size 2)=some (ak d)/\(w4.alloc (.cells #[ae x,ae y,ak d,ae nn] 187)).drew.cell? (af W.heap.size 3)=some (ae nn):=
     ⟨bH.cell.2.1,(aR.cell (p:=(af W.heap.size 0)) aM).trans bT,(aR.cell (p:=(af W.heap.size 1)) aM).trans bU,(aR.cell (p:=(af W.heap.size 2)) aM).trans bV,(aR.cell (p:=(af W.heap.size 3)) aM).trans bW⟩
    have aG:=aQ.block W.heap.size aH (fun e=>by have:=(C _ e.symm).1;omega);have V:w6.cell? (af Cb 1)=some (aA c ch1.length w)/\w6.cell? (af W.heap.size 0)=some (ae x)/\w6.cell? (af W.heap.size 1)=some (ae y)/\w6.cell? (af W.heap.size 2)=some (ak d)/\w6.cell? (af W.heap.size 3)=some (ae nn):=
     ⟨f1,(dD (a:=(af W.heap.size 0)) aG).trans U.2.1,(dD (a:=(af W.heap.size 1)) aG).trans U.2.2.1,(dD (a:=(af W.heap.size 2)) aG).trans U.2.2.2.1,(dD (a:=(af W.heap.size 3)) aG).trans U.2.2.2.2⟩
    have R:mi (w6.setCell (af c i) (.slice q (f.length+1) n)) base Cb (aA c ch1.length w) ((uo ch1 i 0).set i (q,f++[((x,y,d),nn)],n)) N wk:=by
     have:=J.LX (iM (bD _) B).symm i (q,f++[((x,y,d),nn)],n);unfold dW at this;rw[aT]at this;exact this
    have b8:(w6.setCell (af c i) (.slice q (f.length+1) n)).cell? (af Cb 1)=some (aA c ch1.length w)/\(w6.setCell (af c i) (.slice q (f.length+1) n)).cell? (af W.heap.size 0)=some (ae x)/\(w6.setCell (af c i) (.slice q (f.length+1) n)).cell? (af W.heap.size 1)=some (ae y)/\(w6.setCell (af c i) (.slice q (f.length+1) n)).cell? (af W.heap.size 2)=some (ak d)/\(w6.setCell (af c i) (.slice q (f.length+1) n)).cell? (af W.heap.size 3)=some (ae nn):=
     ⟨R.cell.2.1,(dD (a:=(af W.heap.size 0)) (aF (fun e=>I e.symm))).trans V.2.1,(dD (a:=(af W.heap.size 1)) (aF (fun e=>I e.symm))).trans V.2.2.1,(dD (a:=(af W.heap.size 2)) (aF (fun e=>I e.symm))).trans V.2.2.2.1,(dD (a:=(af W.heap.size 3)) (aF (fun e=>I e.symm))).trans V.2.2.2.2⟩
    have dQ:(i:Int)<(ch1.length:Int):=aa;generalize((uo ch1 i 0).map dW)[i]=d6 at*;go_wp2
    go_hide hQ
    go_region_held3 (fun w'=>w'.cell? (af Cb 1)=some (aA c ch1.length w)/\w'.cell? (af W.heap.size 0)=some (ae x)/\w'.cell? (af W.heap.size 1)=some (ae y)/\w'.cell? (af W.heap.size 2)=some (ak d)/\w'.cell? (af W.heap.size 3)=some (ae nn))
     (first|(with_reducible exact bd)|(with_reducible exact b7)|(with_reducible exact U)|(with_reducible exact V)|(with_reducible exact b8)|go_keep)
     ((refine gG rfl (.tmp 73) (.tmp 75) rfl a7 (by simp[Act.eval]) (by simp[Act.eval]) ?_;try simp only[Act.put,zq,oF,nU]))
    all_goals subst hQ
    clear b8;generalize co:w6.setCell (af c i) (.slice q (f.length+1) n)=bz at R |-;have Y:=R.Bu (N+1);obtain⟨dl,dm,dn,dp⟩:=R.cell;have c1:=R.frozen 2;obtain⟨t0,t1,t2,t3⟩:=Y.cell;have c2:=Y.frozen 3;have cc:((uo ch1 i 0).set i (q,f++[((x,y,d),nn)],n)).length=ch1.length:=by rw[kM,iM (bD _) B]
    have bn:=Y.row;rw[cc]at bn;have bA:=bn.cellAt i aa;have bg:(((uo ch1 i 0).set i (q,f++[((x,y,d),nn)],n)).map dW)[i]? =some (.slice q (f.length+1) n):=by
     rw[iB,uq (by rw[iM (bD _) B];omega)];simp[dW]
    rw[bg]at bA;have K:=(Y.QJ (wrap64 (wk+((f.length:Int)+1)))).drew;have au:=ag K;clear K;have dE:(-9223372036854775808:Int)<=N+1/\N+1<=9223372036854775807:=aa;have a6:=ag co;clear co;clear f0 f1 f2 f3 cq b5 bd b7 U V a7;have du:=ag bA;have cE:=ag bg;have cJ:=ag b6;have bf:l=some c\/W.heap.size<=c:=by
     rcases a2.o with h9|⟨b,h9,c4⟩
     .exact .inl h9.symm
     .simp only[Value.ownBlock,jq]at h9;exact .inr aa
    have a4:Hid (ax (fun k=>k=Cb\/l=some k) W w6):=((ab.o.grown (qM w4 (.cells #[ae x,ae y,ak d,ae nn] 187) none) ay).drew).grown aQ (fun b r=>.inr (by have:=(C b r).1;omega));have a3:=ag J;clear bg;go_wp2;go_region;have cG:Hid (ax (fun k=>k=Cb\/some c=some k) w6 ((bz.setCell (af Cb 2) (.int .i64 (N+1))).setCell (af Cb 3) (.int .i64 (wrap64 (wk+((f.length:Int)+1))))).drew):=by
     rw[<-a6.o];exact((((ax.refl _ w6).set _ (.inl (.inr rfl))).set _ (.inl (.inl rfl))).set _ (.inl (.inl rfl))).drew
    have bL:Hid (ax (fun k=>k=Cb\/l=some k) W ((bz.setCell (af Cb 2) (.int .i64 (N+1))).setCell (af Cb 3) (.int .i64 (wrap64 (wk+((f.length:Int)+1))))).drew):=by
     rw[<-a6.o];exact(((a4.o.set _ (by rcases bf with h9|h9;exact .inl (.inr h9);exact .inr h9)).set _ (.inl (.inl rfl))).set _ (.inl (.inl rfl))).drew
    have K:=au.o;clear bA au dl dm dn dp t0 t1 t2 t3 c1 c2 R Y a6;generalize dj:((bz.setCell (af Cb 2) (.int .i64 (N+1))).setCell (af Cb 3) (.int .i64 (wrap64 (wk+((f.length:Int)+1))))).drew=cr at*;obtain⟨u0,u1,u2,u3⟩:=K.cell;have bo:=K.row;rw[cc]at bo;have dr:=bo.cellAt i aa;rw[cE.o]at dr;have bc:=cJ.o.kept (a3.o.fq rfl cG.o);have cp:=bL.o.size;have cx:=Bw q (f++[((x,y,d),nn)]) (f.length+1) n cr aT bc.NH aa;have au:=ag K;have cK:=ag bc;clear dj aU bn bo K bc b6
    go_wp2_with fail
    refine cx.mono ?_;rintro e a0 ⟨bv,rfl,cl,aN⟩;go_wp2;go_ret2;have bP:ax (fun k=>k=Cb\/l=some k) W a0:=bL.o.below aN;have ce:=H.o.fq F.o bP;refine⟨i,bv,aA c ch1.length w,(uo ch1 i 0).set i (q,f++[((x,y,d),nn)],n),_,rfl,hi,ac.o,S.o,au.o.below aN,?_,?_,?_,?_,?_,?_,?_⟩
    .have ck:∀b,b<cr.heap.size->bv.ownBlock≠some b:=fun b r e=>by have:=(cl.lt b e).1;omega
     have b9:∀a8:World,(∀(b:Nat) O fr,a0.heap[b]? =some (Obj.cells O 187 fr)->bv.ownBlock≠some b->a8.heap[b]? =a0.heap[b]?)->qW a8 ((uo ch1 i 0).set i (q,f++[((x,y,d),nn)],n)):=by
      intro a8 al h bh;rcases Ad aw.o bh with rfl|rfl|h1
      .exact⟨cK.o.kept fun b O fr r=>(al b O fr ((aP aN r).trans r) (ck b (aY.1 r).1)).trans (aP aN r),by show(f++[((x,y,d),nn)]).length<=n;omega⟩
      .exact⟨.inl rfl,aB _⟩
      .exact⟨(a5.o h h1).1.kept fun b O fr r=>(al b O fr ((ce b O fr r).trans r) (ck b (bX (aY.1 r).1 cp))).trans (ce b O fr r),(a5.o h h1).2⟩
     exact⟨b9 a0 (fun _ _ _ _ _=>rfl),b9⟩
    .exact Gj aw.o _ ((x,y,d),nn) (by show f++[((x,y,d),nn)]=_;rw[bb])
    .rw[bb,aT];exact bI cl cp
    .rcases a2.o with h9|h9
     .exact .inl (h9.trans F.o)
     .exact .inr h9
    .exact bP.mono fun k s=>s.imp id fun h9=>F.o▸h9
    .intro h bh;rcases Ad aw.o bh with rfl|rfl|h1
     .exact .inr cy.o
     .exact .inr fun a be=>by cases be
     .exact .inl h1
    .rw[bb]
end
section
open Go.RowKit Go.Maps
section
variable {W:World} {base Cb:Nat} {cv:Value} {ch:List Ae} {N wk:Int}
theorem yC (h:mi W base Cb cv ch N wk) (f:ch.length<=1000000):aK 141 #[aj Cb] W (fw W (ae ch.length)):=by
 have b:=ag (tK h);have H:=ag h;obtain⟨av,d,rfl,-,-,-⟩:=Rd.aJ (enc:=dW) H.o.row;go_enter func141,ntmps141
 go_wp2_with fail
 refine b.o.mono ?_;rintro e w2 ⟨rfl,a⟩;obtain⟨-,c,-⟩:=(H.o.below a).cell;go_wp2;go_ret;exact⟨rfl,a⟩
theorem NZ (h:mi W base Cb cv ch N wk):aK 139 #[aj Cb] W (fw W (ae N)):=by
 have b:=ag (tK h);have H:=ag h;go_enter func139,ntmps139
 go_wp2_with fail
 refine b.o.mono ?_;rintro e w2 ⟨rfl,a⟩;obtain⟨-,-,c,-⟩:=(H.o.below a).cell;go_wp2;go_ret;exact⟨rfl,a⟩
theorem yD (h:mi W base Cb cv ch N wk) (t:qW W ch) (B:ch.length<=1000000) (i:Nat) (hi:i<ch.length) (j:ch[i].2.1.length<=1000000):aK 142 #[aj Cb,ae i] W fun e w'=>
  ∃v,e=.returned v/\w'.ownsRow W.heap.size 187 4 v ch[i].2.1.length (ch[i].2.1.flatMap lF)/\Below W.heap.size W w':=by
 have m:=ag (tK h);have H:=ag h;obtain⟨av,w,rfl,-,-,-⟩:=Rd.aJ (enc:=dW) H.o.row;obtain⟨g,x,c,y,z,-,-⟩:=aV H.o.row aa;injection c with c _ q;subst c q;have f:=ag (fun W' (d:Below W.heap.size W W')=>(t _ (bF hi)).1.NH.below d);have b:=ag (fun W' (d:Below W.heap.size W W')=>(show W'.cell? (af g i)=some (dW ch[i]) by
  have:=((H.o.below d).row).cellAt i aa;rw[iB,cB hi]at this;exact this))
 unfold dW at b;have A:(i:Int)<(ch.length:Int):=aa;generalize ch[i]=hd at*;have⟨n,k,p⟩:=hd;simp only at f b j |-;have d1:decide ((i:Int)<0)=false:=ay;go_enter func142,ntmps142
 go_wp2_with fail
 refine m.o.mono ?_;rintro e w2 ⟨rfl,a⟩;obtain⟨-,u,-⟩:=(H.o.below a).cell;have D:=b.o w2 a;have l:=ag (Bw n k k.length p w2 rfl (f.o w2 a) j)
 go_wp2_with fail
 refine l.o.mono ?_;rintro e w3 ⟨C,rfl,s,r⟩;have HO:=ag (bI s a.size);go_wp2;go_ret;exact⟨_,rfl,HO.o,a.trans (r.mono a.size)⟩
end
end
end Go.Proofs.YtkjdbndekceffaaGreat
