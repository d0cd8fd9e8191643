/- A part of the proof; its text was made small by a program (no remarks, short names). -/
import Derived.Test.YtkjdbndekceffaaGreatV00
import Derived.Test.YtkjdbndekceffaaGreatV03
set_option linter.unusedSimpArgs false
set_option linter.unusedVariables false
set_option maxRecDepth 100000
set_option maxHeartbeats 16000000
namespace Go.Proofs.YtkjdbndekceffaaGreat
open Go.RowKit Go.Maps
abbrev gJ (α:Type):=Option Addr×List α×Nat
def dS {α:Type} (h:gJ α):Value:=.slice h.1 h.2.1.length h.2.2
theorem bI {W W':World} (h:Below W.heap.size W W') {b:Nat} {o:Obj} (hb:W.heap[b]? =some o):W'.heap[b]? =W.heap[b]? :=h.block b (bn.1 hb).1
section
variable {α:Type} {enc:α->List Value} {sz:Nat} {te ts tc:TypeId}
def TJ (enc:α->List Value) (sz:Nat) (te:TypeId) (W:World) (a:Option Addr) (l:List α):Prop:=
 l=[]\/∃b off cur fr,a=some (ah b off)/\W.heap[b]? =some (Obj.cells cur te fr)/\∀i (h:i<l.length),∀j,j<sz->cur[off+i*sz+j]? =(enc l[i])[j]?
theorem TJ.VX {W:World} {a:Option Addr} {l:List α} (h:TJ enc sz te W a l):dU enc sz W a l:=by
 rcases h with h|⟨b,off,cur,fr,rfl,hb,hc⟩
 .exact .inl h
 .refine .inr ⟨b,off,rfl,(bn.1 hb).1,fun i hi j hj=>?_⟩;have:=hc i hi j hj;simp only[World.cell?,hb];simpa using this
theorem TJ.aL (hl:∀p,(enc p).length=sz) (h0:0<sz) {W:World} {base:Nat} {v:Value} {n:Nat} {l:List α} (h:W.ownsRow base te sz v n (l.flatMap enc)):∃a c,v=.slice a l.length c/\n=l.length/\l.length<=c/\TJ enc sz te W a l:=by
 obtain⟨hn,h⟩:=h;rw[iw hl]at hn;obtain rfl:n=l.length:=Nat.eq_of_mul_eq_mul_right h0 hn.symm;rcases h with⟨rfl,hz⟩|⟨g,cap,cur,rfl,hg,hh,hc,hm,hs,ht⟩
 .obtain rfl:l=[]:=jw hz;exact⟨none,0,rfl,rfl,aG _,.inl rfl⟩
 .refine⟨_,cap,rfl,rfl,hc,.inr ⟨g,0,cur,_,rfl,hh,fun i hi j hj=>?_⟩⟩;have h1:=flat_get hl l i hi j hj;rw[<-ht,wP,aR (by have:=qM sz (Nat.succ_le_of_lt hi);rw[Nat.succ_mul]at this;omega)]at h1;simpa using h1
theorem TJ.kept {W W':World} {a:Option Addr} {l:List α} (h:TJ enc sz te W a l) (hk:∀(b:Nat) cur fr,W.heap[b]? =some (Obj.cells cur te fr)->W'.heap[b]? =W.heap[b]?):TJ enc sz te W' a l:=by
 rcases h with h|⟨b,off,cur,fr,rfl,hb,hc⟩
 .exact .inl h
 .exact .inr ⟨b,off,cur,fr,rfl,(hk b cur fr hb).trans hb,hc⟩
def qw (enc:α->List Value) (sz:Nat) (te:TypeId) (W:World) (hs:List (gJ α)):Prop:=∀h∈hs,TJ enc sz te W h.1 h.2.1/\h.2.1.length<=h.2.2
theorem qw.kept {W W':World} {hs:List (gJ α)} (h:qw enc sz te W hs) (hk:∀(b:Nat) cur fr,W.heap[b]? =some (Obj.cells cur te fr)->W'.heap[b]? =W.heap[b]?):qw enc sz te W' hs:=fun x hx=>⟨(h x hx).1.kept hk,(h x hx).2⟩
abbrev fO {α:Type}:gJ α:=(none,[],0)
def Nw {α:Type} (n:Nat) (ch iP:List (gJ α)):Prop:=∀h∈iP,h∈ch\/∀a,h.1=some a->n<=a.block
theorem Nw.refl {n:Nat} {ch:List (gJ α)}:Nw n ch ch:=fun h hh=>.inl hh
theorem Nw.agx {n k:Nat} {ch:List (gJ α)}:Nw n ch (List.replicate k fO):=fun h hh=>.inr fun a ha=>by rw[(DC.1 hh).2]at ha;cases ha
theorem Nw.trans {n m:Nat} {c1 c2 c3:List (gJ α)} (h1:Nw n c1 c2) (h2:Nw m c2 c3) (hm:n<=m):Nw n c1 c3:=fun h hh=>by
 rcases h2 h hh with g|g
 .exact h1 h g
 .exact .inr fun a ha=>bO hm (g a ha)
theorem Nw.nil {n m:Nat} {c1 c2:List (gJ α)} (h:Nw m [] c2) (hm:n<=m):Nw n c1 c2:=fun x hx=>by
 rcases h x hx with hy|g
 .cases hy
 .exact .inr fun a ha=>bO hm (g a ha)
theorem Nw.set {n:Nat} {c1 c2:List (gJ α)} (h1:Nw n c1 c2) {k:Nat} {hd:gJ α} (h2:∀a,hd.1=some a->n<=a.block):Nw n c1 (c2.set k hd):=fun h hh=>by
 rcases Iu hh with h9|rfl
 .exact h1 h h9
 .exact .inr h2
theorem Nw.snoc {n:Nat} {c1 c2:List (gJ α)} (h1:Nw n c1 c2) {hd:gJ α} (h2:∀a,hd.1=some a->n<=a.block):Nw n c1 (c2++[hd]):=fun h hh=>by
 rcases df.1 hh with h9|h9
 .exact h1 h h9
 .obtain rfl:h=hd:=by simpa using h9
  exact .inr h2
structure iH (tc ts te:TypeId) (W:World) (base Cb:Nat) (cv:Value) (ch:List (gJ α)) (N wk:Int):Prop where
 hb:base<=Cb
 ds:ts≠tc/\tc≠te/\ts≠te
 blk:W.heap[Cb]? =some (Obj.cells #[.bool true,cv,ag N,ag wk] tc (0,0))
 row:W.ownsRow base ts 1 cv ch.length (ch.map dS)
theorem iH.cell {W:World} {base Cb:Nat} {cv:Value} {ch:List (gJ α)} {N wk:Int} (h:iH tc ts te W base Cb cv ch N wk):
  W.cell? (ah Cb 0)=some (.bool true)/\W.cell? (ah Cb 1)=some cv/\W.cell? (ah Cb 2)=some (ag N)/\W.cell? (ah Cb 3)=some (ag wk):=by
 have:=h.blk;refine⟨?_,?_,?_,?_⟩<;>simp[World.cell?,this]
theorem iH.frozen {W:World} {base Cb:Nat} {cv:Value} {ch:List (gJ α)} {N wk:Int} (h:iH tc ts te W base Cb cv ch N wk) (j:Nat):W.frozen? (ah Cb j)=false:=by
 have:=h.blk;simp[World.frozen?,this]
theorem iH.lt {W:World} {base Cb:Nat} {cv:Value} {ch:List (gJ α)} {N wk:Int} (h:iH tc ts te W base Cb cv ch N wk):Cb<W.heap.size:=(bn.1 h.blk).1
theorem iH.ne {W:World} {base Cb:Nat} {cv:Value} {ch:List (gJ α)} {N wk:Int} (h:iH tc ts te W base Cb cv ch N wk):cv.ownBlock≠some Cb:=by
 intro e;rcases h.row.2 with⟨rfl,_⟩|⟨g,cap,cur,rfl,_,hh,_⟩
 .cases e
 .simp only[Value.ownBlock,jB]at e;subst e;rw[h.blk]at hh;injection hh with hh;injection hh with _ hh _;exact h.ds.1 hh.symm
theorem iH.grown {W W':World} {base Cb:Nat} {cv:Value} {ch:List (gJ α)} {N wk:Int} {r:Option Nat} (h:iH tc ts te W base Cb cv ch N wk) (hg:W.grownBy W' r) (h1:r≠some Cb) (h2:cv.ownBlock=none\/cv.ownBlock≠r):iH tc ts te W' base Cb cv ch N wk:=
 ⟨h.hb,h.ds,(hg.block Cb h.lt (fun e=>h1 e.symm)).trans h.blk,h.row.kept hg h2⟩
theorem iH.below {W W':World} {base Cb:Nat} {cv:Value} {ch:List (gJ α)} {N wk:Int} (h:iH tc ts te W base Cb cv ch N wk) (hb:Below W.heap.size W W'):iH tc ts te W' base Cb cv ch N wk:=
 h.grown (bV hb) (by simp) (by cases hv:cv.ownBlock<;>simp)
theorem iH.drew {W:World} {base Cb:Nat} {cv:Value} {ch:List (gJ α)} {N wk:Int} (h:iH tc ts te W base Cb cv ch N wk):iH tc ts te W.drew base Cb cv ch N wk:=⟨h.hb,h.ds,h.blk,h.row⟩
theorem iH.TK {W:World} {base Cb g cp n:Nat} {ch:List (gJ α)} {N wk:Int} (h:iH tc ts te W base Cb (aD g n cp) ch N wk) (hn:n=ch.length) (k:Nat) (x:gJ α):iH tc ts te (W.setCell (ah g k) (dS x)) base Cb (aD g n cp) (ch.set k x) N wk:=by
 subst hn;have h1:=h.row.stored k (dS x);have hne:=h.ne;refine⟨h.hb,h.ds,(aH (fun e=>hne (by simp only[Value.ownBlock];exact congrArg some e))).trans h.blk,?_⟩;rw[lJ,qh];exact h1.1
theorem iH.Er {W:World} {base Cb:Nat} {cv:Value} {ch:List (gJ α)} {N wk:Int} (h:iH tc ts te W base Cb cv ch N wk) (N':Int):iH tc ts te (W.setCell (ah Cb 2) (.int .i64 N')) base Cb cv ch N' wk:=by
 refine⟨h.hb,h.ds,?_,bB h.row fun gb e=>aH fun e2=>h.ne (by rw[e,<-e2])⟩;rw[dH W Cb 2 _ _ _ h.blk];rfl
theorem iH.ach {W:World} {base Cb:Nat} {cv:Value} {ch:List (gJ α)} {N wk:Int} (h:iH tc ts te W base Cb cv ch N wk) (uk:Int):iH tc ts te (W.setCell (ah Cb 3) (.int .i64 uk)) base Cb cv ch N uk:=by
 refine⟨h.hb,h.ds,?_,bB h.row fun gb e=>aH fun e2=>h.ne (by rw[e,<-e2])⟩;rw[dH W Cb 3 _ _ _ h.blk];rfl
theorem iH.TL {W:World} {base Cb:Nat} {cv kW:Value} {ch iP:List (gJ α)} {N wk:Int} (h:W.heap[Cb]? =some (Obj.cells #[.bool true,cv,ag N,ag wk] tc (0,0))) (hb:base<=Cb) (ja:ts≠tc/\tc≠te/\ts≠te) (hr:W.ownsRow base ts 1 kW iP.length (iP.map dS)) (hne:kW.ownBlock≠some Cb):iH tc ts te (W.setCell (ah Cb 1) kW) base Cb kW iP N wk:=by
 refine⟨hb,ja,?_,bB hr fun gb e=>aH fun e2=>hne (by rw[e,<-e2])⟩;rw[dH W Cb 1 _ _ _ h];rfl
theorem iH.fq {W W':World} {base Cb:Nat} {cv:Value} {ch:List (gJ α)} {N wk:Int} (h:iH tc ts te W base Cb cv ch N wk) {SB:Option Nat} (hS:SB=cv.ownBlock) (K:aC (fun k=>k=Cb\/SB=some k) W W'):
  ∀(b:Nat) cur fr,W.heap[b]? =some (Obj.cells cur te fr)->W'.heap[b]? =W.heap[b]? :=by
 intro b cur fr hb;refine K.block b (bn.1 hb).1 ?_;rintro(rfl|e)
 .rw[h.blk]at hb;injection hb with hb;injection hb with _ hb _;exact h.ds.2.1 hb
 .rw[hS]at e;rcases h.row.2 with⟨rfl,_⟩|⟨g,cap,cur',rfl,_,hh,_⟩
  .cases e
  .simp only[Value.ownBlock,jB]at e;subst e;rw[hh]at hb;injection hb with hb;injection hb with _ hb _;exact h.ds.2.2 hb
def eu (CB:List (List α)) (i:Nat):List α:=(CB.take i).reverse.flatten
def kX (CB:List (List α)) (i:Nat) (x:α):List (List α):=List.replicate i []++(eu CB i++[x])::CB.drop (i+1)
def ala (tc ts te:TypeId) (enc:α->List Value) (sz:Nat) (W:World) (base Cb:Nat) (cv:Value) (ch:List (gJ α)) (x:α) (N wk:Int) (e:Ending) (w':World):Prop:=
 ∃(i:Nat) (v kW:Value) (iP:List (gJ α)) (uk:Int),e=.returned (.tuple #[ag i,v])/\i<=ch.length/\(∀j (hj:j<ch.length),j<i->ch[j].2.1≠[])/\(∀hi:i<ch.length,ch[i].2.1=[])/\
  iH tc ts te w' base Cb kW iP (N+1) uk/\(qw enc sz te w' iP/\∀W2:World,(∀(b:Nat) cur fr,w'.heap[b]? =some (Obj.cells cur te fr)->v.ownBlock≠some b->W2.heap[b]? =w'.heap[b]?)->qw enc sz te W2 iP)/\iP.map (·.2.1)=kX (ch.map (·.2.1)) i x/\
  w'.ownsRow W.heap.size te sz v (eu (ch.map (·.2.1)) i++[x]).length ((eu (ch.map (·.2.1)) i++[x]).flatMap enc)/\
  (kW.ownBlock=cv.ownBlock\/∃b,kW.ownBlock=some b/\W.heap.size<=b)/\aC (fun k=>k=Cb\/cv.ownBlock=some k) W w'/\Nw W.heap.size ch iP/\uk=wrap64 (wk+((eu (ch.map (·.2.1)) i).length+1:Int))
def vO (ch1:List (gJ α)) (i k:Nat):List (gJ α):=ch1.take k++(List.replicate (i-k) fO++ch1.drop i)
theorem iW {ch1:List (gJ α)} {i k:Nat} (hk:k<=i) (hi:i<=ch1.length):(vO ch1 i k).length=ch1.length:=by simp[vO];omega
theorem Ro {ch1:List (gJ α)} {i:Nat}:vO ch1 i i=ch1:=by simp[vO]
theorem LB {ch1:List (gJ α)} {i:Nat}:vO ch1 i 0=List.replicate i fO++ch1.drop i:=by simp[vO]
theorem Rp {ch1:List (gJ α)} {i m:Nat} (hi:i<=ch1.length) (hm:m<i):(vO ch1 i (m+1))[m]? =ch1[m]? :=by
 unfold vO;rw[mP (by simp;omega),wP,aR (by omega)]
theorem Rq {ch1:List (gJ α)} {i m:Nat} (hi:i<=ch1.length) (hm:m<i):(vO ch1 i (m+1)).set m fO=vO ch1 i m:=by
 unfold vO;rw[List.set_append_left _ _ (by simp;omega)];have G7:m<ch1.length:=by omega
 have e1:(ch1.take (m+1)).set m fO=ch1.take m++[fO]:=by
  rw[fG G7,wu _ _ (by simp;omega)];have:m-(ch1.take m).length=0:=by simp;omega
  rw[this];rfl
 rw[e1,show i-m=(i-(m+1))+1 by omega,List.replicate_succ,ek];rfl
theorem LC {ch ch1:List (gJ α)} {i:Nat} (hch:ch1=ch/\i<ch.length\/ch1=ch++[fO]/\i=ch.length) (hd:gJ α) (x:α) (hx:hd.2.1=eu (ch.map (·.2.1)) i++[x]):
  ((vO ch1 i 0).set i hd).map (·.2.1)=kX (ch.map (·.2.1)) i x:=by
 have kE:i<ch1.length:=by rcases hch with⟨rfl,h⟩|⟨rfl,h⟩<;>first|omega|(simp;omega)
 have hdr:(ch1.drop (i+1)).map (·.2.1)=(ch.map (·.2.1)).drop (i+1):=by
  rcases hch with⟨rfl,h⟩|⟨rfl,h⟩
  .rw[Am]
  .rw[rX (by simp;omega),rX (by simp;omega)];rfl
 rw[LB,nP kE,wu _ _ (by simp),iN,jS,qO,dh,mY,hdr,hx,IM];rfl
theorem Dc {ch ch1:List (gJ α)} {i:Nat} (hch:ch1=ch/\i<ch.length\/ch1=ch++[fO]/\i=ch.length) {hd h:gJ α} (hh:h∈(vO ch1 i 0).set i hd):h=hd\/h=fO\/h∈ch:=by
 rcases Iu hh with h1|h1
 .rw[LB,df]at h1;rcases h1 with h1|h1
  .exact .inr (.inl (DC.1 h1).2)
  .have h2:=Ox h1;rcases hch with⟨rfl,-⟩|⟨rfl,-⟩
   .exact .inr (.inr h2)
   .rcases df.1 h2 with h3|h3
    .exact .inr (.inr h3)
    .exact .inr (.inl (by simpa using h3))
 .exact .inl h1
def setC:Nat->List α->List (List α)
 |0,_=>[]
 |k+1,r=>if 2^k<=r.length then setC k (r.drop (2^k))++[r.take (2^k)]else setC k r++[[]]
theorem eD:∀(k:Nat) (r:List α),(setC k r).length=k
 |0,_=>rfl
 |k+1,r=>by
  unfold setC;split<;>simp[eD k]
theorem AO:∀(k:Nat) (r:List α) (i:Nat) (h:i<(setC k r).length),(setC k r)[i].length=0\/(setC k r)[i].length=2^i
 |0,_,i,h=>by cases h
 |k+1,r,i,h=>by
  have hl:=eD (k+1) r;unfold setC;split
  .rename_i hk;by_cases hik:i<k
   .rw[sN (by rw[eD];exact hik)];exact AO k _ i _
   .obtain rfl:i=k:=by omega
    rw[yt (by rw[eD];exact aG _)];right;simp only[eD,jS,wM,eF];omega
  .by_cases hik:i<k
   .rw[sN (by rw[eD];exact hik)];exact AO k _ i _
   .obtain rfl:i=k:=by omega
    rw[yt (by rw[eD];exact aG _)];left;simp only[eD,jS,wM,iG]
theorem lL:∀(k:Nat) (r:List α),r.length<2^k->(setC k r).flatten.Perm r
 |0,r,h=>by
  obtain rfl:r=[]:=jw (by simpa using h);exact xe _
 |k+1,r,h=>by
  unfold setC;rw[Nat.pow_succ]at h;split
  .rename_i hk;rw[lV];simp only[wT,List.flatten_nil,jD];have h1:=lL k (r.drop (2^k)) (by rw[qg];omega);have h2:(r.take (2^k)++r.drop (2^k))=r:=lg _ _;refine(List.Perm.append_right _ h1).trans (List.perm_append_comm.trans ?_);rw[h2]
  .rw[lV];simp only[wT,List.flatten_nil,jD];exact lL k r (by omega)
theorem TM (k:Nat) (r:List α) (h:2^k<=r.length) (h':k<(setC (k+1) r).length):(setC (k+1) r)[k]≠[]:=by
 have e:setC (k+1) r=setC k (r.drop (2^k))++[r.take (2^k)]:=by rw[setC,aR h]
 have h1:(setC (k+1) r)[k]? =some (r.take (2^k)):=by
  rw[e,oO (by rw[eD];exact aG _),eD,jS];rfl
 rw[dD h']at h1;injection h1 with h1;rw[h1];intro h2;have:=congrArg List.length h2;have h0:0<2^k:=xx (by decide);rw[eF,iG]at this;omega
theorem G8 (k:Nat):List.replicate (k+1) (fO:gJ α)=List.replicate k fO++[fO]:=sW
theorem G9 (W:World) (k:Nat):qw enc sz te W (List.replicate k (fO:gJ α)):=fun h hh=>by
 rw[(DC.1 hh).2];exact⟨.inl rfl,aG _⟩
theorem LD (m:Nat) (T:List (List α)) (x:List α):(List.replicate (m+1) []++T).set m x=List.replicate m []++x::T:=by
 rw[sW,ek,wu _ _ (by simp),iN,jS];rfl
theorem LF {W W':World} {ch:List (gJ α)} {m:Nat} {hd:gJ α} (h:qw enc sz te W ch) (hk:∀(b:Nat) cur fr,W.heap[b]? =some (Obj.cells cur te fr)->W'.heap[b]? =W.heap[b]?) (hd1:TJ enc sz te W hd.1 hd.2.1) (hd2:hd.2.1.length<=hd.2.2):qw enc sz te W' (ch.set m hd):=fun x hx=>by
 rcases Iu hx with h1|rfl
 .exact⟨(h x h1).1.kept hk,(h x h1).2⟩
 .exact⟨hd1.kept hk,hd2⟩
end
theorem qw.WO {α:Type} {enc:α->List Value} {sz:Nat} {te:TypeId} {W W':World} {hs:List (gJ α)} {S T:Nat->Prop} (h:qw enc sz te W hs) (hi:∀h∈hs,h.2.1≠[]->∀a,h.1=some a->S a.block) (K:aC T W W') (hd:∀k,S k->¬T k):qw enc sz te W' hs:=fun x hx=>by
 obtain⟨h1,h2⟩:=h x hx;refine⟨?_,h2⟩;by_cases e:x.2.1=[]
 .exact .inl e
 .rcases h1 with h1|⟨b,off,cur,fr,ea,hb,hc⟩
  .exact .inl h1
  .exact .inr ⟨b,off,cur,fr,ea,(K.block b (bn.1 hb).1 (hd _ (hi x hx e _ ea))).trans hb,hc⟩
end Go.Proofs.YtkjdbndekceffaaGreat
namespace Go.Proofs.YtkjdbndekceffaaGreat
open Go.RowKit Go.Sort Go.Shelf Go.Lib Go.Maps
abbrev eX:=Pt×Int
def l8 (p:eX):List Value:=[.int .i64 p.1.1,.int .i64 p.1.2.1,.int .u32 p.1.2.2,.int .i64 p.2]
abbrev alb (x y d n:Int):Value:=.agg #[ag x,ag y,aJ d,ag n]
theorem Es (p:eX):(l8 p).length=4:=rfl
theorem LG (p:eX):∀u∈l8 p,u.oneCell'=true:=by intro u hu;simp[l8]at hu;rcases hu with rfl|rfl|rfl|rfl<;>rfl
theorem LH:eQ Tryz.prog 213 187 4 32:=.mk' (z:=.agg #[ag 0,ag 0,aJ 0,ag 0]) Tryz.underlying213 (by kernel_rfl) rfl (by decide)
theorem aeQ:eQ Tryz.prog 276 213 1 24:=.mk' (z:=aN) Tryz.underlying276 (by kernel_rfl) rfl (by decide)
theorem Et (a:Option Addr) (l:List eX) (n c:Nat) (w:World) (hn:l.length=n) (h:dU l8 4 w a l) (hl:n<=1000000):
  aO 208 #[.slice a n c] w fun e w'=>∃v,e=.returned v/\w'.ownsRow w.heap.size 187 4 v n (l.flatMap l8)/\Below w.heap.size w w':=by
 subst hn;have q22:∀(w:World) (a:Option Addr) (n c n' c':Nat),(binOp .eql 213 (.slice a n c) (.slice none n' c')).run Tryz.prog w=.ok (.bool a.isNone) w:=fun w a n c n' c'=>Iy w _ _ a n c n' c' Tryz.underlying213;cases a with
 |none=>
  have e0:l=[]:=by
   rcases h with h|⟨b,off,h,_⟩
   .exact h
   .cases h
  subst e0;go_enter Tryz.func208,Tryz.ntmps208;go_wp2;go_ret;exact⟨_,rfl,dL _ _ _ _,aM _ _⟩
 |some ad=>
  have hown:=zU (e:=187) (size:=4) w #[] 0 (aG _) (bC _) rfl;have h':dU l8 4 (w.alloc (.cells #[] 187)) (some ad) l:=h.below ((aM _ _).alloc (aG _) _);clear h;go_enter Tryz.func208,Tryz.ntmps208
  go_wp2_with (at_builtin;refine jc LH Es LG w.heap.size hown h' rfl _ _ rfl rfl c rfl (by unfold maxLen;omega) (by omega) (by simp) ?_;intro v' w' hown' hg)
  go_ret;rw[lu,iV]at hown';exact⟨_,rfl,hown',eH ((aM _ _).alloc (aG _) _) hown hg (by simp) (aG _)⟩
abbrev De:=gJ eX
abbrev TN:=TJ l8 4 187
abbrev si:=qw l8 4 187
theorem TN.aL {W:World} {base:Nat} {v:Value} {n:Nat} {l:List eX} (h:W.ownsRow base 187 4 v n (l.flatMap l8)):∃a c,v=.slice a l.length c/\n=l.length/\l.length<=c/\TN W a l:=TJ.aL Es (by decide) h
abbrev nZ:=@iH eX 278 213 187
theorem ar1:213≠278/\278≠187/\213≠187:=by decide
theorem yI {W:World} {base Cb:Nat} {cv:Value} {ch:List De} {N wk:Int} (h:nZ W base Cb cv ch N wk):aO 207 #[ay Cb] W (iX W (.bool false)):=by
 obtain⟨c0,-⟩:=h.cell;clear h;go_enter Tryz.func207,Tryz.ntmps207;go_wp2;go_ret;exact⟨rfl,aM _ _⟩
end Go.Proofs.YtkjdbndekceffaaGreat
namespace Go.Proofs.YtkjdbndekceffaaGreat
open Go.RowKit Go.Maps
attribute [local irreducible] wpQuiet
abbrev ar2:=@ala eX 278 213 187 l8 4
theorem agy {W:World} {base Cb:Nat} {cv:Value} {ch:List De} {N wk:Int} (h:nZ W base Cb cv ch N wk) (qJ:base<=W.heap.size) (o6:si W ch) (x y d nn:Int) (hN:0<=N/\N<=100000) (hlen:ch.length<=1000) (hsz:(ch.map (·.2.1)).flatten.length<=10000):
  aO 135 #[ay Cb,alb x y d nn] W (ar2 W base Cb cv ch ((x,y,d),nn) N wk):=by
 have B1:Below W.heap.size W (W.alloc (.cells #[ag x,ag y,aJ d,ag nn] 187)):=(aM _ _).alloc (aG _) _;have x0:(W.alloc (.cells #[ag x,ag y,aJ d,ag nn] 187)).cell? (ah W.heap.size 0)=some (ag x):=by rw[fw _ _ _ _ rfl];rfl
 have x1:(W.alloc (.cells #[ag x,ag y,aJ d,ag nn] 187)).cell? (ah W.heap.size 1)=some (ag y):=by rw[fw _ _ _ _ rfl];rfl
 have x2:(W.alloc (.cells #[ag x,ag y,aJ d,ag nn] 187)).cell? (ah W.heap.size 2)=some (aJ d):=by rw[fw _ _ _ _ rfl];rfl
 have x3:(W.alloc (.cells #[ag x,ag y,aJ d,ag nn] 187)).cell? (ah W.heap.size 3)=some (ag nn):=by rw[fw _ _ _ _ rfl];rfl
 have CN:=ae (yI (h.below B1));have H:=ae h;have HR:=ae o6;have fK:=ae B1;clear h o6 B1;go_enter Tryz.func135,Tryz.ntmps135
 go_wp2_with fail
 refine CN.out.mono ?_;rintro e w2 ⟨rfl,hb2⟩;have B2:=ae (fK.out.trans (hb2.mono (by simp)));have y0:=(hb2.cell (p:=(ah W.heap.size 0)) (by simp)).trans x0;have y1:=(hb2.cell (p:=(ah W.heap.size 1)) (by simp)).trans x1;have y2:=(hb2.cell (p:=(ah W.heap.size 2)) (by simp)).trans x2;have y3:=(hb2.cell (p:=(ah W.heap.size 3)) (by simp)).trans x3;have hs2:W.heap.size<w2.heap.size:=by have:=hb2.size;simp at this;omega
 have C2:=ae (H.out.below B2.out);have Y0:=ae y0;have Y1:=ae y1;have Y2:=ae y2;have Y3:=ae y3;clear x0 x1 x2 x3 y0 y1 y2 y3 CN fK hb2;obtain⟨c0,c1,c2,c3⟩:=C2.out.cell
 go_upto_block 0 with fail
 go_cut [6]from 11 to 30 (fun sv wx=>∃i:Nat,sv=.int .i64 i/\Hid (wx=w2)/\i<=ch.length/\Hid (∀j (hj:j<ch.length),j<i->ch[j].2.1≠[])/\Hid (∀hi:i<ch.length,ch[i].2.1=[]))
 case first=>
  go_wp2_with fail
  go_loopw [6] (fun iv wr=>∃i:Nat,iv=.int .i64 i/\Hid (wr=w2)/\i<=ch.length/\Hid (∀j (hj:j<ch.length),j<i->ch[j].2.1≠[])) (fun iv _=>ch.length-(intOf iv).toNat)
  case atStart=>exact⟨0,rfl,(by first|rfl|trivial),bC _,fun j _ h=>absurd h (ll _)⟩
  case round=>
   obtain⟨i,rfl,hwr,hi,vP⟩:=hrel;obtain rfl:wr=w2:=hwr.out;clear hwr;obtain⟨av,cp,rfl,-,-,jE⟩:=Rd.aL (enc:=dS) C2.out.row;by_cases hlt:i<ch.length
   .obtain⟨b,off,ea,hbl,hcs⟩:=jE.get (by omega);have z:=hcs i hlt;have Jp:Hid (ch[i].2.1=[]->∀hi:i<ch.length,ch[i].2.1=[]):=fun h _=>h;have vQ:Hid (ch[i].2.1≠[]->∀j (hj:j<ch.length),j<i+1->ch[j].2.1≠[]):=fun h j hj oK=>by
     rcases Oq.1 oK with h9|rfl
     .exact vP.out j hj h9
     .exact h
    have EA:=ae ea;unfold dS at z;clear hcs ea jE;generalize ch[i]=hd at*;obtain⟨ai,li,ci⟩:=hd;simp only at z Jp vQ;obtain rfl:=EA.out;clear EA;have um:(i:Int)<(ch.length:Int):=by omega
    by_cases h0:li=[]
    .have HE:=ae (Jp.out h0);clear Jp vQ;subst h0
     go_wp2_with fail
     go_meet;exact⟨i,rfl,(by first|rfl|trivial),hi,vP,HE⟩
    .have HE:=ae (vQ.out h0);have Ee:0<li.length:=Dw.2 h0;have hd0:decide (0<li.length)=true:=by simp[Ee]
     clear h0 Jp vQ
     go_wp2_with fail
     go_roundw
     case rel=>exact⟨i+1,by go_num,(by first|rfl|trivial),by omega,HE⟩
     case measure=>simp[intOf];omega
   .have HE:Hid (∀hi:i<ch.length,ch[i].2.1=[]):=fun h=>absurd h hlt;have hge:¬(i:Int)<(ch.length:Int):=by omega
    go_wp2_with fail
    go_meet;exact⟨i,rfl,(by first|rfl|trivial),hi,vP,HE⟩
 case rest=>
  obtain⟨i,rfl,hwr,hi,vP,Jp⟩:=hcut;obtain rfl:wc=w2:=hwr.out;clear hwr;obtain⟨SB,Jq⟩:∃SB,SB=cv.ownBlock:=⟨_,rfl⟩;have HS:Hid (∀k,(k=Cb\/SB=some k)->base<=k):=fun k h=>by
   rcases h with rfl|h
   .exact C2.out.hb
   .exact(C2.out.row.lt k (Jq▸h)).1
  have VY:Hid (∀k,SB=some k->k<W.heap.size/\k≠Cb):=fun k h=>⟨(H.out.row.lt k (Jq▸h)).2,fun e=>H.out.ne (by rw[<-Jq,h,e])⟩;have yh:=ae Jq;have agz:=H.out.lt;obtain⟨av,cp,rfl,-,VZ,-⟩:=Rd.aL (enc:=dS) C2.out.row;have K2:Hid (aC (fun k=>k=Cb\/SB=some k) W wc):=(aC.refl _ _).grown (bV B2.out) (by simp);have HNB:Hid (∀w6,wc.grownBy w6 (Value.ownBlock (.slice av ch.length cp))->w6.heap[Cb]? =some (Obj.cells #[.bool true,.slice av ch.length cp,ag N,ag wk] 278 (0,0))):=fun w6 hg=>(hg.block Cb C2.out.lt (fun e=>C2.out.ne e.symm)).trans C2.out.blk;clear Jq
  go_upto_if 37 with fail
  go_cut []from 37 to 46 (fun wx=>∃WQ ch1 g1 n1 uo,Hid (nZ wx base Cb WQ ch1 N wk)/\WQ=aD g1 n1 uo/\n1=ch1.length/\i<n1/\Hid (ch1=ch/\i<ch.length\/ch1=ch++[fO]/\i=ch.length)/\Hid (WQ.ownBlock=SB\/∃b,WQ.ownBlock=some b/\W.heap.size<=b)/\Hid (g1≠W.heap.size)/\Hid (aC (fun k=>k=Cb\/SB=some k) W wx)/\Hid (aC (fun k=>k=Cb\/SB=some k) wc wx))
  case first=>
   by_cases kE:i=ch.length
   .subst kE;have hde:((ch.length:Int)==(ch.length:Int))=true:=by simp
    go_wp2_with (at_builtin;refine cz aeQ base C2.out.row [aN] rfl (by simp[Value.oneCell']) rfl _ _ rfl rfl _ rfl (by unfold maxLen;omega) (by omega) (by omega) ?_;intro v' w6 hown' hg hblk;obtain⟨g6,jM,rfl,aci,acj,ack,acm⟩:=bf hown' (by omega);have k6:=HNB.out w6 hg;have q1:w6.cell? (ah Cb 1)=some (.slice av ch.length cp):=(by simp[World.cell?,k6]);have q2:w6.frozen? (ah Cb 1)=false:=(by simp[World.frozen?,k6]))
    go_meet;have hown2:w6.ownsRow base 213 1 (aD g6 (ch.length+1) jM) (ch++[fO]).length ((ch++[fO]).map dS):=by
     rw[bF,dh];exact hown'
    have oW:(some g6=SB\/g6=wc.heap.size+1):=by
     rcases hblk with h9|h9
     .exact .inl (h9.trans yh.out.symm)
     .simp only[Value.ownBlock,jB]at h9;rw[h9];exact .inr (by simp)
    have V3:g6≠Cb:=by
     rcases oW with h9|h9
     .exact(VY.out g6 h9.symm).2
     .omega
    refine⟨_,ch++[fO],g6,ch.length+1,jM,iH.TL (ch:=ch) k6 C2.out.hb C2.out.ds hown2 (by simpa[Value.ownBlock]using V3),rfl,by simp,by omega,(by first|exact .inr ⟨rfl,rfl⟩|exact .inr ⟨rfl,trivial⟩),?_,?_,(K2.out.grown hg fun k hk=>.inl (.inr (yh.out.trans hk))).set _ (.inl (.inl rfl)),((aC.refl _ wc).grown hg fun k hk=>.inl (.inr (yh.out.trans hk))).set _ (.inl (.inl rfl))⟩
    .rcases oW with h9|h9
     .exact .inl (by simpa[Value.ownBlock]using h9)
     .exact .inr ⟨g6,rfl,by omega⟩
    .show g6≠W.heap.size;rcases oW with h9|h9
     .have:=(VY.out g6 h9.symm).1;omega
     .omega
   .have hde:((i:Int)==(ch.length:Int))=false:=by simp only[beq_eq_false_iff_ne];omega
    have WR:i<ch.length:=by omega
    obtain⟨g,cp',e9,hg1,hg2,-,-⟩:=bf C2.out.row (by omega);injection e9 with e9 _ WS;subst e9 WS;go_wp2;go_meet;have hgS:SB=some g:=yh.out;exact⟨_,ch,g,ch.length,cp,C2,rfl,rfl,WR,.inl ⟨rfl,WR⟩,.inl yh.out.symm,(by show g≠W.heap.size;have:=(VY.out g hgS).1;omega),K2,aC.refl _ _⟩
  case rest=>
   obtain⟨WQ,ch1,g1,n1,uo,C3,rfl,rfl,iC,HCH,uZ,HG1,K3,WT⟩:=hcut;obtain⟨w3,jQ⟩:∃w3:World,w3=wc:=⟨_,rfl⟩;subst jQ;have KJ:Hid (¬(W.heap.size=Cb\/SB=some W.heap.size)):=fun h9=>by
    rcases h9 with h9|h9
    .omega
    .have:=(VY.out _ h9).1;omega
   have X0:Hid (w3.cell? (ah W.heap.size 0)=some (ag x)):=(dX (a:=(ah W.heap.size 0)) (WT.out.block _ hs2 KJ.out)).trans Y0.out;have X1:Hid (w3.cell? (ah W.heap.size 1)=some (ag y)):=(dX (a:=(ah W.heap.size 1)) (WT.out.block _ hs2 KJ.out)).trans Y1.out;have X2:Hid (w3.cell? (ah W.heap.size 2)=some (aJ d)):=(dX (a:=(ah W.heap.size 2)) (WT.out.block _ hs2 KJ.out)).trans Y2.out;have X3:Hid (w3.cell? (ah W.heap.size 3)=some (ag nn)):=(dX (a:=(ah W.heap.size 3)) (WT.out.block _ hs2 KJ.out)).trans Y3.out;have hs3:W.heap.size<w3.heap.size:=bJ hs2 WT.out.size;have hg1:g1<w3.heap.size:=(C3.out.row.lt g1 rfl).2;have F6:Hid (∀k (hk:k<i) (h1:k<ch1.length) (h2:k<ch.length),ch1[k]=ch[k]):=fun k hk h1 h2=>by
    rcases HCH.out with⟨e,-⟩|⟨e,-⟩
    .subst e;rfl
    .subst e;exact sN h2
   have HEK:Hid (∀W',aC (fun k=>k=Cb\/SB=some k) W W'->∀k (hk:k<ch.length),dU l8 4 W' ch[k].1 ch[k].2.1):=fun W' hK k hk=>((HR.out _ (bW hk)).1.kept (H.out.fq yh.out hK)).VX;have HJN:Hid (∀k (hk:k<ch.length),k<i->(((ch.map (·.2.1)).take i).drop k).reverse.flatten=(((ch.map (·.2.1)).take i).drop (k+1)).reverse.flatten++ch[k].2.1):=fun k hk KD=>by
    rw[nP (by simp;omega)];simp
   have HJL:Hid (∀k,(((ch.map (·.2.1)).take i).drop k).reverse.flatten.length<=10000):=fun k=>by
    generalize ch.map (·.2.1)=CB at*;have e1:(((CB.take i).drop k).reverse.flatten).length=((CB.take i).drop k).flatten.length:=by simp only[IE,I1,List.sum_reverse]
    have e2:((CB.take i).take k).flatten++((CB.take i).drop k).flatten=(CB.take i).flatten:=by rw[<-lV,lg]
    have e3:(CB.take i).flatten++(CB.drop i).flatten=CB.flatten:=by rw[<-lV,lg]
    have e4:=congrArg List.length e2;have e5:=congrArg List.length e3;rw[bF]at e4 e5;omega
   clear Y0 Y1 Y2 Y3 c0 c1 c2 c3 WT
   go_upto_block 2 with fail
   go_cut [7]from 49 to 67 (fun vv wx=>Hid (wx.ownsRow w3.heap.size 187 4 vv (eu (ch.map (·.2.1)) i).length ((eu (ch.map (·.2.1)) i).flatMap l8))/\Hid (nZ wx base Cb (aD g1 ch1.length uo) (vO ch1 i 0) N wk)/\Hid (aC (fun k=>k=Cb\/SB=some k) W wx)/\Hid (aC (fun k=>k=g1) w3 wx))
   case first=>
    go_wp2_with fail
    go_loopw [8,7] (fun kv vv wr=>∃(k:Nat) (va:Value),kv=.int .i64 ((k:Int)-1)/\vv=va/\k<=i/\Hid (wr.ownsRow w3.heap.size 187 4 va (((ch.map (·.2.1)).take i).drop k).reverse.flatten.length ((((ch.map (·.2.1)).take i).drop k).reverse.flatten.flatMap l8))/\Hid (nZ wr base Cb (aD g1 ch1.length uo) (vO ch1 i k) N wk)/\Hid (aC (fun k=>k=Cb\/SB=some k) W wr)/\Hid (aC (fun k=>k=g1) w3 wr)) (fun kv _ _=>(intOf kv+1).toNat)
    case atStart=>
     refine⟨i,_,rfl,rfl,aG _,?_,?_,K3,aC.refl _ _⟩
     .rw[rX (by simp;omega)];exact dL _ _ _ _
     .rw[Ro];exact C3
    case round=>
     obtain⟨k,va,rfl,rfl,hk,HO,HC,HK,HG⟩:=hrel;rcases pI k with BP|BP
     .subst BP;have hg0:¬(0:Int)<=((0:Nat):Int)-1:=by omega
      rw[lI]at HO
      go_wp2_with fail
      go_meet;exact⟨HO,HC,HK,HG⟩
     .obtain⟨m,rfl⟩:∃m,k=m+1:=⟨k-1,by omega⟩;have hmc:m<ch.length:=by omega
      have G7:m<ch1.length:=by omega
      obtain⟨d0,d1,d2,d3⟩:=HC.out.cell;have oL:i<=ch1.length:=by omega
      have hrow:=HC.out.row;rw[iW hk oL]at hrow;have z:=hrow.cellAt m (by omega);rw[iO,Rp oL (by omega),dD G7,F6.out m (by omega) G7 hmc]at z;simp only[aU]at z;have jE:=HEK.out wr HK.out m hmc;have hjn:=HJN.out m hmc (by omega);have jl:=HJL.out m;rw[hjn,bF]at jl;have agB:=Rq (ch1:=ch1) oL (show m<i by omega);have LJ:=jl;generalize(((ch.map (·.2.1)).take i).drop (m+1)).reverse.flatten=L at*;have HJ2:=ae hjn;unfold dS at z;clear hjn jl;generalize ch[m]=hd at*;obtain⟨am,lm,cm⟩:=hd;simp only at z jE LJ HJ2;have yJ:=HO.out.lt;have agD:=C3.out.lt;have hgw:=HG.out.size;have hmi:(m:Int)<(ch1.length:Int):=by omega
      go_wp2_with (at_builtin;refine oZ LH Es LG w3.heap.size HO.out jE rfl _ _ rfl rfl cm rfl (by unfold maxLen;omega) (by omega) hgw ?_;intro v' w6 hown' hg hblk;have C6:=HC.out.grown hg (fun e=>(by have:=(yJ Cb e).1;omega)) (.inr (fun e=>(by have:=(yJ g1 e.symm).1;omega)));obtain⟨f0,f1,f2,f3⟩:=C6.cell;have qK:=hg.block g1 (by omega) (fun e=>(by have:=(yJ g1 e.symm).1;omega));have z6:=(dX (a:=(ah g1 m)) qK).trans z;have WU:=(Dr (a:=(ah g1 m)) qK).trans (hrow.frozenAt m))
      have agE:=hown'.lt;have HO6:Hid ((w6.setCell (ah g1 m) (aN)).ownsRow w3.heap.size 187 4 v' (((ch.map (·.2.1)).take i).drop m).reverse.flatten.length ((((ch.map (·.2.1)).take i).drop m).reverse.flatten.flatMap l8)):=by
       show World.ownsRow _ _ _ _ _ _ _;rw[HJ2.out,bF,lW];exact bB hown' fun gb e=>aH (fun e2=>by have:=(agE gb e).1;simp only at e2;omega)
      have LM:Hid (nZ (w6.setCell (ah g1 m) (aN)) base Cb (aD g1 ch1.length uo) (vO ch1 i m) N wk):=by
       have:=C6.TK (iW hk oL).symm m fO;rw[agB]at this;exact this
      have OZ:SB=some g1\/W.heap.size<=g1:=by
       rcases uZ.out with h9|⟨b,h9,h8⟩
       .exact .inl h9.symm
       .simp only[Value.ownBlock,jB]at h9;exact .inr (by omega)
      have lD:Hid (aC (fun k=>k=Cb\/SB=some k) W (w6.setCell (ah g1 m) (aN))):=
       (HK.out.grown hg (fun b hb=>.inr (by have:=(yJ b hb).1;omega))).set _ (by rcases OZ with h9|h9;exact .inl (.inr h9);exact .inr h9)
      have HG6:Hid (aC (fun k=>k=g1) w3 (w6.setCell (ah g1 m) (aN))):=(HG.out.grown hg (fun b hb=>.inr (yJ b hb).1)).set _ (.inl rfl);go_roundw
      case rel=>exact⟨m,v',by go_num,rfl,by omega,HO6,LM,lD,HG6⟩
      case measure=>simp[intOf]
   case rest=>
    obtain⟨HO,HC,HK,HG⟩:=hcut;obtain⟨w4,Rs⟩:∃w4:World,w4=wc:=⟨_,rfl⟩;subst Rs;have hgw:=HG.out.size;have oL:i<=ch1.length:=by omega
    have TP:W.heap.size≠g1:=fun e=>HG1.out e.symm;have X0':w4.cell? (ah W.heap.size 0)=some (ag x):=(dX (a:=(ah W.heap.size 0)) (HG.out.block _ hs3 TP)).trans X0.out;have X1':w4.cell? (ah W.heap.size 1)=some (ag y):=(dX (a:=(ah W.heap.size 1)) (HG.out.block _ hs3 TP)).trans X1.out;have X2':w4.cell? (ah W.heap.size 2)=some (aJ d):=(dX (a:=(ah W.heap.size 2)) (HG.out.block _ hs3 TP)).trans X2.out;have X3':w4.cell? (ah W.heap.size 3)=some (ag nn):=(dX (a:=(ah W.heap.size 3)) (HG.out.block _ hs3 TP)).trans X3.out;have jl:=HJL.out 0;rw[lI]at jl;change(eu (ch.map (·.2.1)) i).length<=10000 at jl;have HOd:=(HO.out.alloc (.cells #[ag x,ag y,aJ d,ag nn] 187)).bP 1;have HCd:=(HC.out.grown (sO w4 (.cells #[ag x,ag y,aJ d,ag nn] 187) none) (by simp) (.inr (by simp[Value.ownBlock]))).drew;generalize hJ:eu (ch.map (·.2.1)) i=J at*;obtain⟨v2,w6,R1,hown2,hg2,oW⟩:=jN (ty:=213) (t:=213) (P:=Tryz.prog) LH w3.heap.size HOd (ah w4.heap.size 0) 1 1 [.int .i64 x,.int .i64 y,.int .u32 d,.int .i64 nn] rfl (by
     intro j u hu;have j6:((ah w4.heap.size 0):Addr).add j=(ah w4.heap.size j):=by unfold Addr.add;split<;>simp_all
     rw[j6];have h9:(w4.alloc (.cells #[ag x,ag y,aJ d,ag nn] 187)).cell? (ah w4.heap.size j)=some u:=by
      rw[fw _ _ _ _ (by rfl)];simpa using hu
     exact h9) (by simp[Value.oneCell']) (by unfold maxLen;omega) (by omega) (by simp;omega)
    have yJ:=HOd.lt;have agD:=C3.out.lt;have C6:=HCd.grown hg2 (fun e=>(by have:=(yJ Cb e).1;omega)) (.inr (fun e=>(by have:=(yJ g1 e.symm).1;omega)));have kF:w6.ownsRow w3.heap.size 187 4 v2 (J.length+1) ((J++[((x,y,d),nn)]).flatMap l8):=by
     rw[lW];exact hown2
    have hv2:=kF.lt;obtain⟨a6,jM,rfl,-,agF,hRE⟩:=TN.aL kF;have O0:(J++[((x,y,d),nn)]).length=J.length+1:=by simp
    rw[O0]at R1 kF agF hv2;have WV:Hid (∀a,a6=some a->W.heap.size<=a.block):=fun a ha=>by have:=(hv2 a.block (by rw[ha];rfl)).1;omega
    obtain⟨f0,f1,f2,f3⟩:=C6.cell;have yK:=C6.row;rw[iW (bC _) oL]at yK;have hz6:=yK.cellAt i (by omega);have WU:=yK.frozenAt i;have hzl:i<((vO ch1 i 0).map dS).length:=by rw[cu,iW (bC _) oL];omega
    rw[dD hzl]at hz6;have hXa:w4.cell? (ah Cb 1)=some (aD g1 ch1.length uo)/\w4.cell? (ah W.heap.size 0)=some (ag x)/\w4.cell? (ah W.heap.size 1)=some (ag y)/\w4.cell? (ah W.heap.size 2)=some (aJ d)/\w4.cell? (ah W.heap.size 3)=some (ag nn):=⟨HC.out.cell.2.1,X0',X1',X2',X3'⟩;have hXb:w4.drew.cell? (ah Cb 1)=some (aD g1 ch1.length uo)/\w4.drew.cell? (ah W.heap.size 0)=some (ag x)/\w4.drew.cell? (ah W.heap.size 1)=some (ag y)/\w4.drew.cell? (ah W.heap.size 2)=some (aJ d)/\w4.drew.cell? (ah W.heap.size 3)=some (ag nn):=hXa;have hgA:=(aM w4.heap.size w4).alloc (aG _) (.cells #[ag x,ag y,aJ d,ag nn] 187);have hXl:W.heap.size<w4.heap.size:=by omega
    have WW:(w4.alloc (.cells #[ag x,ag y,aJ d,ag nn] 187)).drew.cell? (ah Cb 1)=some (aD g1 ch1.length uo)/\(w4.alloc (.cells #[ag x,ag y,aJ d,ag nn] 187)).drew.cell? (ah W.heap.size 0)=some (ag x)/\(w4.alloc (.cells #[ag x,ag y,aJ d,ag nn] 187)).drew.cell? (ah W.heap.size 1)=some (ag y)/\(w4.alloc (.cells #[ag x,ag y,aJ d,ag nn] 187)).drew.cell? (ah W.heap.size 2)=some (aJ d)/\(w4.alloc (.cells #[ag x,ag y,aJ d,ag nn] 187)).drew.cell? (ah W.heap.size 3)=some (ag nn):=
     ⟨HCd.cell.2.1,(hgA.cell (p:=(ah W.heap.size 0)) hXl).trans X0',(hgA.cell (p:=(ah W.heap.size 1)) hXl).trans X1',(hgA.cell (p:=(ah W.heap.size 2)) hXl).trans X2',(hgA.cell (p:=(ah W.heap.size 3)) hXl).trans X3'⟩
    have hXk:=hg2.block W.heap.size (by simp;omega) (fun e=>by have:=(yJ _ e.symm).1;omega);have WX:w6.cell? (ah Cb 1)=some (aD g1 ch1.length uo)/\w6.cell? (ah W.heap.size 0)=some (ag x)/\w6.cell? (ah W.heap.size 1)=some (ag y)/\w6.cell? (ah W.heap.size 2)=some (aJ d)/\w6.cell? (ah W.heap.size 3)=some (ag nn):=
     ⟨f1,(dX (a:=(ah W.heap.size 0)) hXk).trans WW.2.1,(dX (a:=(ah W.heap.size 1)) hXk).trans WW.2.2.1,(dX (a:=(ah W.heap.size 2)) hXk).trans WW.2.2.2.1,(dX (a:=(ah W.heap.size 3)) hXk).trans WW.2.2.2.2⟩
    have C7:nZ (w6.setCell (ah g1 i) (.slice a6 (J.length+1) jM)) base Cb (aD g1 ch1.length uo) ((vO ch1 i 0).set i (a6,J++[((x,y,d),nn)],jM)) N wk:=by
     have:=C6.TK (iW (bC _) oL).symm i (a6,J++[((x,y,d),nn)],jM);unfold dS at this;rw[O0]at this;exact this
    have hXe:(w6.setCell (ah g1 i) (.slice a6 (J.length+1) jM)).cell? (ah Cb 1)=some (aD g1 ch1.length uo)/\(w6.setCell (ah g1 i) (.slice a6 (J.length+1) jM)).cell? (ah W.heap.size 0)=some (ag x)/\(w6.setCell (ah g1 i) (.slice a6 (J.length+1) jM)).cell? (ah W.heap.size 1)=some (ag y)/\(w6.setCell (ah g1 i) (.slice a6 (J.length+1) jM)).cell? (ah W.heap.size 2)=some (aJ d)/\(w6.setCell (ah g1 i) (.slice a6 (J.length+1) jM)).cell? (ah W.heap.size 3)=some (ag nn):=
     ⟨C7.cell.2.1,(dX (a:=(ah W.heap.size 0)) (aH (fun e=>TP e.symm))).trans WX.2.1,(dX (a:=(ah W.heap.size 1)) (aH (fun e=>TP e.symm))).trans WX.2.2.1,(dX (a:=(ah W.heap.size 2)) (aH (fun e=>TP e.symm))).trans WX.2.2.2.1,(dX (a:=(ah W.heap.size 3)) (aH (fun e=>TP e.symm))).trans WX.2.2.2.2⟩
    have OC:(i:Int)<(ch1.length:Int):=by omega
    generalize((vO ch1 i 0).map dS)[i]=zz at*;go_wp2
    go_hide hQ
    go_region_held3 (fun w'=>w'.cell? (ah Cb 1)=some (aD g1 ch1.length uo)/\w'.cell? (ah W.heap.size 0)=some (ag x)/\w'.cell? (ah W.heap.size 1)=some (ag y)/\w'.cell? (ah W.heap.size 2)=some (aJ d)/\w'.cell? (ah W.heap.size 3)=some (ag nn))
     (first|(with_reducible exact hXa)|(with_reducible exact hXb)|(with_reducible exact WW)|(with_reducible exact WX)|(with_reducible exact hXe)|go_keep)
     ((refine rZ rfl (.tmp 73) (.tmp 75) rfl R1 (by simp[Act.eval]) (by simp[Act.eval]) ?_;try simp only[Act.put,Iq,qO,zV]))
    all_goals subst hQ
    clear hXe;generalize hw7:w6.setCell (ah g1 i) (.slice a6 (J.length+1) jM)=w7 at C7 |-;have C8:=C7.Er (N+1);obtain⟨s0,s1,s2,s3⟩:=C7.cell;have WY:=C7.frozen 2;obtain⟨t0,t1,t2,t3⟩:=C8.cell;have fr3:=C8.frozen 3;have qL:((vO ch1 i 0).set i (a6,J++[((x,y,d),nn)],jM)).length=ch1.length:=by rw[qh,iW (bC _) oL]
    have Eu:=C8.row;rw[qL]at Eu;have z8:=Eu.cellAt i (by omega);have nX:(((vO ch1 i 0).set i (a6,J++[((x,y,d),nn)],jM)).map dS)[i]? =some (.slice a6 (J.length+1) jM):=by
     rw[iO,wh (by rw[iW (bC _) oL];omega)];simp[dS]
    rw[nX]at z8;have C9:=(C8.ach (wrap64 (wk+((J.length:Int)+1)))).drew;have TQ:=ae C9;clear C9;have hN1:(-9223372036854775808:Int)<=N+1/\N+1<=9223372036854775807:=by omega
    have HW7:=ae hw7;clear hw7;clear f0 f1 f2 f3 hz6 WU hXa hXb WW WX R1;have HZ8:=ae z8;have HHG:=ae nX;have WZ:=ae hRE;have OZ:SB=some g1\/W.heap.size<=g1:=by
     rcases uZ.out with h9|⟨b,h9,h8⟩
     .exact .inl h9.symm
     .simp only[Value.ownBlock,jB]at h9;exact .inr (by omega)
    have lD:Hid (aC (fun k=>k=Cb\/SB=some k) W w6):=((HK.out.grown (sO w4 (.cells #[ag x,ag y,aJ d,ag nn] 187) none) (by simp)).drew).grown hg2 (fun b hb=>.inr (by have:=(yJ b hb).1;omega));have LM:=ae C6;clear nX;go_wp2;go_region;have agH:Hid (aC (fun k=>k=Cb\/some g1=some k) w6 ((w7.setCell (ah Cb 2) (.int .i64 (N+1))).setCell (ah Cb 3) (.int .i64 (wrap64 (wk+((J.length:Int)+1))))).drew):=by
     rw[<-HW7.out];exact((((aC.refl _ w6).set _ (.inl (.inr rfl))).set _ (.inl (.inl rfl))).set _ (.inl (.inl rfl))).drew
    have W9:Hid (aC (fun k=>k=Cb\/SB=some k) W ((w7.setCell (ah Cb 2) (.int .i64 (N+1))).setCell (ah Cb 3) (.int .i64 (wrap64 (wk+((J.length:Int)+1))))).drew):=by
     rw[<-HW7.out];exact(((lD.out.set _ (by rcases OZ with h9|h9;exact .inl (.inr h9);exact .inr h9)).set _ (.inl (.inl rfl))).set _ (.inl (.inl rfl))).drew
    have C9:=TQ.out;clear z8 TQ s0 s1 s2 s3 t0 t1 t2 t3 WY fr3 C7 C8 HW7;generalize hw9:((w7.setCell (ah Cb 2) (.int .i64 (N+1))).setCell (ah Cb 3) (.int .i64 (wrap64 (wk+((J.length:Int)+1))))).drew=w9 at*;obtain⟨u0,u1,u2,u3⟩:=C9.cell;have Ev:=C9.row;rw[qL]at Ev;have z9:=Ev.cellAt i (by omega);rw[HHG.out]at z9;have O1:=WZ.out.kept (LM.out.fq rfl agH.out);have Xa:=W9.out.size;have CLN:=Et a6 (J++[((x,y,d),nn)]) (J.length+1) jM w9 O0 O1.VX (by omega);have TQ:=ae C9;have agI:=ae O1;clear hw9 yK Eu Ev C9 O1 hRE
    go_wp2_with fail
    refine CLN.mono ?_;rintro e sH ⟨v10,rfl,Ew,Cn⟩;go_wp2;go_ret2;have Xb:aC (fun k=>k=Cb\/SB=some k) W sH:=W9.out.below Cn;have Xc:=H.out.fq yh.out Xb;refine⟨i,v10,aD g1 ch1.length uo,(vO ch1 i 0).set i (a6,J++[((x,y,d),nn)],jM),_,rfl,hi,vP.out,Jp.out,TQ.out.below Cn,?_,?_,?_,?_,?_,?_,?_⟩
    .have LP:∀b,b<w9.heap.size->v10.ownBlock≠some b:=fun b hb e=>by have:=(Ew.lt b e).1;omega
     have hall:∀W2:World,(∀(b:Nat) cur fr,sH.heap[b]? =some (Obj.cells cur 187 fr)->v10.ownBlock≠some b->W2.heap[b]? =sH.heap[b]?)->si W2 ((vO ch1 i 0).set i (a6,J++[((x,y,d),nn)],jM)):=by
      intro W2 h2 h hh;rcases Dc HCH.out hh with rfl|rfl|h1
      .exact⟨agI.out.kept fun b cur fr hb=>(h2 b cur fr ((bI Cn hb).trans hb) (LP b (bn.1 hb).1)).trans (bI Cn hb),by show(J++[((x,y,d),nn)]).length<=jM;omega⟩
      .exact⟨.inl rfl,aG _⟩
      .exact⟨(HR.out h h1).1.kept fun b cur fr hb=>(h2 b cur fr ((Xc b cur fr hb).trans hb) (LP b (bJ (bn.1 hb).1 Xa))).trans (Xc b cur fr hb),(HR.out h h1).2⟩
     exact⟨hall sH (fun _ _ _ _ _=>rfl),hall⟩
    .exact LC HCH.out _ ((x,y,d),nn) (by show J++[((x,y,d),nn)]=_;rw[hJ])
    .rw[hJ,O0];exact bR Ew Xa
    .rcases uZ.out with h9|h9
     .exact .inl (h9.trans yh.out)
     .exact .inr h9
    .exact Xb.mono fun k hk=>hk.imp id fun h9=>yh.out▸h9
    .intro h hh;rcases Dc HCH.out hh with rfl|rfl|h1
     .exact .inr WV.out
     .exact .inr fun a ha=>by cases ha
     .exact .inl h1
    .rw[hJ]
end Go.Proofs.YtkjdbndekceffaaGreat
namespace Go.Proofs.YtkjdbndekceffaaGreat
open Go.RowKit Go.Maps
section
variable {W:World} {base Cb:Nat} {cv:Value} {ch:List De} {N wk:Int}
theorem AP (h:nZ W base Cb cv ch N wk) (hl:ch.length<=1000000):aO 141 #[ay Cb] W (iX W (ag ch.length)):=by
 have CN:=ae (yI h);have H:=ae h;clear h;obtain⟨av,cp,rfl,-,-,-⟩:=Rd.aL (enc:=dS) H.out.row;go_enter Tryz.func141,Tryz.ntmps141
 go_wp2_with fail
 refine CN.out.mono ?_;rintro e w2 ⟨rfl,hb2⟩;obtain⟨-,c1,-⟩:=(H.out.below hb2).cell;go_wp2;go_ret;exact⟨rfl,hb2⟩
theorem agJ (h:nZ W base Cb cv ch N wk):aO 139 #[ay Cb] W (iX W (ag N)):=by
 have CN:=ae (yI h);have H:=ae h;clear h;go_enter Tryz.func139,Tryz.ntmps139
 go_wp2_with fail
 refine CN.out.mono ?_;rintro e w2 ⟨rfl,hb2⟩;obtain⟨-,-,c2,-⟩:=(H.out.below hb2).cell;go_wp2;go_ret;exact⟨rfl,hb2⟩
theorem AQ (h:nZ W base Cb cv ch N wk) (o6:si W ch) (hl:ch.length<=1000000) (i:Nat) (hi:i<ch.length) (hz:ch[i].2.1.length<=1000000):aO 142 #[ay Cb,ag i] W fun e w'=>
  ∃v,e=.returned v/\w'.ownsRow W.heap.size 187 4 v ch[i].2.1.length (ch[i].2.1.flatMap l8)/\Below W.heap.size W w':=by
 have CN:=ae (yI h);have H:=ae h;clear h;obtain⟨av,cp,rfl,-,-,-⟩:=Rd.aL (enc:=dS) H.out.row;obtain⟨g,cp',e9,hg1,hg2,-,-⟩:=bf H.out.row (by omega);injection e9 with e9 _ WS;subst e9 WS;have Df:=ae (fun W' (hb:Below W.heap.size W W')=>(o6 _ (bW hi)).1.VX.below hb);have HZ:=ae (fun W' (hb:Below W.heap.size W W')=>(show W'.cell? (ah g i)=some (dS ch[i]) by
  have:=((H.out.below hb).row).cellAt i (by omega);rw[iO,dD hi]at this;exact this))
 unfold dS at HZ;clear o6;have OC:(i:Int)<(ch.length:Int):=by omega
 generalize ch[i]=hd at*;obtain⟨ai,li,ci⟩:=hd;simp only at Df HZ hz |-;have d1:decide ((i:Int)<0)=false:=by simp
 have d2:decide ((ch.length:Int)<=(i:Int))=false:=by simp only[iE];omega
 go_enter Tryz.func142,Tryz.ntmps142
 go_wp2_with fail
 refine CN.out.mono ?_;rintro e w2 ⟨rfl,hb2⟩;obtain⟨-,c1,-⟩:=(H.out.below hb2).cell;have z2:=HZ.out w2 hb2;have CL:=ae (Et ai li li.length ci w2 rfl (Df.out w2 hb2) hz)
 go_wp2_with fail
 refine CL.out.mono ?_;rintro e w3 ⟨v3,rfl,hown,hb3⟩;have HO:=ae (bR hown hb2.size);go_wp2;go_ret;exact⟨_,rfl,HO.out,hb2.trans (hb3.mono hb2.size)⟩
end
end Go.Proofs.YtkjdbndekceffaaGreat
