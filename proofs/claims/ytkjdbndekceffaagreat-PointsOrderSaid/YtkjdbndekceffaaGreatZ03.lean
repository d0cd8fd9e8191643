/- Made small by a program. -/
import Derived.Test.YtkjdbndekceffaaGreatZ02
set_option linter.unusedSimpArgs false
set_option linter.unusedVariables false
set_option maxRecDepth 100000
set_option maxHeartbeats 16000000
namespace Go.Proofs.YtkjdbndekceffaaGreat
open Tryz
section
open Go.RowKit
def bQ {α:Type} (enc:α->List Value) (sz:Nat) (w:World) (a:Option Addr) (l:List α):Prop:=
 l=[]\/∃b off,a=some (ae b off)/\b<w.heap.size/\∀i (h:i<l.length) j,j<sz->w.cell? (ae b (off+i*sz+j))=(enc l[i])[j]?
section
variable {α:Type} {enc:α->List Value} {sz:Nat} {w w':World} {a:Option Addr} {l:List α}
theorem bQ.below {B:Nat} (h:bQ enc sz w a l) (c:Below B w w') (e:w.heap.size<=B:=by first|exact aB _|(simp;done)|(simp;omega)):bQ enc sz w' a l:=by
 rcases h with h|⟨b,off,rfl,d,f⟩
 .exact .inl h
 .exact .inr ⟨b,off,rfl,bR d c.size,fun i hi j g=>by rw[c.cell (p:=(ae b (off+i*sz+j))) (bR d e)];exact f i hi j g⟩
theorem bQ.nil:bQ enc sz w a ([]:List α):=.inl rfl
theorem bQ.get (h:bQ enc sz w a l) (c:0<l.length):
  ∃b off,a=some (ae b off)/\b<w.heap.size/\∀i (h:i<l.length) j,j<sz->w.cell? (ae b (off+i*sz+j))=(enc l[i])[j]? :=by
 rcases h with rfl|h
 .simp at c
 .exact h
theorem bQ.take (h:bQ enc sz w a l) (k:Nat):bQ enc sz w a (l.take k):=by
 rcases h with rfl|⟨b,off,rfl,c,d⟩
 .exact .inl aA
 .exact .inr ⟨b,off,rfl,c,fun i hi j e=>by rw[xN];exact d i (by simp at hi;omega) j e⟩
theorem bQ.drop {b off:Nat} (h:bQ enc sz w (some (ae b off)) l) (k:Nat):bQ enc sz w (some (ae b (off+k*sz))) (l.drop k):=by
 rcases h with h|⟨e,f,h,a,c⟩
 .exact .inl (by rw[h];simp)
 .cases h;exact .inr ⟨b,off+k*sz,rfl,a,fun i hi j d=>by
   rw[List.getElem_drop,show off+k*sz+i*sz+j=off+(k+i)*sz+j by rw[pQ];omega];exact c (k+i) (by simp at hi;omega) j d⟩
theorem gm (a:∀x,(enc x).length=sz):∀l:List α,(l.flatMap enc).length=l.length*sz
 |[]=>aA
 |x::l=>by
  rw[lX,bS,a,gm a l,dY,pQ];omega
theorem flat_get (a:∀x,(enc x).length=sz):∀(l:List α) (i:Nat) (h:i<l.length) (j:Nat),j<sz->(l.flatMap enc)[i*sz+j]? =(enc l[i])[j]?
 |x::l,0,_,j,b=>by
  rw[lX,lS (by rw[a];omega)];simp
 |x::l,i+1,h,j,b=>by
  rw[lX,nz (by rw[a,pQ];omega),a,show(i+1)*sz+j-sz=i*sz+j by rw[pQ];omega];exact flat_get a l i (aP h) j b
theorem bQ.aI (f:∀x,(enc x).length=sz) {base:Nat} {e:TypeId} {v:Value} {n:Nat} (t:0<sz) (h:w.ownsRow base e sz v n (l.flatMap enc)):
  ∃a c,v=.slice a l.length c/\n=l.length/\l.length<=c/\bQ enc sz w a l:=by
 have⟨k,h⟩:=h;rw[gm f]at k;have s:n=l.length:=Nat.eq_of_mul_eq_mul_right t k.symm;subst s;rcases h with⟨rfl,o⟩|⟨g,m,u,rfl,y,d,p,z,A,ht⟩
 .have:l=[]:=gX o;subst this;exact⟨none,0,rfl,rfl,aB _,.inl rfl⟩
 .refine⟨_,m,rfl,rfl,p,.inr ⟨g,0,rfl,(aZ.1 d).1,fun i hi j q=>?_⟩⟩;have b:=flat_get f l i hi j q;rw[<-ht,uI]at b;have r:i*sz+j<l.length*sz:=bR (show i*sz+j<(i+1)*sz by rw[pQ];omega) (o8 _ hi);rw[aN r]at b;unfold World.cell?;simp only[d,jL];simpa using b
theorem bQ.lit (b:∀x,(enc x).length=sz) (W:World) (e:TypeId) (l:List α) (n:Nat) (c:n=W.heap.size):bQ enc sz (W.alloc (.cells (l.flatMap enc).toArray e)) (some (ae n 0)) l:=by
 refine .inr ⟨_,0,rfl,aD,fun i hi j a=>?_⟩;rw[ek _ _ _ _ c,jL];simpa using flat_get b l i hi j a
end
section
variable {P:Program} {ops:Array Oper} {rest:List Oper} {o:Oper} {a:Act} {Q:Exit->Act->World->Prop}
theorem iO {α:Type} {enc:α->List Value} {sz:Nat} {t e:TypeId} {bytes:Nat} (q:eD P t e sz bytes) (d:∀x,(enc x).length=sz) (E:∀x,∀u∈enc x,u.oneCell'=true) (base:Nat) {v:Value} {n:Nat} {xs:List Value} {W:World} (p:W.ownsRow base e sz v n xs) {ad:Option Addr} {l:List α} (O:bQ enc sz W ad l)
  (w:o.guard=none) (s x:Operand) (B:o.op=.call {callee:=.builtin .append,args:=#[s,x],argTypes:=#[t,t]})
  (C:a.eval s=v) (c:Nat) (D:a.eval x=.slice ad l.length c) (F:n+l.length<=maxLen) (L:(n+l.length)*bytes<=140737488355328) (I:base<=W.heap.size)
  (h:∀m w',w'.ownsRow base e sz m (n+l.length) (xs++l.flatMap enc)->W.grownBy w' v.ownBlock->wpList P ops Q rest (a.put o.dst m) w'):wpList P ops Q (o::rest) a W:=by
 rcases O with rfl|⟨b,off,rfl,Y,M⟩
 .refine wpList_plain w fun K G=>?_;have R:=jv (ty:=o.type) q p ad c;have T:a.eval x=.slice ad 0 c:=D;have d:=G _ _ (h v W (aP p) ⟨rfl,rfl,rfl,aB _,fun _ _ _=>rfl⟩);unfold Oper.wp execOp;simp only[B,resolve,invoke,builtin,xY,xZ,xO,En,jK,pJ,C,T,R];exact d
 .obtain⟨ht,⟨i,z,hi,V,S,J,X⟩,k⟩:=q;refine wpList_append_own _ w s x t B base e i z sz bytes ht hi V S J X k v n xs C p (ae b off) l.length c (l.flatMap enc) D (gm d l) ?_ ?_ F L I ?_
  .intro j u hu;have H:((ae b off):Addr).add j=(ae b (off+j)):=by unfold Addr.add;split<;>simp_all
   rw[H];have N:j<l.length*sz:=by
    have:=(fE.1 hu).1;rw[gm d]at this;exact this
   have A:j/sz<l.length:=(Im k).2 N;have f:=M (j/sz) A (j%sz) (pU _ k);have g:=flat_get d l (j/sz) A (j%sz) (pU _ k);have r:j/sz*sz+j%sz=j:=by rw[x8];exact Nat.div_add_mod j sz
   rw[r]at g;rw[rJ,r]at f;rw[f,<-g];exact hu
  .intro u hu;have⟨y,_,U⟩:=xQ.1 hu;exact E y u U
  .intro m w' f g _;exact h m w' f g
end
structure aQ (w:World) where
 W:World
 h:Below w.heap.size w W
instance Sl (w:World):Inhabited (aQ w):=⟨⟨w,aJ _ _⟩⟩
theorem bG {P:Program} {id:Nat} {Q:Exit->Act->World->Prop} {a:Act} {w:World} {l:List Oper} (c:P.follows .mixedOrders=true) (b:Region.lexB .any l.toArray=true)
  (h:wpQuiet P l.toArray (fun w'=>∃p:aQ w,w'=p.W) (fun a'=>∀w',(∃p:aQ w,w'=p.W)->Q .normal a' w') l a):(Code.region id l.toArray true).wp P Q a w:=
 wp_region_quiet (C:=fun w'=>∃p:aQ w,w'=p.W) c b ⟨⟨w.drew,(aJ _ _).drew⟩,rfl⟩ (aP h)
theorem dJ {P:Program} {f:FuncId} {args:Array Value} {w:World} {p:aQ w} {v:Value}
  (h:Calls P f args p.W fun e w'=>e=.returned v/\Below p.W.heap.size p.W w'):Calls P f args p.W fun e c=>e=.returned v/\∃q:aQ w,c=q.W:=
 h.mono fun _ w' ⟨b,a⟩=>⟨b,⟨w',p.h.trans (a.mono p.h.size)⟩,rfl⟩
theorem ah {w:World} {ad:Addr} {v:Value} (h:w.cell? ad=some v):∀p:aQ w,p.W.cell? ad=some v:=fun p=>by
 rw[p.h.cell (gY w _ h)];exact h
def Kb (W:World) (v v':Value):Prop:=v'.ownBlock=v.ownBlock\/v'.ownBlock=some W.heap.size
theorem jo {P:Program} {t ty e:TypeId} {size bytes:Nat} (E:eD P t e size bytes) (base:Nat) {v:Value} {n:Nat} {xs:List Value} {w:World} (o:w.ownsRow base e size v n xs)
  (a:Addr) (m c:Nat) (b:List Value) (h:b.length=m*size) (l:∀j u,b[j]? =some u->w.cell? (a.add j)=some u) (y:∀u∈b,u.oneCell'=true)
  (A:n+m<=maxLen) (r:(n+m)*bytes<=140737488355328) (I:base<=w.heap.size):
  ∃k w',(Builtin.append_ #[t,t] ty #[v,.slice (some a) m c]).run P w=.ok k w'/\w'.ownsRow base e size k (n+m) (xs++b)/\w.grownBy w' v.ownBlock/\Kb w v k:=by
 obtain⟨ht,⟨i,z,hi,s,D,B,Q⟩,O⟩:=E;have⟨k,w',p,F,G,H⟩:=run_append_own (P:=P) w base t ty e i z size bytes ht hi s D B Q O v n xs o a m c b h l y A r I;refine⟨k,w',p,F,G,?_⟩;subst D;subst B;have U:n+m<=9223372036854775807:=by simp only[maxLen]at A;omega
 rcases o.2 with⟨rfl,rfl⟩|⟨g,q,x,rfl,R,L,T,S,J,V⟩
 .by_cases M:m=0
  .rw[H.2 ⟨rfl,M⟩];exact .inl rfl
  .have d:=run_append_nil (P:=P) w t ty e i z ht hi s a m c b h l aa aa (by simp only[jL]at r;omega);rw[p]at d;injection d with f _;rw[f];exact .inr rfl
 .by_cases C:n+m<=q
  .have K:n*i.size+b.length<=x.size:=by rw[h,J,<-pQ];exact o8 _ C
   have d:=run_append_room (P:=P) w t ty e i ht hi g n q x L a m c b h l y C K;rw[p]at d;injection d with f _;rw[f];exact .inl rfl
  .have N:∀j u,xs[j]? =some u->w.cell? (((ae g 0):Addr).add j)=some u:=o.cells (g:=g) rfl;have d:=run_append_grow (P:=P) w t ty e i z ht hi s (ae g 0) n q xs o.1 N a m c b h l aa aa (growslice_fits aa r);rw[p]at d;injection d with f _;rw[f];exact .inr rfl
theorem fQ {w:World} {o:Obj} {v a:Value} (h:Kb (w.alloc o) v a):a.ownBlock=v.ownBlock\/∃b,a.ownBlock=some b/\w.heap.size<=b:=by
 rcases h with h|h
 .exact .inl h
 .exact .inr ⟨_,h,aA⟩
section
variable {P:Program} {ops:Array Oper} {rest:List Oper} {o:Oper} {a:Act} {Q:Exit->Act->World->Prop}
theorem bW {t e:TypeId} {size bytes:Nat} (f:eD P t e size bytes) (base:Nat) {v:Value} {n:Nat} {xs:List Value} {W:World} (A:W.ownsRow base e size v n xs) (b:List Value) (F:b.length=size) (g:∀u∈b,u.oneCell'=true)
  (w:o.guard=none) (s x:Operand) (z:o.op=.call {callee:=.builtin .append,args:=#[s,x],argTypes:=#[t,t]})
  (C:a.eval s=v) (d:TypeId) (D:a.eval x=au W.heap.size 1 1) (m:n+1<=maxLen) (r:(n+1)*bytes<=140737488355328) (E:base<=W.heap.size)
  (h:∀c w',w'.ownsRow base e size c (n+1) (xs++b)->W.grownBy w' v.ownBlock->Kb (W.alloc (.cells b.toArray d)) v c->wpList P ops Q rest (a.put o.dst c) w'):wpList P ops Q (o::rest) a (W.alloc (.cells b.toArray d)):=by
 refine wpList_plain w fun K p=>?_;have⟨c,w',B,i,k,l⟩:=jo (ty:=o.type) f base (A.alloc (.cells b.toArray d)) (ae W.heap.size 0) 1 1 b aa (by
  intro j u hu;have q:((ae W.heap.size 0):Addr).add j=(ae W.heap.size j):=by unfold Addr.add;split<;>simp_all
  rw[q,ek _ _ _ _ (by rfl)];simpa using hu) g m r aD
 have y:=p _ _ (h c w' i (dO (qI W _ none) k) l);unfold Oper.wp execOp;simp only[z,resolve,invoke,builtin,xY,xZ,xO,En,jK,pJ,C,D,B];exact y
theorem nC {α:Type} {enc:α->List Value} {sz:Nat} {t e:TypeId} {bytes:Nat} (k:eD P t e sz bytes) (d:∀x,(enc x).length=sz) (D:∀x,∀u∈enc x,u.oneCell'=true) (base:Nat) {v:Value} {n:Nat} {xs:List Value} {W:World} (m:W.ownsRow base e sz v n xs) {ad:Option Addr} {l:List α} (N:bQ enc sz W ad l)
  (L:o.guard=none) (s x:Operand) (A:o.op=.call {callee:=.builtin .append,args:=#[s,x],argTypes:=#[t,t]})
  (B:a.eval s=v) (c:Nat) (C:a.eval x=.slice ad l.length c) (F:n+l.length<=maxLen) (I:(n+l.length)*bytes<=140737488355328) (H:base<=W.heap.size)
  (h:∀f w',w'.ownsRow base e sz f (n+l.length) (xs++l.flatMap enc)->W.grownBy w' v.ownBlock->Kb W v f->wpList P ops Q rest (a.put o.dst f) w'):wpList P ops Q (o::rest) a W:=by
 refine wpList_plain L fun K w=>?_;rcases N with rfl|⟨b,off,rfl,S,J⟩
 .have p:=jv (ty:=o.type) k m ad c;have O:a.eval x=.slice ad 0 c:=C;have d:=w _ _ (h v W (aP m) ⟨rfl,rfl,rfl,aB _,fun _ _ _=>rfl⟩ (.inl rfl));unfold Oper.wp execOp;simp only[A,resolve,invoke,builtin,xY,xZ,xO,En,jK,pJ,B,O,p];exact d
 .obtain⟨f,w',p,g,i,E⟩:=jo (ty:=o.type) k base m (ae b off) l.length c (l.flatMap enc) (gm d l) (by
   intro j u hu;have G:((ae b off):Addr).add j=(ae b (off+j)):=by unfold Addr.add;split<;>simp_all
   rw[G];have M:j<l.length*sz:=by
    have:=(fE.1 hu).1;rw[gm d]at this;exact this
   have q:0<sz:=k.hsz;have z:j/sz<l.length:=(Im q).2 M;have g:=J (j/sz) z (j%sz) (pU _ q);have i:=flat_get d l (j/sz) z (j%sz) (pU _ q);have r:j/sz*sz+j%sz=j:=by rw[x8];exact Nat.div_add_mod j sz
   rw[r]at i;rw[rJ,r]at g;rw[g,<-i];exact hu) (by
   intro u hu;have⟨y,_,R⟩:=xQ.1 hu;exact D y u R) F I H
  have d:=w _ _ (h f w' g i E);unfold Oper.wp execOp;simp only[A,resolve,invoke,builtin,xY,xZ,xO,En,jK,pJ,B,C,p];exact d
end
def Qn {α:Type} (S:List α) (k:Nat) (x:α):List α:=S.take k++x::S.drop k
section
variable {α:Type} (S:List α) (k:Nat) (x:α)
theorem NH (h:k<=S.length):(Qn S k x).length=S.length+1:=by simp[Qn];omega
theorem TW (a:0<k) (h:k<=S.length):(Qn S k x)[k-1]'(by rw[NH S k x h];omega)=S[k-1]:=by
 unfold Qn;rw[qF aD];simp
theorem Lj (a:0<k) (h:k<=S.length):S.drop (k-1)=S[k-1]::S.drop k:=by
 have:=jJ (show k-1<S.length by omega);rw[show k-1+1=k by omega]at this;exact this
end
theorem aU {w:World} {base:Nat} {e:TypeId} {size:Nat} {v:Value} {n:Nat} {xs:List Value} (h:w.ownsRow base e size v n xs) (k:0<n):∃g c,v=au g n c/\base<=g/\g<w.heap.size/\n<=c/\c<=maxLen:=by
 rcases h.2 with⟨_,l⟩|⟨g,a,j,rfl,b,d,f,i,_⟩
 .omega
 .exact⟨g,a,rfl,b,(aZ.1 d).1,f,i⟩
theorem aY {w w':World} {base:Nat} {e:TypeId} {size n:Nat} {v:Value} {xs:List Value} (h:w.ownsRow base e size v n xs) (i:∀a,v.ownBlock=some a->w'.heap[a]? =w.heap[a]?):w'.ownsRow base e size v n xs:=by
 have⟨d,f⟩:=h;refine⟨d,?_⟩;rcases f with h|⟨g,b,c,rfl,j,k,r⟩
 .exact .inl h
 .exact .inr ⟨g,b,c,rfl,j,(i g rfl).trans k,r⟩
theorem aC {w:World} {a:Addr} {v:Value} {b:Nat} (h:a.block≠b):(w.setCell a v).heap[b]? =w.heap[b]? :=Below.heap_setCell w a v b (iN h)
theorem l8 {w:World} {base g n c m:Nat} {e:TypeId} {size:Nat} {xs:List Value} (h:w.ownsRow base e size (au g n c) n xs) (p:m<=n):w.ownsRow base e size (au g m c) m (xs.take (m*size)):=by
 have⟨f,i⟩:=h;have o:m*size<=n*size:=o8 _ p;refine⟨by rw[eQ,f];omega,?_⟩;rcases i with⟨h,_⟩|⟨u,s,b,j,k,l,v,r,q,ht⟩
 .cases h
 .injection j with a t d;injection a with a;injection a with a _ _;subst a d;refine .inr ⟨g,c,b,rfl,k,l,aa,r,q,?_⟩;have:=congrArg (List.take (m*size)) ht;rw[AR,Nat.min_eq_left o]at this;exact this
theorem pW {α:Type} {enc:α->List Value} {sz:Nat} (a:∀x,(enc x).length=sz):∀(l:List α) (m:Nat),(l.flatMap enc).take (m*sz)=(l.take m).flatMap enc
 |[],m=>aA
 |x::l,0=>aA
 |x::l,m+1=>by
  rw[lX,List.take_succ_cons,lX,pQ,Nat.one_mul,Nat.add_comm,<-a x,List.take_length_add_append,a x,pW a l m]
structure ax (S:Nat->Prop) (W w':World):Prop where
 os:w'.os=W.os
 tape:w'.tape=W.tape
 output:w'.output=W.output
 size:W.heap.size<=w'.heap.size
 block:∀k,k<W.heap.size->¬S k->w'.heap[k]? =W.heap[k]?
theorem ax.refl (S:Nat->Prop) (W:World):ax S W W:=⟨rfl,rfl,rfl,aB _,fun _ _ _=>rfl⟩
theorem ax.trans {S:Nat->Prop} {W w1 w2:World} (h:ax S W w1) (a:ax S w1 w2):ax S W w2:=
 ⟨a.os.trans h.os,a.tape.trans h.tape,a.output.trans h.output,bD h.size a.size,fun k b c=>(a.block k (bR b h.size) c).trans (h.block k b c)⟩
theorem ax.below {S:Nat->Prop} {W w1 w2:World} (h:ax S W w1) (a:Below w1.heap.size w1 w2):ax S W w2:=
 ⟨a.os.trans h.os,a.tape.trans h.tape,a.output.trans h.output,bD h.size a.size,fun k b c=>(a.block k (bR b h.size)).trans (h.block k b c)⟩
theorem ax.grown {S:Nat->Prop} {W w1 w2:World} {r:Option Nat} (h:ax S W w1) (a:w1.grownBy w2 r) (d:∀k,r=some k->S k\/W.heap.size<=k):ax S W w2:=
 ⟨a.os.trans h.os,a.tape.trans h.tape,a.output.trans h.output,bD h.size a.size,fun k b c=>(a.block k (bR b h.size) (fun e=>by rcases d k e.symm with h9|h9;exact c h9;omega)).trans (h.block k b c)⟩
theorem ax.set {S:Nat->Prop} {W w1:World} (h:ax S W w1) {a:Addr} (v:Value) (c:S a.block\/W.heap.size<=a.block):ax S W (w1.setCell a v):=
 ⟨h.os,h.tape,h.output,aP h.size,fun k d b=>(aC (fun e=>by rcases c with h9|h9;exact b (e▸h9);omega)).trans (h.block k d b)⟩
theorem ax.drew {S:Nat->Prop} {W w1:World} (h:ax S W w1):ax S W w1.drew:=⟨h.os,h.tape,h.output,h.size,h.block⟩
theorem ax.mono {S S':Nat->Prop} {W w1:World} (h:ax S W w1) (d:∀k,S k->S' k):ax S' W w1:=⟨h.os,h.tape,h.output,h.size,fun k c b=>h.block k c fun a=>b (d k a)⟩
theorem ax.toBelow {S:Nat->Prop} {B:Nat} {W w1:World} (h:ax S W w1) (c:B<=W.heap.size) (b:∀k,S k->B<=k):Below B W w1:=⟨h.os,h.tape,h.output,h.size,fun k d=>h.block k aa fun a=>by have:=b k a;omega⟩
theorem bH {w:World} {base b:Nat} {e:TypeId} {size:Nat} {v:Value} {n:Nat} {xs:List Value} (h:w.ownsRow base e size v n xs) (i:b<=base):w.ownsRow b e size v n xs:=by
 have⟨f,a⟩:=h;refine⟨f,?_⟩;rcases a with a|⟨g,c,d,k,j,r⟩
 .exact .inl a
 .exact .inr ⟨g,c,d,k,bD i j,r⟩
section
variable {P:Program} {ops:Array Oper} {o:Oper} {a:Act} {K:Act->World->Prop} {Q:Exit->Act->World->Prop} {E0:Prop}
theorem bC {t e j:TypeId} {size bytes:Nat} {fr:Nat×Nat} (f:eD P t e size bytes) (base:Nat) {v:Value} {n:Nat} {xs:List Value} {w:World} (B:w.ownsRow base e size v n xs) (b:List Value) (I:b.length=size) (k:∀u∈b,u.oneCell'=true)
  (y:o.guard=none) (s x:Operand) (A:o.op=.call {callee:=.builtin .append,args:=#[s,x],argTypes:=#[t,t]}) (C:a.eval s=v) (c:Nat) (F:a.eval x=au c 1 1) (r:w.heap[c]? =some (Obj.cells b.toArray j fr))
  (l:n+1<=maxLen) (q:(n+1)*bytes<=140737488355328) (m:base<=w.heap.size)
  (h:∀g d w',w'.ownsRow base e size (au g (n+1) d) (n+1) (xs++b)->w.grownBy w' v.ownBlock->(v.ownBlock=some g\/g=w.heap.size)->g<w'.heap.size->K (a.put o.dst (au g (n+1) d)) w'):
  if Region.wanted o (yielded ops a.tmps)=true then Oper.wp P o a w K Q else E0:=by
 obtain⟨ht,⟨i,z,hi,G,D,p,H⟩,E⟩:=f;exact step_append_lies w y s x t A base e i z size bytes ht hi G D p H E v n xs C B (ae c 0) 1 1 b F aa (uG (cs:=b.toArray) r) k ai l q m w.heap.size rfl h
theorem bf {f:FuncId} {w:World} {vals:Array Value} {R:Ending->World->Prop} (g:∀args w,(callFunc f args).run P w=.ok (.enter f args) w) (i:o.guard=none) (args:Array Operand) (n:Array TypeId) (k:o.op=.call {callee:=.value (.func f),args:=args,argTypes:=n}) (c:vals=(args.toList.map a.eval).toArray)
  (C:Calls P f vals w R) (h:∀e w',R e w'->∃v,e=.returned v/\K (a.put o.dst v) w'):
  if Region.wanted o (yielded ops a.tmps)=true then Oper.wp P o a w K Q else E0:=by
 have m:Region.wanted o (yielded ops a.tmps)=true:=by simp[Region.wanted,i]
 rw[aN m];unfold Oper.wp;have b:args.map a.eval=vals:=by rw[c,<-Eo]
 have d:(execOp a.eval o).run P w=.ok (.enter f vals) w:=by
  simp[execOp,k,resolve,invoke,b,Act.eval,Deferred.ofValue,g]
 rw[d,Oper.upon_enter];refine C.mono fun e w' l=>?_;obtain⟨v,rfl,j⟩:=h e w' l;exact j
end
theorem ax.alloc {S:Nat->Prop} {W w1:World} (h:ax S W w1) (o:Obj):ax S W (w1.alloc o):=h.below ((aJ _ _).alloc (aB _) _)
theorem aT {S:Nat->Prop} {W W':World} {base:Nat} {e:TypeId} {sz:Nat} {v:Value} {n:Nat} {xs:List Value} (h:W.ownsRow base e sz v n xs) (K:ax S W W') (hS:∀a,v.ownBlock=some a->¬S a):W'.ownsRow base e sz v n xs:=
 aY h fun a e=>K.block a (h.lt a e).2 (hS a e)
theorem bz {S:Nat->Prop} {W W':World} (K:ax S W W') {b:Nat} {o:Obj} (h:W.heap[b]? =some o) (hS:¬S b):W'.heap[b]? =some o:=(K.block b (aZ.1 h).1 hS).trans h
theorem bZ {S:Nat->Prop} {W W':World} (K:ax S W W') {b:Nat} (a:b<W.heap.size) (hS:¬S b):(∀o,W'.cell? (ae b o)=W.cell? (ae b o))/\(∀o,W'.frozen? (ae b o)=W.frozen? (ae b o)):=
 ⟨fun o=>dz (K.block b a hS),fun o=>vY (K.block b a hS)⟩
theorem cB (w:World) (o:Obj):(w.alloc o).heap[w.heap.size]? =some o:=uE w o
theorem IG (w:World) (o a:Obj):((w.alloc o).alloc a).heap[w.heap.size]? =some o:=(bY _ _ _ aA).trans (cB w o)
theorem Ex (w:World) (o a:Obj):((w.alloc o).alloc a).heap[w.heap.size+1]? =some a:=by
 have:=cB (w.alloc o) a;rwa [show(w.alloc o).heap.size=w.heap.size+1 by simp]at this
theorem lg (w:World) (o:Obj):(w.alloc o).drew.heap[w.heap.size]? =some o:=cB w o
theorem Dc (w:World) (o a:Obj):((w.alloc o).alloc a).drew.heap[w.heap.size]? =some o:=IG w o a
theorem De (w:World) (o a:Obj):((w.alloc o).alloc a).drew.heap[w.heap.size+1]? =some a:=Ex w o a
section
variable {W:World} {base:Nat}
theorem bn {e t:TypeId} {sz k X:Nat} {v:Value} {xs:List Value} {cs:Array Value} {fr:Nat×Nat} (h:W.ownsRow base e sz v k xs) (d:W.heap[X]? =some (Obj.cells cs t fr)) (f:t≠e):∀b,v.ownBlock=some b->X≠b:=by
 rintro b c rfl;rcases h.2 with⟨rfl,_⟩|⟨g,i,j,rfl,_,a,_⟩
 .cases c
 .simp only[Value.ownBlock,ji]at c;subst c;rw[d]at a;injection a with a;injection a with _ a _;exact f a
theorem dV {X b:Nat} {cs d:Array Value} {t c:TypeId} {fr e:Nat×Nat} (f:W.heap[X]? =some (Obj.cells cs t fr)) (a:W.heap[b]? =some (Obj.cells d c e)) (h:t≠c):X≠b:=by
 rintro rfl;rw[f]at a;injection a with a;injection a with _ a _;exact h a
theorem bA {f i:Nat} {e c:TypeId} {sz n k k':Nat} {v d:Value} {xs o:List Value} (h:W.ownsRow f e sz v k xs) (h':W.ownsRow i c n d k' o) (m:e≠c):∀a,v.ownBlock=some a->d.ownBlock≠some a:=by
 intro a j b;rcases h'.2 with⟨rfl,_⟩|⟨g,p,q,rfl,_,l,_⟩
 .cases b
 .simp only[Value.ownBlock,ji]at b;subst b;exact bn h l (iN m) _ j rfl
theorem ax.strip {S:Nat->Prop} {w1:World} (h:ax (fun k=>S k\/W.heap.size<=k) W w1):ax S W w1:=⟨h.os,h.tape,h.output,h.size,fun k a b=>h.block k a fun h9=>by rcases h9 with h9|h9;exact b h9;omega⟩
end
end
section
open Go.RowKit Go.Sort Go.Shelf Go.Lib Go.Maps
def dE (l:List Int):List Int:=l.mergeSort fun x y=>decide (x<=y)
theorem iP (l:List Int):(dE l).length=l.length:=(qJ l _).length_eq
theorem zN {w:World} {base n:Nat} {v:Value} {l:List Int} (h:w.ownsRow base 27 1 v n (l.map (Value.int .u32))) (d:n<=1000000):
  aK 64 #[v] w fun e w'=>e=.returned (.tuple #[])/\w'.ownsRow base 27 1 v n ((dE l).map (Value.int .u32))/\ax (fun k=>v.ownBlock=some k) w w':=by
 have c:l.length=n:=by have:=h.1;simpa using this
 have⟨u,j⟩:=h;rcases j with⟨rfl,i⟩|⟨g,f,s,rfl,m,a,x,p,z,ht⟩
 .subst i;refine(FK none 0 w).mono ?_;rintro e w' ⟨rfl,rfl⟩;have:l=[]:=gX c;subst this;exact⟨rfl,by simpa[dE]using dw w' base 27 1,ax.refl _ _⟩
 .subst c;rw[iM]at ht;have o:g<w.heap.size:=(aZ.1 a).1;refine(Sk g 0 f l w (holds_of_block a ht) o aa).mono ?_;rintro e w' ⟨rfl,q,os,rfl⟩;obtain⟨t,-,-,-,b⟩:=rV (l':=dE l) m a aa p aa (iP l) q os;rw[iP]at b;refine⟨rfl,b,rfl,rfl,rfl,?_,fun k y d=>?_⟩
  .show w.heap.size<=((w.heap.modify g _)++os).size;simp
  .have r:g≠k:=fun e=>d (by rw[e];rfl);show((w.heap.modify g _)++os)[k]? =_;rw[xB aD,xG,aM r]
end
end Go.Proofs.YtkjdbndekceffaaGreat
set_option autoImplicit false
namespace Go.Proofs.YtkjdbndekceffaaGreat
open Tryz
section
open Go
inductive FT where
 |leaf (a:Nat)
 |node (l r:FT)
namespace FT
def lo:FT->Nat
 |leaf a=>a
 |node l _=>l.lo
def hi:FT->Nat
 |leaf a=>a+1
 |node _ r=>r.hi
def size:FT->Nat
 |leaf _=>1
 |node l r=>l.size+r.size+1
def ht:FT->Nat
 |leaf _=>0
 |node l r=>max l.ht r.ht+1
def wf:FT->Prop
 |leaf _=>True
 |node l r=>l.wf/\r.wf/\l.hi=r.lo
theorem size_pos (t:FT):0<t.size:=by cases t<;>simp[size]
theorem eT:∀(t:FT),t.wf->t.lo<t.hi
 |leaf a,_=>by simp[lo,hi]
 |node l r,h=>by
  have b:=eT l h.1;have c:=eT r h.2.1;have d:=h.2.2;simp only[lo,hi];omega
theorem size_eq:∀(t:FT),t.wf->t.size+1=2*(t.hi-t.lo)
 |leaf a,_=>by simp only[size,lo,hi];omega
 |node l r,h=>by
  have b:=size_eq l h.1;have c:=size_eq r h.2.1;have d:=h.2.2;have e:=eT l h.1;have f:=eT r h.2.1;simp only[size,lo,hi];omega
end FT
def dM (a n:Nat):FT:=
 if h:n<=1 then .leaf a else .node (dM a (n-n/2)) (dM (a+(n-n/2)) (n/2))
 termination_by n
 decreasing_by all_goals omega
theorem zO (a n:Nat) (h:n<=1):dM a n=.leaf a:=by rw[dM,dif_pos h]
theorem Ey (a n:Nat) (h:1<n):dM a n=.node (dM a (n-n/2)) (dM (a+(n-n/2)) (n/2)):=by rw[dM,dif_neg aa]
theorem bJ (a n:Nat) (h:0<n):(dM a n).wf/\(dM a n).lo=a/\(dM a n).hi=a+n:=by
 induction n using Nat.strongRecOn generalizing a with
 |ind n ih=>
  by_cases b:n<=1
  .rw[zO a n b];exact⟨trivial,rfl,by simp only[FT.hi];omega⟩
  .rw[Ey a n aa];have⟨w1,c,e⟩:=ih (n-n/2) aa a aa;have⟨w2,d,f⟩:=ih (n/2) aa (a+(n-n/2)) aa;exact⟨⟨w1,w2,by rw[e,d]⟩,c,by simp only[FT.hi];rw[f];omega⟩
theorem fe (a n:Nat) (h:0<n):(dM a n).size=2*n-1:=by
 have⟨w,l,r⟩:=bJ a n h;have:=FT.size_eq _ w;omega
theorem vB (a n k:Nat) (h:n<=2^k):(dM a n).ht<=k:=by
 induction k generalizing a n with
 |zero=>rw[zO a n (aP h)];exact aB _
 |succ k ih=>
  by_cases b:n<=1
  .rw[zO a n b];exact aX _
  .rw[Ey a n aa];rw[pK]at h;have c:=ih a (n-n/2) aa;have d:=ih (a+(n-n/2)) (n/2) aa;simp only[FT.ht];omega
structure Nd where
 kind:Int
 l:Int
 r:Int
 fr:Int
 Kc:Int
 item:Int
namespace FT
def nodes:FT->Nat->List Nd
 |leaf a,_=>[⟨1,-1,-1,a,(a:Int)+1,a⟩]
 |node l r,s=>l.nodes s++r.nodes (s+l.size)++[⟨2,((s+l.size:Nat):Int)-1,((s+l.size+r.size:Nat):Int)-1,l.lo,r.hi,0⟩]
theorem iB:∀(t:FT) (s:Nat),(t.nodes s).length=t.size
 |leaf a,_=>rfl
 |node l r,s=>by
  simp only[nodes,size,bS,iB l,iB r,dY,eZ]
def At (N:List Nd) (t:FT) (s:Nat):Prop:=∃A B,N=A++t.nodes s++B/\A.length=s
theorem At.left {N:List Nd} {l r:FT} {s:Nat} (h:At N (node l r) s):At N l s:=by
 have⟨A,B,e,a⟩:=h;exact⟨A,r.nodes (s+l.size)++([⟨2,((s+l.size:Nat):Int)-1,((s+l.size+r.size:Nat):Int)-1,l.lo,r.hi,0⟩]++B),by rw[e,nodes];simp only[dX],a⟩
theorem At.right {N:List Nd} {l r:FT} {s:Nat} (h:At N (node l r) s):At N r (s+l.size):=by
 have⟨A,B,e,a⟩:=h;exact⟨A++l.nodes s,[⟨2,((s+l.size:Nat):Int)-1,((s+l.size+r.size:Nat):Int)-1,l.lo,r.hi,0⟩]++B,by rw[e,nodes];simp only[dX],by rw[bS,iB,a]⟩
def root (t:FT) (s:Nat):Nat:=s+t.size-1
def top:FT->Nat->Nd
 |leaf a,_=>⟨1,-1,-1,a,(a:Int)+1,a⟩
 |node l r,s=>⟨2,((s+l.size:Nat):Int)-1,((s+l.size+r.size:Nat):Int)-1,l.lo,r.hi,0⟩
theorem Ez (t:FT) (s:Nat):(t.top s).fr=t.lo:=by cases t<;>rfl
theorem vC (t:FT) (s:Nat):(t.top s).Kc=t.hi:=by cases t<;>simp[top,hi]
theorem II:∀(t:FT) (s:Nat),∃P,t.nodes s=P++[t.top s]/\P.length+1=t.size
 |leaf a,s=>⟨[],rfl,rfl⟩
 |node l r,s=>⟨l.nodes s++r.nodes (s+l.size),rfl,by simp only[bS,iB,size]⟩
theorem At.get {N:List Nd} {t:FT} {s:Nat} (h:At N t s):N[t.root s]? =some (t.top s):=by
 have⟨A,B,e,a⟩:=h;have⟨P,hP,b⟩:=II t s;unfold root;rw[e,hP,dX,dX,nz aa,nz aa];have:s+t.size-1-A.length-P.length=0:=aa;rw[this];rfl
theorem At.lt {N:List Nd} {t:FT} {s:Nat} (h:At N t s):t.root s<N.length:=(fE.1 h.get).1
def canon:FT->Nat->Nat->Nat->List Nat×Nat
 |t@(leaf _),s,a,b=>if t.hi<=a\/b<=t.lo then([],1)else([t.root s],1)
 |t@(node l r),s,a,b=>if t.hi<=a\/b<=t.lo then([],1)else if a<=t.lo/\t.hi<=b then([t.root s],1)else((l.canon s a b).1++(r.canon (s+l.size) a b).1,(l.canon s a b).2+(r.canon (s+l.size) a b).2+1)
theorem iC {t:FT} {s a b:Nat} (h:t.hi<=a\/b<=t.lo):t.canon s a b=([],1):=by
 cases t<;>(rw[canon,aN h])
theorem rW {t:FT} {s a b:Nat} (c:¬(t.hi<=a\/b<=t.lo)) (h:a<=t.lo/\t.hi<=b):t.canon s a b=([t.root s],1):=by
 cases t with
 |leaf x=>rw[canon,aM c]
 |node l r=>rw[canon,aM c,aN h]
theorem mP {l r:FT} {s a b:Nat} (c:¬((node l r).hi<=a\/b<=(node l r).lo)) (h:¬(a<=(node l r).lo/\(node l r).hi<=b)):(node l r).canon s a b=((l.canon s a b).1++(r.canon (s+l.size) a b).1,(l.canon s a b).2+(r.canon (s+l.size) a b).2+1):=by
 rw[canon,aM c,aM h]
theorem Df {t:FT} {s a b:Nat} (h:a<=t.lo/\t.hi<=b):(t.canon s a b).2=1:=by
 by_cases c:t.hi<=a\/b<=t.lo
 .rw[iC c]
 .rw[rW c h]
theorem Dg (t:FT) (n:t.wf) (s a b:Nat) (h:a<=t.lo\/t.hi<=b):(t.canon s a b).2<=2*t.ht+1:=by
 induction t generalizing s with
 |leaf x=>
  rw[canon];split<;>simp[ht]
 |node l r f g=>
  by_cases c:(node l r).hi<=a\/b<=(node l r).lo
  .rw[iC c];simp
  .by_cases d:a<=(node l r).lo/\(node l r).hi<=b
   .rw[rW c d];simp
   .rw[mP c d];simp only[ht];have⟨w1,w2,e⟩:=n;have o:=eT l w1;have p:=eT r w2;simp only[lo,hi]at h c d;rcases h with h|h
    .have m:=g w2 (s+l.size) (.inl aa);have k:=f w1 s (.inl h);by_cases j:l.hi<=b
     .have:=Df (t:=l) (s:=s) (a:=a) (b:=b) ⟨h,j⟩;omega
     .have:=iC (t:=r) (s:=s+l.size) (a:=a) (b:=b) (.inr aa);rw[this];show(l.canon s a b).2+1+1<=_;omega
    .have m:=g w2 (s+l.size) (.inr h);have k:=f w1 s (.inr aa);by_cases i:a<=r.lo
     .have:=Df (t:=r) (s:=s+l.size) (a:=a) (b:=b) ⟨i,h⟩;omega
     .have:=iC (t:=l) (s:=s) (a:=a) (b:=b) (.inl aa);rw[this];show 1+(r.canon (s+l.size) a b).2+1<=_;omega
theorem AZ (t:FT) (h:t.wf) (s a b:Nat):(t.canon s a b).2<=4*t.ht+1:=by
 induction t generalizing s with
 |leaf x=>
  rw[canon];split<;>simp[ht]
 |node l r i j=>
  by_cases c:(node l r).hi<=a\/b<=(node l r).lo
  .rw[iC c];simp
  .by_cases d:a<=(node l r).lo/\(node l r).hi<=b
   .rw[rW c d];simp
   .rw[mP c d];simp only[ht];have⟨w1,w2,e⟩:=h;have n:=eT l w1;have o:=eT r w2;simp only[lo,hi]at c d;by_cases g:b<=r.lo
    .have:=iC (t:=r) (s:=s+l.size) (a:=a) (b:=b) (.inr g);rw[this];have:=i w1 s;show(l.canon s a b).2+1+1<=_;omega
    .by_cases f:l.hi<=a
     .have:=iC (t:=l) (s:=s) (a:=a) (b:=b) (.inl f);rw[this];have:=j w2 (s+l.size);show 1+(r.canon (s+l.size) a b).2+1<=_;omega
     .have k:=Dg l w1 s a b (.inr aa);have m:=Dg r w2 (s+l.size) a b (.inl aa);show(l.canon s a b).2+(r.canon (s+l.size) a b).2+1<=_;omega
def path:FT->Nat->Nat->List Nat
 |leaf _,s,_=>[s]
 |node l r,s,x=>(node l r).root s::(if x<l.hi then l.path s x else r.path (s+l.size) x)
theorem oF:∀(t:FT) (s x:Nat),(t.path s x).length<=t.ht+1
 |leaf _,_,_=>aB _
 |node l r,s,x=>by
  have a:=oF l s x;have b:=oF r (s+l.size) x;simp only[path,ht,dY];split<;>omega
theorem sQ (t:FT) (s x:Nat):∃P,t.path s x=t.root s::P:=by
 cases t with
 |leaf a=>exact⟨[],by simp[path,root,size]⟩
 |node l r=>exact⟨_,rfl⟩
end FT
end
end Go.Proofs.YtkjdbndekceffaaGreat
set_option autoImplicit false
namespace Go.Proofs.YtkjdbndekceffaaGreat
open Tryz
section
open Go
def nl (YS:List Nat) (t:FT):List Nat:=YS.filter fun i=>decide (t.lo<=i/\i<t.hi)
def EA (yv:Nat->Int) (y1 y2:Int) (L:List Nat):List Nat:=L.filter fun i=>decide (y1<=yv i/\yv i<=y2)
def below (yv:Nat->Int) (y:Int) (L:List Nat):Nat:=L.countP fun i=>decide (yv i<y)
def upto (yv:Nat->Int) (y:Int) (L:List Nat):Nat:=L.countP fun i=>decide (yv i<=y)
theorem sS (YS:List Nat) (l r:FT) (a:(FT.node l r).wf):nl YS l=(nl YS (.node l r)).filter fun i=>decide (i<l.hi):=by
 unfold nl;rw[pg];have d:=FT.eT r a.2.1;have e:=a.2.2;refine oD fun i _=>?_;have b:(FT.node l r).lo=l.lo:=rfl;have c:(FT.node l r).hi=r.hi:=rfl;rw[mO,b,c,mJ,bO,bO,bO];exact⟨fun h=>⟨aa,aa⟩,fun h=>aa⟩
theorem oG (YS:List Nat) (l r:FT) (a:(FT.node l r).wf):nl YS r=(nl YS (.node l r)).filter fun i=>!decide (i<l.hi):=by
 unfold nl;rw[pg];have d:=FT.eT l a.1;have e:=a.2.2;refine oD fun i _=>?_;have b:(FT.node l r).lo=l.lo:=rfl;have c:(FT.node l r).hi=r.hi:=rfl;rw[mO,b,c,mJ,bO,bO,oC,iI];exact⟨fun h=>⟨aa,aa⟩,fun h=>aa⟩
theorem rX {p:Nat->Bool}:∀(L:List Nat),L.Pairwise (fun i k=>p k=true->p i=true)->L.take (L.countP p)=L.filter p
 |[],_=>rfl
 |i::L,h=>by
  rw[lV]at h;cases hp:p i with
  |true=>
   rw[Ik hp,List.take_succ_cons,Il hp,rX L h.2]
  |false=>
   have b:∀k∈L,p k=false:=fun k a=>by
    cases e:p k with
    |false=>rfl
    |true=>have:=h.1 k a e;rw[hp]at this;cases this
   have c:L.countP p=0:=Ed.2 fun k a=>by rw[b k a];decide
   have d:L.filter p=[]:=xD.2 fun k a=>by rw[b k a];decide
   rw[List.countP_cons_of_neg (by rw[hp];decide),c,Ad (by rw[hp];decide),d];rfl
theorem IJ {yv:Nat->Int} {L:List Nat} (a:L.Pairwise fun i k=>yv i<=yv k) (y:Int):L.take (below yv y L)=L.filter fun i=>decide (yv i<y):=
 rX L (a.imp fun h b=>by simp only[bO]at*;omega)
theorem Dh {yv:Nat->Int} {L:List Nat} (a:L.Pairwise fun i k=>yv i<=yv k) (y:Int):L.take (upto yv y L)=L.filter fun i=>decide (yv i<=y):=
 rX L (a.imp fun h b=>by simp only[bO]at*;omega)
theorem FM {p:Nat->Bool} (L:List Nat) (h:L.Pairwise fun i k=>p k=true->p i=true):L.drop (L.countP p)=L.filter fun i=>!p i:=by
 induction L with
 |nil=>rfl
 |cons i L ih=>
  rw[lV]at h;cases hp:p i with
  |true=>
   rw[Ik hp,List.drop_succ_cons,Ad (by rw[hp];decide),ih h.2]
  |false=>
   have a:∀k∈L,p k=false:=fun k hk=>by
    cases c:p k with
    |false=>rfl
    |true=>have:=h.1 k hk c;rw[hp]at this;cases this
   have b:L.countP p=0:=Ed.2 fun k hk=>by rw[a k hk];decide
   rw[List.countP_cons_of_neg (by rw[hp];decide),b,lK,lU.2];intro k hk;rcases gU.1 hk with rfl|hk
   .rw[hp];rfl
   .rw[a k hk];rfl
theorem Di {yv:Nat->Int} {L:List Nat} (a:L.Pairwise fun i k=>yv i<=yv k) (y1 y2:Int) (h:y1<=y2):(L.take (upto yv y2 L)).drop (below yv y1 L)=EA yv y1 y2 L:=by
 rw[Dh a];have e:below yv y1 L=below yv y1 (L.filter fun i=>decide (yv i<=y2)):=by
  unfold below;rw[Ak];refine Ar fun i _=>?_;simp only[mJ,bO];omega
 rw[e];unfold below;rw[FM _ ((a.filter _).imp fun h b=>by simp only[bO]at*;omega),pg];unfold EA;refine oD fun i _=>?_;simp only[<-decide_not,<-Bool.decide_and,uP];omega
theorem below_le {yv:Nat->Int} {L:List Nat} {y1 y2:Int} (h:y1<=y2):below yv y1 L<=upto yv y2 L:=by
 unfold below upto;exact List.countP_mono_left fun i _ a=>by simp only[bO]at*;omega
theorem wh {yv:Nat->Int} {L:List Nat} {y:Int}:upto yv y L<=L.length:=Io
theorem Dj {yv:Nat->Int} {L:List Nat} {y:Int}:below yv y L<=L.length:=Io
theorem Qo {yv:Nat->Int} {L:List Nat} (a:L.Pairwise fun i k=>yv i<=yv k) (y1 y2:Int) (h:y1<=y2):(EA yv y1 y2 L).length+below yv y1 L=upto yv y2 L:=by
 rw[<-Di a y1 y2 h,mK,eQ];have b:=below_le (yv:=yv) (L:=L) h;have c:=wh (yv:=yv) (L:=L) (y:=y2);omega
def lf (m:Nat) (L:List Nat):List Int:=(List.range (L.length+1)).map fun j=>(((L.take j).countP fun i=>decide (i<m):Nat):Int)
theorem rY (m:Nat) (L:List Nat):(lf m L).length=L.length+1:=by simp[lf]
theorem pX (m:Nat) (L:List Nat) (j:Nat) (h:j<(lf m L).length):(lf m L)[j]=(((L.take j).countP fun i=>decide (i<m):Nat):Int):=by simp[lf]
theorem EB {YS:List Nat} {yv:Nat->Int} (l r:FT) (a:(FT.node l r).wf) (b:YS.Pairwise fun i k=>yv i<=yv k) (y:Int):
  ((nl YS (.node l r)).take (below yv y (nl YS (.node l r)))).countP (fun i=>decide (i<l.hi))=below yv y (nl YS l)/\below yv y (nl YS l)+below yv y (nl YS r)=below yv y (nl YS (.node l r)):=by
 have c:(nl YS (.node l r)).Pairwise fun i k=>yv i<=yv k:=b.filter _;rw[IJ c,sS YS l r a,oG YS l r a];generalize nl YS (.node l r)=L;unfold below;constructor
 .rw[Ak,Ak];refine Ar fun i _=>?_;simp only[mJ];exact And.comm
 .induction L with
  |nil=>rfl
  |cons i L ih=>
   simp only[lY,uQ];by_cases h:i<l.hi<;>simp only[h,decide_true,decide_false,AU,Bool.not_false,gK,jN,qM,uQ]<;>omega
theorem FN {YS:List Nat} {yv:Nat->Int} (l r:FT) (a:(FT.node l r).wf) (b:YS.Pairwise fun i k=>yv i<=yv k) (y:Int):
  ((nl YS (.node l r)).take (upto yv y (nl YS (.node l r)))).countP (fun i=>decide (i<l.hi))=upto yv y (nl YS l)/\upto yv y (nl YS l)+upto yv y (nl YS r)=upto yv y (nl YS (.node l r)):=by
 have c:(nl YS (.node l r)).Pairwise fun i k=>yv i<=yv k:=b.filter _;rw[Dh c,sS YS l r a,oG YS l r a];generalize nl YS (.node l r)=L;unfold upto;constructor
 .rw[Ak,Ak];refine Ar fun i _=>?_;simp only[mJ];exact And.comm
 .induction L with
  |nil=>rfl
  |cons i L ih=>
   simp only[lY,uQ];by_cases h:i<l.hi<;>simp only[h,decide_true,decide_false,AU,Bool.not_false,gK,jN,qM,uQ]<;>omega
def down (YS:List Nat) (yv:Nat->Int) (y1 y2:Int) (fr tu:Nat):FT->List Nat×Nat
 |t@(.leaf _)=>if upto yv y2 (nl YS t)<=below yv y1 (nl YS t)\/t.hi<=fr\/tu<=t.lo then([],1)else(EA yv y1 y2 (nl YS t),1)
 |t@(.node l r)=>if upto yv y2 (nl YS t)<=below yv y1 (nl YS t)\/t.hi<=fr\/tu<=t.lo then([],1)else if fr<=t.lo/\t.hi<=tu then(EA yv y1 y2 (nl YS t),1)else((down YS yv y1 y2 fr tu l).1++(down YS yv y1 y2 fr tu r).1,1+(down YS yv y1 y2 fr tu l).2+(down YS yv y1 y2 fr tu r).2)
section
variable {YS:List Nat} {yv:Nat->Int} {y1 y2:Int} {fr tu:Nat}
theorem wm {t:FT} (h:upto yv y2 (nl YS t)<=below yv y1 (nl YS t)\/t.hi<=fr\/tu<=t.lo):down YS yv y1 y2 fr tu t=([],1):=by
 cases t<;>(rw[down,aN h])
theorem EC {t:FT} (h:¬(upto yv y2 (nl YS t)<=below yv y1 (nl YS t)\/t.hi<=fr\/tu<=t.lo)) (b:fr<=t.lo/\t.hi<=tu):down YS yv y1 y2 fr tu t=(EA yv y1 y2 (nl YS t),1):=by
 cases t with
 |leaf a=>rw[down,aM h]
 |node l r=>rw[down,aM h,aN b]
theorem yg {l r:FT} (h:¬(upto yv y2 (nl YS (.node l r))<=below yv y1 (nl YS (.node l r))\/(FT.node l r).hi<=fr\/tu<=(FT.node l r).lo)) (a:¬(fr<=(FT.node l r).lo/\(FT.node l r).hi<=tu)):down YS yv y1 y2 fr tu (.node l r)=((down YS yv y1 y2 fr tu l).1++(down YS yv y1 y2 fr tu r).1,1+(down YS yv y1 y2 fr tu l).2+(down YS yv y1 y2 fr tu r).2):=by
 rw[down,aM h,aM a]
theorem Ll (t:FT) (e:t.wf) (s:Nat):(down YS yv y1 y2 fr tu t).2<=(t.canon s fr tu).2:=by
 induction t generalizing s with
 |leaf a=>
  rw[down,FT.canon];split<;>split<;>simp
 |node l r f g=>
  have d:1<=((FT.node l r).canon s fr tu).2:=by
   rw[FT.canon];split
   .exact aB _
   .split
    .exact aB _
    .exact Nat.le_add_left _ _
  by_cases b:upto yv y2 (nl YS (.node l r))<=below yv y1 (nl YS (.node l r))\/(FT.node l r).hi<=fr\/tu<=(FT.node l r).lo
  .rw[wm b];exact d
  .by_cases c:fr<=(FT.node l r).lo/\(FT.node l r).hi<=tu
   .rw[EC b c];exact d
   .rw[yg b c,FT.mP (fun h=>b (.inr h)) c];have i:=f e.1 s;have j:=g e.2.1 (s+l.size);show 1+_+_<=_+_+1;omega
theorem wo (t:FT) (o:t.wf) (q:YS.Pairwise fun i k=>yv i<=yv k) (s:y1<=y2) (i:Nat):i∈(down YS yv y1 y2 fr tu t).1↔i∈nl YS t/\fr<=i/\i<tu/\y1<=yv i/\yv i<=y2:=by
 have p:∀t:FT,upto yv y2 (nl YS t)<=below yv y1 (nl YS t)->∀i∈nl YS t,¬(y1<=yv i/\yv i<=y2):=fun t h i hi b=>by
  have f:=Qo (q.filter (fun i=>decide (t.lo<=i/\i<t.hi))) y1 y2 s;have d:(EA yv y1 y2 (nl YS t)).length=0:=by unfold nl at h |-;omega
  have n:i∈EA yv y1 y2 (nl YS t):=bF.2 ⟨hi,aP b⟩;rw[gX d]at n;cases n
 have g:∀t:FT,∀i∈nl YS t,t.lo<=i/\i<t.hi:=fun t i hi=>by simpa using(bF.1 hi).2
 induction t with
 |leaf a=>
  by_cases e:upto yv y2 (nl YS (.leaf a))<=below yv y1 (nl YS (.leaf a))\/(FT.leaf a).hi<=fr\/tu<=(FT.leaf a).lo
  .rw[wm e];refine⟨fun h=>absurd h iA,fun⟨c,b,f,d⟩=>?_⟩;have n:=g _ i c;rcases e with h|h|h
   .exact absurd d (p _ h i c)
   .omega
   .omega
  .rw[down,aM e];show i∈EA yv y1 y2 _↔_;unfold EA;rw[bF,bO];refine⟨fun⟨c,b⟩=>⟨c,?_,?_,b⟩,fun⟨c,b,f,d⟩=>⟨c,d⟩⟩
   .have:=g _ i c;simp only[FT.lo,FT.hi]at this e;omega
   .have:=g _ i c;simp only[FT.lo,FT.hi]at this e;omega
 |node l r u v=>
  by_cases e:upto yv y2 (nl YS (.node l r))<=below yv y1 (nl YS (.node l r))\/(FT.node l r).hi<=fr\/tu<=(FT.node l r).lo
  .rw[wm e];refine⟨fun h=>absurd h iA,fun⟨c,b,f,d⟩=>?_⟩;have n:=g _ i c;rcases e with h|h|h
   .exact absurd d (p _ h i c)
   .omega
   .omega
  .by_cases c:fr<=(FT.node l r).lo/\(FT.node l r).hi<=tu
   .rw[EC e c];show i∈EA yv y1 y2 _↔_;unfold EA;rw[bF,bO];refine⟨fun⟨b,f⟩=>⟨b,?_,?_,f⟩,fun⟨b,_,_,d⟩=>⟨b,d⟩⟩
    .have:=g _ i b;omega
    .have:=g _ i b;omega
   .rw[yg e c];show i∈_++_↔_;have j:=u o.1;have m:=v o.2.1;rw[sS YS l r o,bF,bO]at j;rw[oG YS l r o,bF,oC,iI]at m;constructor
    .intro h;rcases bP.1 h with h|h
     .exact⟨(j.1 h).1.1,(j.1 h).2⟩
     .exact⟨(m.1 h).1.1,(m.1 h).2⟩
    .rintro⟨b,f⟩;by_cases d:i<l.hi
     .exact bP.2 (.inl (j.2 ⟨⟨b,d⟩,f⟩))
     .exact bP.2 (.inr (m.2 ⟨⟨b,d⟩,f⟩))
theorem A7 (t:FT) (b:t.wf) (d:YS.Nodup) (f:YS.Pairwise fun i k=>yv i<=yv k) (g:y1<=y2):(down YS yv y1 y2 fr tu t).1.Nodup:=by
 have c:∀(L:List Nat) (p:Nat->Bool),L.Nodup->(L.filter p).Nodup:=fun L p h=>lT _ h
 induction t with
 |leaf a=>
  rw[down];split
  .exact nS
  .exact c _ _ (c _ _ d)
 |node l r o q=>
  rw[down];split
  .exact nS
  .split
   .exact c _ _ (c _ _ d)
   .refine mI.2 ⟨o b.1,q b.2.1,fun i hi k n e=>?_⟩;subst e;have j:=((wo l b.1 f g i).1 hi).1;have m:=((wo r b.2.1 f g i).1 n).1;have s:l.lo<=i/\i<l.hi:=by simpa using(bF.1 j).2
    have u:r.lo<=i/\i<r.hi:=by simpa using(bF.1 m).2
    have:=b.2.2;omega
end
end
section
abbrev Pt:=Int×Int×Int
def kE (p q:Pt):Prop:=p.1<q.1\/p.1=q.1/\p.2.2<q.2.2
def uf (p q:Pt):Prop:=p.2.1<q.2.1\/p.2.1=q.2.1/\p.2.2<q.2.2
def A8 (q p:Pt):Bool:=decide (p.1<=q.1)&&decide (p.2.1<=q.2.1)&&(decide (q.1≠p.1)||decide (q.2.1≠p.2.1))
def um (l:List Pt) (p:Pt):Bool:=l.any fun q=>A8 q p
instance:DecidableRel kE:=fun p q=>by unfold kE;exact inferInstance
instance:DecidableRel uf:=fun p q=>by unfold uf;exact inferInstance
theorem wu (q p:Pt):A8 q p=true↔p.1<=q.1/\p.2.1<=q.2.1/\(q.1≠p.1\/q.2.1≠p.2.1):=by
 simp[A8,and_assoc]
theorem pY (q p:Pt):A8 q p=false↔¬(p.1<=q.1/\p.2.1<=q.2.1/\(q.1≠p.1\/q.2.1≠p.2.1)):=by
 rw[<-wu];simp
theorem p8 (l:List Pt) (p:Pt):um l p=true↔∃q∈l,A8 q p=true:=by simp[um]
theorem p9 (l:List Pt) (p:Pt):um l p=false↔∀q∈l,A8 q p=false:=by simp[um]
theorem oH {p q r:Pt} (h:kE p q) (a:kE q r):kE p r:=by unfold kE at*;omega
theorem sU (p:Pt):¬kE p p:=by unfold kE;omega
theorem Dk {p q:Pt} (h:kE p q) (a:kE q p):False:=by unfold kE at*;omega
theorem sV {p q r:Pt} (h:uf p q) (a:uf q r):uf p r:=by unfold uf at*;omega
theorem wz (p:Pt):¬uf p p:=by unfold uf;omega
theorem Dl {p q:Pt} (h:uf p q) (a:uf q p):False:=by unfold uf at*;omega
theorem sW {p q r:Pt} (h:A8 p q=true) (a:A8 q r=true):A8 p r=true:=by
 rw[wu]at*;omega
theorem Ke (p:Pt):A8 p p=false:=by rw[pY];omega
theorem lL {α:Type} {R:α->α->Prop} (c:∀p,¬R p p) {l:List α} (h:l.Pairwise R):l.Nodup:=by
 show l.Pairwise (·≠·);exact h.imp fun{a b} d e=>by subst e;exact c a d
theorem qa {α:Type} {R:α->α->Prop} (e:∀p,¬R p p) (has:∀{p q},R p q->R q p->False) {a b:List α} (c:a.Pairwise R) (d:b.Pairwise R) (h:∀p,p∈a↔p∈b):a=b:=by
 have hp:a.Perm b:=(za (lL e c) (lL e d)).2 h;exact Ii (fun _ _ _ _ f g=>(has f g).elim) c d hp
theorem Lm {α:Type} {p q:α->Bool} {l:List α} (h:∀x∈l,p x=true->q x=true) {y:α} (hy:y∈l) (b:q y=true) (c:p y=false):l.countP p<l.countP q:=by
 induction l with
 |nil=>cases hy
 |cons x l ih=>
  have f:l.countP p<=l.countP q:=List.countP_mono_left fun z a=>h z (by simp[a]);rw[uQ,uQ];rcases gU.1 hy with rfl|hy
  .simp[b,c];omega
  .have:=ih (fun z a=>h z (by simp[a])) hy;have e:=h x aA;cases d:p x
   .simp;split<;>omega
   .simp[e d];omega
theorem FO (S:List Pt):∀(n:Nat) (q:Pt),q∈S->S.countP (fun r=>A8 r q)<=n->∃t∈S,(t=q\/A8 t q=true)/\um S t=false
 |0,q,c,h=>by
  refine⟨q,c,.inl rfl,?_⟩;rw[p9];intro r b;have d:S.countP (fun r=>A8 r q)=0:=aa;rw[Ed]at d;simpa using d r b
 |n+1,q,c,h=>by
  cases e:um S q
  .exact⟨q,c,.inl rfl,e⟩
  .obtain⟨r,b,a⟩:=(p8 S q).1 e;have i:S.countP (fun s=>A8 s r)<S.countP (fun s=>A8 s q):=
    Lm (fun s _ g=>sW g a) b a (Ke r)
   have⟨t,ht,h1,f⟩:=FO S n r b aa;refine⟨t,ht,.inr ?_,f⟩;rcases h1 with rfl|h1
   .exact a
   .exact sW h1 a
theorem Sm (S:List Pt) (q:Pt) (a:q∈S):∃t∈S,(t=q\/A8 t q=true)/\um S t=false:=FO S _ q a (aB _)
def Dm (S:List Pt):List Pt:=S.filter fun p=>!um S p
theorem Qp (S:List Pt) (p:Pt):p∈Dm S↔p∈S/\um S p=false:=by simp[Dm]
theorem IK {S:List Pt} (h:S.Pairwise kE):(Dm S).Pairwise kE:=h.sublist Ee
def nD (l T:List Pt):Prop:=T.Pairwise kE/\∀p,p∈T↔p∈l/\um l p=false
theorem nD.unique {l A B:List Pt} (a:nD l A) (b:nD l B):A=B:=
 qa sU Dk a.1 b.1 fun p=>by rw[a.2,b.2]
theorem Dn {l m:List Pt} (h:∀p,p∈l↔p∈m) (p:Pt):um l p=um m p:=by
 rw[mO,p8,p8];constructor
 .rintro⟨q,b,a⟩;exact⟨q,(h q).1 b,a⟩
 .rintro⟨q,b,a⟩;exact⟨q,(h q).2 b,a⟩
theorem nD.congr {l m T:List Pt} (h:∀p,p∈l↔p∈m) (a:nD l T):nD m T:=
 ⟨a.1,fun p=>by rw[a.2,h,Dn h]⟩
theorem Dp {S:List Pt} (h:S.Pairwise kE):nD S (Dm S):=⟨IK h,Qp S⟩
theorem wB {l T:List Pt} (c:nD l T) (p:Pt):um T p=um l p:=by
 rw[mO,p8,p8];constructor
 .rintro⟨q,b,a⟩;exact⟨q,((c.2 q).1 b).1,a⟩
 .rintro⟨q,b,a⟩;have⟨t,ht,h1,d⟩:=Sm l q b;refine⟨t,(c.2 t).2 ⟨ht,d⟩,?_⟩;rcases h1 with rfl|h1
  .exact a
  .exact sW h1 a
def stp (p:Pt):List Pt->List Pt
 |[]=>[p]
 |t::T=>if p.2.1<t.2.1\/p.2.1=t.2.1/\p.1<t.1 then t::T else if p.1=t.1/\t.2.1<p.2.1 then p::(t::T).dropWhile (fun q=>decide (q.1=p.1))else p::t::T
def rZ (S:List Pt):List Pt:=S.foldr stp []
theorem mQ (c:Int):∀(T:List Pt),T.Pairwise (fun p q=>p.1<=q.1)->(∀q∈T,c<=q.1)->T.dropWhile (fun q=>decide (q.1=c))=T.filter fun q=>decide (q.1≠c)
 |[],_,_=>rfl
 |t::T,h,b=>by
  rw[lV]at h;by_cases e:t.1=c
  .rw[List.dropWhile_cons_of_pos (by simp[e]),Ad (by simp[e])];exact mQ c T h.2 fun q a=>b q (by simp[a])
  .rw[List.dropWhile_cons_of_neg (by simp[e]),Il (by simp[e])];congr 1;rw[lU.2];intro q a;have d:=h.1 q a;have f:=b t aA;simp;omega
theorem Dq (S:List Pt) (h:S.Pairwise kE):rZ S=Dm S:=by
 induction S with
 |nil=>rfl
 |cons p S ih=>
  rw[lV]at h;have⟨hp,hS⟩:=h;have d:=Dp hS;show stp p (rZ S)=Dm (p::S);rw[ih hS];generalize A:Dm S=T at*;have y:∀q∈S,p.1<=q.1:=fun q c=>by have:=hp q c;unfold kE at this;omega
  have v:∀q,um (p::S) q=(A8 p q||um S q):=fun q=>rfl;have F:um (p::S) p=um S p:=by rw[v,Ke];rfl
  have C:Dm (p::S)=(if um S p=true then[]else[p])++T.filter fun q=>!A8 p q:=by
   rw[<-A];unfold Dm;rw[lY,F,pg];have e:(fun q=>!um (p::S) q)=fun q=>(!A8 p q&&!um S q):=by
    funext q;rw[v,Bool.not_or]
   rw[e];cases um S p<;>simp
  rw[C];cases T with
  |nil=>
   have z:um S p=false:=by
    rw[<-wB d];rfl
   simp[stp,z]
  |cons t T=>
   have s:=d.1;have o:=((d.2 t).1 aA).1;have x:=((d.2 t).1 aA).2;have I:=y t o;have k:∀q∈t::T,t.1<=q.1/\q.2.1<=t.2.1:=by
    intro q c;rcases gU.1 c with rfl|hq'
    .exact⟨vo _,vo _⟩
    .have D:=(lV.1 s).1 q hq';have m:=(p9 _ _).1 x q ((d.2 q).1 c).1;rw[pY]at m;unfold kE at D;have n:=(p9 _ _).1 ((d.2 q).1 c).2 t o;rw[pY]at n;omega
   have u:um S p=true↔(p.2.1<t.2.1\/p.2.1=t.2.1/\p.1<t.1):=by
    rw[<-wB d,p8];constructor
    .rintro⟨q,c,f⟩;have l:=k q c;rw[wu]at f;by_cases e:p.2.1=t.2.1/\p.1=t.1
     .have m:=(p9 _ _).1 x q ((d.2 q).1 c).1;rw[pY]at m;omega
     .omega
    .intro l;exact⟨t,aA,by rw[wu];omega⟩
   by_cases g:p.2.1<t.2.1\/p.2.1=t.2.1/\p.1<t.1
   .have j:um S p=true:=u.2 g;rw[aN j,fO];have i:stp p (t::T)=t::T:=by simp only[stp];rw[aN g]
    rw[i,lU.2];intro q c;have G:=((d.2 q).1 c).2;cases E:A8 p q
    .rfl
    .obtain⟨r,H,f⟩:=(p8 S p).1 j;have:=(p9 _ _).1 G r H;rw[sW f E]at this;cases this
   .have j:¬um S p=true:=fun h=>g (u.1 h);rw[aM j,D9];by_cases w:p.1=t.1/\t.2.1<p.2.1
    .have i:stp p (t::T)=p::(t::T).dropWhile (fun q=>decide (q.1=p.1)):=by simp only[stp];rw[aM g,aN w]
     rw[i,mQ p.1 (t::T) (s.imp fun{a b} B=>by unfold kE at B;omega) (fun q c=>by have:=k q c;omega)];congr 1;refine oD fun q c=>?_;have l:=k q c;by_cases e:q.1=p.1
     .have f:A8 p q=true:=by rw[wu];omega
      simp[e,f]
     .have f:A8 p q=false:=by rw[pY];have:=y q ((d.2 q).1 c).1;omega
      simp[e,f]
    .have i:stp p (t::T)=p::t::T:=by simp only[stp];rw[aM g,aM w]
     rw[i,lU.2];intro q c;have l:=k q c;have n:=(p9 _ _).1 ((d.2 q).1 c).2 t o;rw[pY]at n;have f:A8 p q=false:=by rw[pY];omega
     simp[f]
def CF (p q:Pt):Prop:=p.1=q.1/\p.2.1=q.2.1/\p.2.2<q.2.2\/p.1<q.1/\q.2.1<p.2.1
instance:DecidableRel CF:=fun p q=>by unfold CF;exact inferInstance
theorem Lp {p q r:Pt} (h:CF p q) (a:CF q r):CF p r:=by unfold CF at*;omega
theorem oI {α:Type} {R:α->α->Prop} (ht:∀a b c,R a b->R b c->R a c):∀l:List α,(∀i (h:i+1<l.length),R l[i] l[i+1])->l.Pairwise R
 |[],_=>.nil
 |[x],_=>List.pairwise_singleton _ _
 |x::y::l,h=>by
  have ih:=oI ht (y::l) fun i hi=>by
   have:=h (i+1) (aP hi);simpa using this
  rw[lV];refine⟨fun z hz=>?_,ih⟩;have d:R x y:=by simpa using h 0 aA
  rcases gU.1 hz with rfl|hz
  .exact d
  .exact ht _ _ _ d ((lV.1 ih).1 z hz)
theorem eU {α:Type} {R:α->α->Prop} {l:List α} (h:l.Pairwise R) {p q:α} (hp:p∈l) (b:q∈l):p=q\/R p q\/R q p:=by
 obtain⟨i,hi,rfl⟩:=jb hp;obtain⟨j,a,rfl⟩:=jb b;rcases Nat.lt_trichotomy i j with h1|h1|h1
 .exact .inr (.inl (gQ.1 h i j hi a h1))
 .subst h1;exact .inl rfl
 .exact .inr (.inr (gQ.1 h j i a hi h1))
def qb (l:List Pt):Bool:=decide (∀i,i<l.length-1->CF (l.getD i (0,0,0)) (l.getD (i+1) (0,0,0)))
theorem nE (l:List Pt):qb l=true↔∀i (h:i+1<l.length),CF l[i] l[i+1]:=by
 unfold qb;rw[decide_eq_true_iff];constructor
 .intro h i hi;have:=h i aa;simpa[hi,show i<l.length by omega]using this
 .intro h i hi;have:=h i aa;simpa[show i+1<l.length by omega,show i<l.length by omega]using this
theorem oJ {l:List Pt} (h:qb l=true):l.Pairwise CF:=oI (R:=CF) (fun _ _ _=>Lp) l ((nE l).1 h)
theorem FP (l:List Pt):qb l=true↔nD l l:=by
 constructor
 .intro h;have hp:=oJ h;refine⟨hp.imp fun{a b} f=>by unfold CF at f;unfold kE;omega,fun p=>⟨fun c=>⟨c,?_⟩,fun h=>h.1⟩⟩;rw[p9];intro q g;rw[pY];rcases eU hp c g with rfl|h1|h1
  .omega
  .unfold CF at h1;omega
  .unfold CF at h1;omega
 .intro h;rw[nE];intro i hi;have h1:=gQ.1 h.1 i (i+1) aa hi aa;have d:=(p9 _ _).1 ((h.2 l[i]).1 (bB _)).2 l[i+1] (bB _);have e:=(p9 _ _).1 ((h.2 l[i+1]).1 (bB _)).2 l[i] (bB _);rw[pY]at d e;unfold kE at h1;unfold CF;omega
def ids (l:List Pt):List Int:=l.map fun p=>p.2.2
def lH (l:List Pt):Bool:=decide (ids l).Nodup
def Sn (p q:Pt):Bool:=!decide (kE q p)
def eP (l:List Pt):List Pt:=l.mergeSort Sn
theorem dN (l:List Pt):(eP l).Perm l:=qJ l Sn
theorem wC (l:List Pt) (p:Pt):p∈eP l↔p∈l:=(dN l).mem_iff
theorem Qq {l:List Pt} (h:(ids l).Nodup) {p q:Pt} (hp:p∈l) (b:q∈l) (e:p.2.2=q.2.2):p=q:=by
 have a:l.Pairwise fun p q=>p.2.2≠q.2.2:=dA.1 h;rcases eU a hp b with h1|h1|h1
 .exact h1
 .exact absurd e h1
 .exact absurd e.symm h1
theorem fT {l:List Pt} (h:(ids l).Nodup):(eP l).Pairwise kE:=by
 have d:(eP l).Pairwise fun p q=>Sn p q=true:=q9 (le:=Sn) (fun p q r j k=>by simp only[Sn,oC,iI]at*;unfold kE at*;omega) (fun p q=>by simp only[Sn,AB,oC,iI];unfold kE;omega) l;have c:(ids (eP l)).Nodup:=((dN l).map _).nodup_iff.2 h;have e:(eP l).Pairwise fun p q=>p.2.2≠q.2.2:=by
  unfold ids at c;exact dA.1 c
 refine(d.and e).imp fun{a b} g=>?_;have⟨f,i⟩:=g;simp only[Sn,oC,iI]at f;unfold kE at*;omega
def bM (l:List Pt):List Pt:=Dm (eP l)
theorem lh {l:List Pt} (h:(ids l).Nodup):nD l (bM l):=(Dp (fT h)).congr (wC l)
theorem Kg {l S:List Pt} (h:(ids l).Nodup) (hS:S.Pairwise kE) (a:∀p,p∈S↔p∈l):S=eP l:=
 qa sU Dk hS (fT h) fun p=>by rw[a,wC]
def bsrch (p:Nat->Bool):Nat->Nat->Nat->Nat->Nat×Nat
 |0,lo,_,k=>(lo,k)
 |f+1,lo,hi,k=>if lo<hi then(if p (lo+(hi-lo)/2)then bsrch p f lo (lo+(hi-lo)/2) (k+1)else bsrch p f (lo+(hi-lo)/2+1) hi (k+1))else(lo,k)
theorem IL (p:Nat->Bool):∀(f g lo hi k:Nat),hi-lo<=f->hi-lo<=g->bsrch p f lo hi k=bsrch p g lo hi k:=by
 intro f
 induction f with
 |zero=>intro g lo hi k a b;cases g with
  |zero=>rfl
  |succ g=>simp[bsrch,show¬lo<hi by omega]
 |succ f ih=>intro g lo hi k a b;cases g with
  |zero=>simp[bsrch,show¬lo<hi by omega]
  |succ g=>
   simp only[bsrch];by_cases h:lo<hi
   .rw[aN h,aN h];rw[ih g _ _ _ aa aa,ih g _ _ _ aa aa]
   .rw[aM h,aM h]
theorem ED (p:Nat->Bool):∀(f lo hi k:Nat),hi-lo<=f->(bsrch p f lo hi k).2<=k+(hi-lo)/\(lo<=hi->lo<=(bsrch p f lo hi k).1/\(bsrch p f lo hi k).1<=hi):=by
 intro f
 induction f with
 |zero=>intro lo hi k a;simp[bsrch]
 |succ f ih=>
  intro lo hi k a;simp only[bsrch];by_cases h:lo<hi
  .rw[aN h];split
   .have:=ih lo (lo+(hi-lo)/2) (k+1) aa;omega
   .have:=ih (lo+(hi-lo)/2+1) hi (k+1) aa;omega
  .rw[aM h];simp
def aV (l:List Int) (x:Int):Nat×Nat:=bsrch (fun i=>decide (x<=l.getD i 0)) l.length 0 l.length 0
def aR (l:List Int) (x:Int):Nat×Nat:=bsrch (fun i=>decide (x<l.getD i 0)) l.length 0 l.length 0
end
section
open Go
abbrev bV (R:List Pt) (i:Nat):Pt:=R.getD i (0,0,0)
def jI (R:List Pt) (i:Nat):Int:=(bV R i).2.2
def lI (R:List Pt) (i:Nat):Int:=(bV R i).2.1
theorem yh {l:List Nat} {n:Nat} (h:l.Nodup) (c:∀k∈l,k<n):l.length<=n:=by
 induction n generalizing l with
 |zero=>
  cases l with
  |nil=>exact aB _
  |cons x l=>exact absurd (c x nP) (kC _)
 |succ n ih=>
  have f:=ih (l:=l.erase n) (h.erase n) fun k e=>by
   have b:=(List.Nodup.mem_erase_iff h).1 e;have d:=c k b.2;have g:=b.1;omega
  have b:=List.length_erase_le (a:=n) (l:=l);have d:l.length<=(l.erase n).length+1:=by
   rw[List.length_erase];split<;>omega
  omega
structure cu (R:List Pt) (gone:List Bool) (YS:List Nat):Prop where
 A9:R.Pairwise kE
 ids:(ids R).Nodup
 Ug:gone.length=R.length
 nodup:YS.Nodup
 live:∀i,i∈YS↔gone[i]? =some false
 TY:YS.Pairwise fun i k=>uf (bV R i) (bV R k)
theorem cu.lt {R:List Pt} {gone:List Bool} {YS:List Nat} (h:cu R gone YS) {i:Nat} (hi:i∈YS):i<R.length:=by
 have:=(fE.1 ((h.live i).1 hi)).1;have:=h.Ug;omega
theorem cu.le {R:List Pt} {gone:List Bool} {YS:List Nat} (h:cu R gone YS):YS.Pairwise fun i k=>lI R i<=lI R k:=
 h.TY.imp fun h=>by unfold uf at h;unfold lI;omega
theorem cu.len {R:List Pt} {gone:List Bool} {YS:List Nat} (h:cu R gone YS):YS.length<=R.length:=by
 exact yh h.nodup fun k a=>h.lt a
theorem cu.top {R:List Pt} {gone:List Bool} {YS:List Nat} (h:cu R gone YS) (c:0<R.length):nl YS (dM 0 R.length)=YS:=by
 obtain⟨-,a,b⟩:=bJ 0 R.length c;unfold nl;refine lU.2 fun i hi=>?_;have:=h.lt hi;rw[a,b];simp;omega
def bU (R:List Pt):List Int:=R.map fun p=>p.1
def jl (R:List Pt) (YS:List Nat):List Int:=YS.map (lI R)
def lM (R:List Pt) (YS:List Nat) (x1 x2 y1 y2:Int):List Nat×Nat:=
 if R=[]\/x2<x1\/y2<y1 then([],0)else
  ((down YS (lI R) y1 y2 (aV (bU R) x1).1 (aR (bU R) x2).1 (dM 0 R.length)).1,
   (aV (bU R) x1).2+(aR (bU R) x2).2+(aV (jl R YS) y1).2+(aR (jl R YS) y2).2+(down YS (lI R) y1 y2 (aV (bU R) x1).1 (aR (bU R) x2).1 (dM 0 R.length)).2)
end
section
open Go.RowKit Go.Shelf
attribute [local go_sem] Oper.semAt_some
def NI (Bn:Nat) (W W':World):Prop:=∀o,W'.cell? (ae Bn o)=W.cell? (ae Bn o)
theorem NI.trans {a:Nat} {A B C:World} (h:NI a A B) (b:NI a B C):NI a A C:=fun o=>(b o).trans (h o)
theorem FQ {α:Type} (enc:α->Int) (L R:α) (F:Fence) (n:Nat) (hF:F.fn 364) (t:F.round=none) (K:1<=n) (a:Nat) (w:World) (b:a<w.heap.size) (j:w.cell? (ae a 1)=some (af (enc L))) (k:w.cell? (ae a 2)=some (af (enc R))) (I:(enc L !=-1)=true) (J:(enc R !=-1)=true):
  SeqStopsK F n prog 364 #[aj a] (fun v:α=>#[af (enc v)]) (NI a) (fun xs=>xs=[L,R]) (fun f=>f=[L]\/f=[L,R]) 2 w:=fun l z A W c _ _ d i=>by
 have H:W.cell? (ae a 1)=some (af (enc L)):=(c.cell (p:=(ae a 1)) b).trans j;have h:W.cell? (ae a 2)=some (af (enc R)):=(c.cell (p:=(ae a 2)) b).trans k;refine callsIn_of_wp func364 rfl hF ?_ t;simp only[ntmps364,List.size_toArray,List.length_cons,List.length_nil,Nat.reduceAdd,Nat.reduceSub,Array.replicate_succ,Array.replicate_zero,List.push_toArray,List.append_toArray,List.nil_append,List.cons_append];have⟨f1,t1,C,E,y,q⟩:=d [] L W i aA;dsimp only at y
 gi_wp2
 refine q.mono ?_;rintro e g (⟨rfl,m,s⟩|⟨rfl,u⟩)
 .have d2:=(s 2).trans h;have⟨f2,t2,D,G,M,r⟩:=d [L] R g m aA
  gi_wp2
  refine r.mono ?_;rintro e B (⟨rfl,o,_⟩|⟨rfl,x⟩)
  .gi_wp2
   go_end0
   exact⟨⟨_,rfl⟩,.inl ⟨[L,R],rfl,o⟩⟩
  .gi_wp2
   go_end0
   exact⟨⟨_,rfl⟩,.inr ⟨[L,R],.inr rfl,x⟩⟩
 .gi_wp2
  refine kY (kJ rfl _ _ _) rfl ?_;exact⟨⟨_,rfl⟩,.inr ⟨[L],.inl rfl,u⟩⟩
theorem Kh {α:Type} (enc:α->Int) (F:Fence) (n:Nat) (hF:F.fn 364) (g:F.round=none) (q:1<=n) (a:Nat) (w:World) (b:a<w.heap.size) (e:w.cell? (ae a 1)=some (af (-1))) (f:w.cell? (ae a 2)=some (af (-1))):
  SeqStopsK F n prog 364 #[aj a] (fun v:α=>#[af (enc v)]) (NI a) (fun xs=>xs=[]) (fun r=>False) 0 w:=fun l i j W c _ _ o d=>by
 have k:W.cell? (ae a 1)=some (af (-1)):=(c.cell (p:=(ae a 1)) b).trans e;have m:W.cell? (ae a 2)=some (af (-1)):=(c.cell (p:=(ae a 2)) b).trans f;refine AV func364 rfl hF ?_ g;simp only[ntmps364,qN,dY,eZ,Nat.reduceAdd,Nat.reduceSub,qG,qH,qO,qK,fO,mH]
 gi_wp2
 refine⟨fun _ h=>(by cases h),?_⟩
 gi_wp2
 go_end0
 exact⟨⟨_,rfl⟩,.inl ⟨[],rfl,d⟩⟩
def oK (d:Nd):List Value:=[.int .u8 d.kind,.int .i64 d.l,.int .i64 d.r,.int .i64 d.fr,.int .i64 d.Kc,.int .i64 0,.int .i64 d.item]
abbrev Ba (k l r f t i:Int):Value:=.agg #[.int .u8 k,af l,af r,af f,af t,af 0,af i]
theorem jq (d:Nd):(oK d).length=7:=rfl
theorem Ki (d:Nd):∀u∈oK d,u.oneCell'=true:=by intro u hu;simp[oK]at hu;rcases hu with rfl|rfl|rfl|rfl|rfl|rfl|rfl<;>rfl
theorem Sq:eD prog 141 163 7 56:=.mk' (z:=.agg #[.int .u8 0,af 0,af 0,af 0,af 0,af 0,af 0]) underlying141 aO rfl ai
abbrev ll (k l r f t i:Int):Obj:=.cells #[.int .u8 k,af l,af r,af f,af t,af 0,af i] 163
theorem zP (F:Fence) (n:Nat) (hF:F.fn 343) (a:F.round=none) (k l r f t i:Int) (w:World):
  CallsIn F n prog 343 #[Ba k l r f t i] w fun e w'=>e=.returned (.func (.func 364) #[] #[aj w.heap.size])/\w'=w.alloc (ll k l r f t i):=by
 refine AV func343 rfl hF ?_ a;simp only[ntmps343,qN,dY,eZ,Nat.reduceAdd,Nat.reduceSub,qG,qH,qO,qK,fO,mH]
 gi_wp2
 go_ret;exact⟨rfl,rfl⟩
def marked {m:Nat} (kid:List Bool) (xs:List {q:Nat // q<m}):List Bool:=xs.foldl (fun l x=>l.set x.1 true) kid
theorem IM {m:Nat} (a:List Bool) (xs:List {q:Nat // q<m}):(marked a xs).length=a.length:=by
 unfold marked
 induction xs generalizing a with
 |nil=>rfl
 |cons x xs ih=>rw[uT,ih,kI]
theorem FR {m:Nat} (a:List Bool) (xs:List {q:Nat // q<m}) (x:{q:Nat // q<m}):marked a (xs++[x])=(marked a xs).set x.1 true:=by unfold marked;rw[List.foldl_append];rfl
theorem zQ {a B:Nat} (h:a<B) (W:World) (l:Nat) (o b:Obj) (d:B<=l):NI a W (W.putObj l b):=fun q=>dz (World.putObj_heap_other (fun e=>by have c:a=l:=(by first|exact e|exact e.symm);omega))
def Sr (w0:World) (bx g:Nat) (kv:Value) (m base:Nat) (kid:List Bool) (pre:List {q:Nat // q<m}) (W:World):Prop:=
 W.heap[bx]? =some (.cells #[kv] 95 (0,0))/\W.ownsRow base 4 1 kv m ((marked kid pre).map Value.bool)/\ax (fun k=>k=g) w0 W
theorem NJ {w0:World} {B bx g m base:Nat} {u:Value} {r:List Bool} (n:w0.heap.size<=B):OwnFrom B (Sr w0 bx g u m base r):=by
 rintro s W W' z ⟨c,d,l⟩ h j;have i:∀(b:Nat) cs t fr,W.heap[b]? =some (.cells cs t fr)->W'.heap[b]? =W.heap[b]? :=fun b cs t fr f=>h.block b (aZ.1 f).1 fun e=>by
  obtain⟨-,o,a,p⟩:=j b e.symm;rw[f]at a;injection a with a;subst a;cases p
 refine⟨(i _ _ _ _ c).trans c,aY d fun y e=>?_,l.grown h fun k e=>.inr (bD n (j k e).1)⟩;rcases d.2 with⟨rfl,_⟩|⟨x,v,w,rfl,_,q,_⟩
 .cases e
 .simp only[Value.ownBlock,ji]at e;subst e;exact i _ _ _ _ q
theorem FU (W:World) (v:Value) (t:TypeId):∀j u,[v][j]? =some u->(W.alloc (.cells #[v] t)).cell? (((ae W.heap.size 0):Addr).add j)=some u:=by
 intro j u hu;have a:((ae W.heap.size 0):Addr).add j=(ae W.heap.size j):=by unfold Addr.add;split<;>simp_all
 rw[a,ek _ _ _ _ (by rfl)];simpa using hu
def NK (w:World) (base m:Nat) (kv:Value) (kid:List Bool) (e:Ending) (w':World):Prop:=
 ∃v',e=.returned v'/\w'.ownsRow base 4 1 v' (m+1) ((kid++[false]).map Value.bool)/\(v'.ownBlock=kv.ownBlock\/∃b,v'.ownBlock=some b/\w.heap.size<=b)/\ax (fun k=>kv.ownBlock=some k) w w'
theorem IP (F:Fence) (n:Nat) (hF:F.fn 320) (X:F.fn 343) (I:F.fn 364) (y:F.round=none) (aR:3<=n) (k f t r:Int) (i j:Nat) (g m a base:Nat) (b:List Bool) (w:World) (al:b.length=m) (aP:m<=100000) (hi:i<m) (ak:j<m)
  (M:w.ownsRow base 4 1 (au g m a) m (b.map Value.bool)) (aM:base<=w.heap.size):
  CallsIn F n prog 320 #[Ba k i j f t r,au g m a] w (NK w base m (au g m a) ((b.set i true).set j true)):=by
 have U:1<=n:=aa;have R:=ag M;have aN:g<w.heap.size:=(M.lt g rfl).2;refine Ag func320 rfl hF ?_ y;simp only[ntmps320,qN,dY,eZ,Nat.reduceAdd,Nat.reduceSub,qG,qH,qO,qK,fO,mH]
 gi_wp2_with (gi_at_call 343;refine(zP F (n-1) X y _ _ _ _ _ _ _).mono ?_;rintro e w' ⟨rfl,rfl⟩)
 obtain⟨wk,d⟩:∃wk,wk=((w.alloc (ll k i j f t r)).alloc (.cells #[au g m a] 95)).alloc (ll k i j f t r):=⟨_,rfl⟩;have H:Below w.heap.size w wk:=by rw[d];exact(((aJ _ w).alloc (aB _) _).alloc aA _).alloc aD _
 have aU:wk.heap.size=w.heap.size+3:=by rw[d];simp
 have ac:wk.heap[w.heap.size+1]? =some (.cells #[au g m a] 95 (0,0)):=by
  rw[d];exact(bY _ _ _ aA).trans (Ex w _ _)
 have an:wk.cell? (ae (w.heap.size+1+1) 1)=some (af i):=by
  rw[d,ek _ _ _ _ aA];rfl
 have ao:wk.cell? (ae (w.heap.size+1+1) 2)=some (af j):=by
  rw[d,ek _ _ _ _ aA];rfl
 rw[<-d];have Y:Sr w (w.heap.size+1) g (au g m a) m base b [] wk:=⟨ac,az R.o H,(ax.refl _ w).below H⟩;have Q:=ag Y;refine Ef y U (gf:=364) (lb:=#[aj (w.heap.size+1+1)]) rfl I (di func364 aO rfl)
  (FQ (α:={q:Nat // q<m}) (fun x=>(x.1:Int)) ⟨i,hi⟩ ⟨j,ak⟩ F (n-1) I y aa (w.heap.size+1+1) wk aa an ao aA aA) NI.trans (fun W l o aE am _ _ _=>zQ (B:=wk.heap.size) aa W l o aE am) (aJ _ _) (fun _=>rfl)
  (fun s W=>Sr w (w.heap.size+1) g (au g m a) m base b s W)
  (fun _ _ _=>False)
  (NJ aa)
  (fun _ _ _ _ _ N _ _=>N)
  Q.o
  (fun x=>{tmps:=#[Ba k i j f t r,au g m a,aj w.heap.size,aj (w.heap.size+1),aL,af x.1,Ba k i j f t r,.func (.func 364) #[] #[aj (w.heap.size+1+1)],af x.1,undef,undef,undef,undef,undef,undef],defers:=[]}) ?assign ?body ?done ?stop
 case assign=>
  intro l x W K C
  gi_wp2
  exact C
 case body=>
  rintro l s ⟨q,aS⟩ W ⟨u,p,v⟩ _;have ad:W.cell? (ae (w.heap.size+1) 0)=some (au g m a):=aG u;have aQ:(marked b s).length=m:=by rw[IM];exact al
  have z:=p.cellAt q aa;obtain⟨G,ab⟩:∃G,(marked b s)[q]? =some G:=⟨_,cz aa⟩;rw[iy,ab]at z;simp only[fP]at z;have aI:=p.frozenAt q;have aT:(q:Int)<(m:Int):=aa;have O:=(p.stored q (.bool true)).1;rw[<-kK]at O;have P:=ag u;have T:=ag O;have A:=ag v
  gi_wp2
  refine⟨xH _ _ _,fun o=>dz (aC aD),(aC aD).trans P.o,?_,A.o.set _ (.inl rfl)⟩;rw[FR];exact T.o
 case done=>
  rintro D aV W aK rfl ⟨u,p,v⟩ C;have ad:W.cell? (ae (w.heap.size+1) 0)=some (au g m a):=aG u;have⟨ay,aH,ah,aq,ar,av,aw⟩:=yf.RN;have N:=v.size;have S:=ag (p.alloc (.cells #[.bool false] 4));have A:=ag (v.alloc (.cells #[.bool false] 4));have E:=ag C
  gi_wp2_with (gi_at_builtin;refine wpListIn_append_own_at _ rfl _ _ 95 rfl base 4 ay aH 1 1 underlying95 ah aq ar av aw ai _ _ _ rfl S.o (ae W.heap.size 0) 1 1 [.bool false] rfl rfl (FU _ _ _) (by simp[Value.oneCell']) dD aa aD ?_;intro aF w1 ap L _ Z)
  have V:D<W.heap.size:=(aZ.1 E.o).1;have J:w1.heap[D]? =some (.deferred (some [])):=(L.block D aD (fun e=>by have h9:D=g:=(by injection e);omega)).trans ((bY _ _ _ V).trans E.o);refine⟨aA,.inl ⟨_,_,rfl,Az J,?_⟩⟩;refine⟨_,results_tmp rfl _ _ _,aF,rfl,ownsRow_putObj (by rw[bL];exact ap) _ J rfl,?_,?_⟩
  .rcases Z with h9|h9
   .exact .inl h9
   .exact .inr ⟨_,h9,aD⟩
  .exact(((A.o.mono (fun k h=>by rw[h];rfl)).grown L (fun k e=>.inl e)).grown (AJ w1 D _) (fun k e=>by cases e;exact .inr aa))
 case stop=>
  rintro D c s W _ _ h _;exact h.elim
def NL (w0:World) (bx:Nat) (kv:Value) (m base:Nat) (kid:List Bool) (pre:List {q:Nat // q<m}) (W:World):Prop:=
 W.heap[bx]? =some (.cells #[kv] 95 (0,0))/\W.ownsRow base 4 1 kv m ((marked kid pre).map Value.bool)/\ax (fun k=>kv.ownBlock=some k) w0 W
theorem Lr {w0:World} {B bx m base:Nat} {r:Value} {q:List Bool} (l:w0.heap.size<=B):OwnFrom B (NL w0 bx r m base q):=by
 rintro s W W' y ⟨c,d,j⟩ g i;have h:∀(b:Nat) cs t fr,W.heap[b]? =some (.cells cs t fr)->W'.heap[b]? =W.heap[b]? :=fun b cs t fr f=>g.block b (aZ.1 f).1 fun e=>by
  obtain⟨-,o,a,n⟩:=i b e.symm;rw[f]at a;injection a with a;subst a;cases n
 refine⟨(h _ _ _ _ c).trans c,aY d fun x e=>?_,j.grown g fun k e=>.inr (bD l (i k e).1)⟩;rcases d.2 with⟨rfl,_⟩|⟨w,u,v,rfl,_,p,_⟩
 .cases e
 .simp only[Value.ownBlock,ji]at e;subst e;exact h _ _ _ _ p
theorem Ls (F:Fence) (n:Nat) (hF:F.fn 320) (O:F.fn 343) (v:F.fn 364) (j:F.round=none) (av:3<=n) (k f t g:Int) (b:Option Addr) (m a base:Nat) (i:List Bool) (w:World) (ar:i.length=m) (au:m<=100000)
  (C:w.ownsRow base 4 1 (.slice b m a) m (i.map Value.bool)) (ap:base<=w.heap.size):
  CallsIn F n prog 320 #[Ba k (-1) (-1) f t g,.slice b m a] w (NK w base m (.slice b m a) i):=by
 have M:1<=n:=aa;have I:=ag C;have L:=ag C;refine Ag func320 rfl hF ?_ j;simp only[ntmps320,qN,dY,eZ,Nat.reduceAdd,Nat.reduceSub,qG,qH,qO,qK,fO,mH]
 gi_wp2_with (gi_at_call 343;refine(zP F (n-1) O j _ _ _ _ _ _ _).mono ?_;rintro e w' ⟨rfl,rfl⟩)
 obtain⟨wk,d⟩:∃wk,wk=((w.alloc (ll k (-1) (-1) f t g)).alloc (.cells #[.slice b m a] 95)).alloc (ll k (-1) (-1) f t g):=⟨_,rfl⟩;have u:Below w.heap.size w wk:=by rw[d];exact(((aJ _ w).alloc (aB _) _).alloc aA _).alloc aD _
 have aw:wk.heap.size=w.heap.size+3:=by rw[d];simp
 have S:wk.heap[w.heap.size+1]? =some (.cells #[.slice b m a] 95 (0,0)):=by
  rw[d];exact(bY _ _ _ aA).trans (Ex w _ _)
 have V:wk.cell? (ae (w.heap.size+1+1) 1)=some (af (-1)):=by
  rw[d,ek _ _ _ _ aA];rfl
 have X:wk.cell? (ae (w.heap.size+1+1) 2)=some (af (-1)):=by
  rw[d,ek _ _ _ _ aA];rfl
 rw[<-d];have P:NL w (w.heap.size+1) (.slice b m a) m base i [] wk:=⟨S,az I.o u,(ax.refl _ w).below u⟩;have G:=ag P;refine Ef j M (gf:=364) (lb:=#[aj (w.heap.size+1+1)]) rfl v (di func364 aO rfl)
  (Kh (α:={q:Nat // q<m}) (fun x=>(x.1:Int)) F (n-1) v j aa (w.heap.size+1+1) wk aa V X) NI.trans (fun W l o al U _ _ _=>zQ (B:=wk.heap.size) aa W l o al U) (aJ _ _) (fun _=>rfl)
  (fun r W=>NL w (w.heap.size+1) (.slice b m a) m base i r W)
  (fun _ _ _=>False)
  (Lr aa)
  (fun _ _ _ _ _ E _ _=>E)
  G.o
  (fun x=>{tmps:=#[Ba k (-1) (-1) f t g,.slice b m a,aj w.heap.size,aj (w.heap.size+1),aL,af x.1,Ba k (-1) (-1) f t g,.func (.func 364) #[] #[aj (w.heap.size+1+1)],af x.1,undef,undef,undef,undef,undef,undef],defers:=[]}) ?assign ?body ?done ?stop
 case assign=>
  intro l x W K p
  gi_wp2
  exact p
 case body=>
  intro l r x W _ h;exact absurd h (kC _)
 case done=>
  rintro D ay W ao rfl ⟨R,Z,A⟩ p;have aq:W.cell? (ae (w.heap.size+1) 0)=some (.slice b m a):=aG R;have⟨ak,an,T,ab,ac,ad,ah⟩:=yf.RN;have E:=A.size;have J:=ag (Z.alloc (.cells #[.bool false] 4));have H:=ag (A.alloc (.cells #[.bool false] 4));have s:=ag p
  gi_wp2_with (gi_at_builtin;refine wpListIn_append_own_at _ rfl _ _ 95 rfl base 4 ak an 1 1 underlying95 T ab ac ad ah ai _ _ _ rfl J.o (ae W.heap.size 0) 1 1 [.bool false] rfl rfl (FU _ _ _) (by simp[Value.oneCell']) dD aa aD ?_;intro am w1 Y z _ Q)
  have N:D<W.heap.size:=(aZ.1 s.o).1;have y:w1.heap[D]? =some (.deferred (some [])):=(z.block D aD (fun e=>by have h9:=(L.o.lt D e.symm).2;omega)).trans ((bY _ _ _ N).trans s.o);refine⟨aA,.inl ⟨_,_,rfl,Az y,?_⟩⟩;refine⟨_,results_tmp rfl _ _ _,am,rfl,ownsRow_putObj (by rw[bL];exact Y) _ y rfl,?_,?_⟩
  .rcases Q with h9|h9
   .exact .inl h9
   .exact .inr ⟨_,h9,aD⟩
  .exact(((H.o).grown z (fun k e=>.inl e)).grown (AJ w1 D _) (fun k e=>by cases e;exact .inr aa))
 case stop=>
  rintro D c r W _ _ h _;exact h.elim
theorem Qr (k f t c:Int) (i j:Nat) (g m a base:Nat) (b:List Bool) (w:World) (h:b.length=m) (l:m<=100000) (hi:i<m) (e:j<m)
  (o:w.ownsRow base 4 1 (au g m a) m (b.map Value.bool)) (d:base<=w.heap.size):
  aK 320 #[Ba k i j f t c,au g m a] w (NK w base m (au g m a) ((b.set i true).set j true)):=by
 refine(x9 (n:=3)).1 ?_;exact IP _ 3 trivial trivial trivial rfl ai k f t c i j g m a base b w h l hi e o d
theorem Su (k f t d:Int) (b:Option Addr) (m a base:Nat) (c:List Bool) (w:World) (g:c.length=m) (h:m<=100000)
  (i:w.ownsRow base 4 1 (.slice b m a) m (c.map Value.bool)) (e:base<=w.heap.size):
  aK 320 #[Ba k (-1) (-1) f t d,.slice b m a] w (NK w base m (.slice b m a) c):=by
 refine(x9 (n:=3)).1 ?_;exact Ls _ 3 trivial trivial trivial rfl ai k f t d b m a base c w g h i e
end
section
open Go Go.RowKit
section
variable {P:Program} {ops:Array Oper} {Q:Exit->Act->World->Prop} {md:Region.Mode} {C:World->Prop} {T:List Nat}
def dF (P:Program) (md:Region.Mode) (ops:Array Oper) (Q:Exit->Act->World->Prop) (C:World->Prop) (T:List Nat):Nat->Array Bool->Act->World->Prop
 |0,listed,a,w=>Region.ready md ops listed=[]/\Q .normal a w
 |fuel+1,listed,a,w=>
  (Region.ready md ops listed=[]->Q .normal a w)/\
  ∀i∈Region.ready md ops listed,wpOp P ops Q i (fun a' w'=>(C w->i∉T->C w')/\dF P md ops Q C T fuel (listed.setIfInBounds i true) a' w') a w
theorem vE:∀(fuel:Nat) (b:Array Bool) (a:Act) (w:World),dF P md ops Q C T fuel b a w->wpAny P md ops Q fuel b a w
 |0,_,_,_,h=>h
 |fuel+1,_,_,_,h=>⟨h.1,fun i hi=>wpOp_mono (fun a' w' h'=>vE fuel _ a' w' h'.2) (h.2 i hi)⟩
def l9 (md:Region.Mode) (ops:Array Oper) (listed:Array Bool):Prop:=
 ∀j oj,ops[j]? =some oj->listed.getD j false=true->∀e∈oj.after,Region.binds md e=true->listed.getD e.on false=true
theorem l9.set {i:Nat} {a:Array Bool} (inv:l9 md ops a) (hi:i∈Region.ready md ops a):l9 md ops (a.setIfInBounds i true):=by
 have⟨_,m,l,k⟩:=mem_ready.1 hi;intro j h f g e c b;by_cases d:i=j
 .subst d;have:h=m:=AL (f.symm.trans l);subst this;exact getD_set_true (k e c b)
 .rw[getD_set_ne false d]at g;exact getD_set_true (inv j h f g e c b)
def downs (md:Region.Mode) (ops:Array Oper) (i:Nat):Nat->List Nat
 |0=>[]
 |n+1=>if Region.waitsFor md ops n i||(downs md ops i n).any (fun k=>Region.waitsFor md ops n k)then n::downs md ops i n else downs md ops i n
theorem qc {d:Array Bool} {i:Nat} (inv:l9 md ops d):∀(n t:Nat),t∈downs md ops i n->(∀a,ops[t]? =some a->∀e∈a.after,Region.binds md e=true->d.getD e.on false=true)->d.getD i false=true
 |0,t,h,_=>by cases h
 |n+1,t,h,hd=>by
  unfold downs at h;split at h
  .rename_i hc;rcases gU.1 h with h|h
   .rw[h]at hd;rcases(AB _ _).mp hc with hc|hc
    .obtain⟨a,g,e,c,b,f⟩:=Region.waitsFor_spec hc;exact f▸hd a g e c b
    .obtain⟨k,j,hc⟩:=List.any_eq_true.1 hc;have⟨a,g,e,c,b,f⟩:=Region.waitsFor_spec hc;have l:d.getD k false=true:=f▸hd a g e c b;exact qc inv n k j fun o m e c b=>inv k o m l e c b
   .exact qc inv n t h hd
  .exact qc inv n t h hd
theorem EE {i:Nat} {n:Oper} {v:Value} {b:Bool} (hi:ops[i]? =some n) (G:∀(j:Nat) (o:Oper) cs b,ops[j]? =some o->o.op≠.select cs b)
  (K:∀c a w,Q (.panic c) (a.put n.dst v) w->Q (.panic c) a w) (L:b=true->∀t∈T,t∈downs md ops i ops.size):
  ∀(fuel:Nat) (d:Array Bool) (a:Act) (w:World),l9 md ops d->
   (∀j l,ops[j]? =some l->j≠i->d.getD j true=false->(∀e∈l.after,Region.binds md e=true->e.on≠i)->n.apart ops l=true)->
   i∈Region.ready md ops d->YieldsIf P ops (fun w=>b=true->C w) n v a->(b=true->C w)->
   dF P md ops Q C T fuel (d.setIfInBounds i true) (a.put n.dst v) w->dF P md ops Q C T (fuel+1) d a w:=by
 intro fuel
 induction fuel with
 |zero=>
  intro d a w inv _ m x hS H;refine⟨fun h=>(by rw[h]at m;cases m),fun j p=>?_⟩;by_cases g:j=i
  .subst g;exact x.wpOp hi hS ⟨fun h _=>h,H⟩
  .have:=ready_mono p g;rw[H.1]at this;cases this
 |succ fuel ih=>
  intro d a w inv B m x hS H;refine⟨fun h=>(by rw[h]at m;cases m),fun j p=>?_⟩;by_cases g:j=i
  .subst g;exact x.wpOp hi hS ⟨fun h _=>h,H⟩
  .have r:=H.2 j (ready_mono p g);have⟨F,l,u,A⟩:=mem_ready.1 p;have D:=getD_both (mem_ready.1 m).1;have z:b=true->j∉T:=fun f z=>by
    have:=qc inv ops.size j (L f j z) (fun W V e y f=>by
     have:W=l:=AL (V.symm.trans u);subst this;exact A e y f)
    rw[D]at this;cases this
   have U:∀e∈l.after,Region.binds md e=true->e.on≠i:=fun e y f M=>by
    have r:=A e y f;rw[M,D]at r;cases r
   have J:=wpOp_putIf u (B j l u g F U) (fun cs b=>G i n cs b hi) (fun cs b=>G j l cs b u) K x r;have N:∀k q,ops[k]? =some q->k≠i->(d.setIfInBounds j true).getD k true=false->
     (∀e∈q.after,Region.binds md e=true->e.on≠i)->n.apart ops q=true:=fun k q O R I S=>by
    refine B k q O R ?_ S;by_cases E:j=k
    .subst E;exact F
    .rw[getD_set_ne true E]at I;exact I
   refine wpOp_mono (fun a' w' s=>⟨s.2.1,ih (d.setIfInBounds j true) a' w' (inv.set p) N (ready_mono m (iN g)) s.1 (fun f=>s.2.1 (hS f) (z f)) ?_⟩) J;rw[Array.setIfInBounds_comm _ _ g];exact s.2.2
def Oper.eF (P:Program) (o:Oper) (a:Act) (C:World->Prop) (b:Bool) (next:Act->Prop):Prop:=∃v,(∀w,(b=true->C w)->(execOp a.eval o).run P w=.ok (.value v) w)/\next (a.put o.dst v)
def wpHd (P:Program) (ops:Array Oper) (C:World->Prop) (L:Act->Prop):List (Oper×Bool)->Act->Prop
 |[],a=>L a
 |o::rest,a=>if Region.wanted o.1 (yielded ops a.tmps)then Oper.eF P o.1 a C o.2 (wpHd P ops C L rest)else wpHd P ops C L rest (a.put o.1.dst undef)
theorem oL {L:Act->Prop} {a:Act} (h:L a):wpHd P ops C L [] a:=h
theorem iY {L:Act->Prop} {a:Act} {o:Oper} {b:Bool} {rest:List (Oper×Bool)}
  (h:∀K:Act->Prop,(∀a,wpHd P ops C L rest a->K a)->if Region.wanted o (yielded ops a.tmps)then Oper.eF P o a C b K else K (a.put o.dst undef)):wpHd P ops C L ((o,b)::rest) a:=
 h _ (fun _ h=>h)
def headOK (md:Region.Mode) (ops:Array Oper) (T:List Nat):List (Nat×Bool)->Array Bool->Bool
 |[],_=>true
 |i::l,listed=>(Region.ready md ops listed).contains i.1&&Region.free md ops listed i.1&&(!i.2||T.all (fun t=>(downs md ops i.1 ops.size).contains t))&&headOK md ops T l (listed.setIfInBounds i.1 true)
def jP:List (Nat×Bool)->Array Bool->Array Bool
 |[],listed=>listed
 |i::l,listed=>jP l (listed.setIfInBounds i.1 true)
def pick (ops:Array Oper) (hd:List Nat):List Oper:=hd.filterMap fun i=>ops[i]?
def jQ (ops:Array Oper) (hd:List (Nat×Bool)):List (Oper×Bool):=hd.filterMap fun i=>ops[i.1]?.map fun o=>(o,i.2)
theorem r9 (q:Region.noSelect ops=true) (o:∀c a d v w,Q (.panic c) (Act.put a d v) w->Q (.panic c) a w) {fuel:Nat} {w:World} (n:C w):
  ∀(hd:List (Nat×Bool)) (e:Array Bool) (a:Act),l9 md ops e->headOK md ops T hd e=true->wpHd P ops C (fun a'=>dF P md ops Q C T fuel (jP hd e) a' w) (jQ ops hd) a->dF P md ops Q C T (fuel+hd.length) e a w
 |[],e,a,_,_,h=>h
 |(i,b)::l,e,a,inv,m,h=>by
  simp only[headOK,mJ]at m;obtain⟨⟨⟨z,y⟩,p⟩,s⟩:=m;have k:i∈Region.ready md ops e:=aP z;have⟨_,g,hi,_⟩:=mem_ready.1 k;have u:b=true->∀t∈T,t∈downs md ops i ops.size:=fun x t ht=>by
   subst x;simp only[AU,Bool.false_or]at p;have:=uR.1 p t ht;simpa using this
  have hp:jQ ops ((i,b)::l)=(g,b)::jQ ops l:=by simp[jQ,hi]
  rw[hp]at h;have ih:=fun a'=>r9 (fuel:=fuel) q o n l (e.setIfInBounds i true) a' (inv.set k) s;have key:∀v,YieldsIf P ops (fun w=>b=true->C w) g v a->wpHd P ops C (fun a'=>dF P md ops Q C T fuel (jP l (e.setIfInBounds i true)) a' w) (jQ ops l) (a.put g.dst v)->dF P md ops Q C T (fuel+((i,b)::l).length) e a w:=fun v A j=>
   EE hi (Region.noSelect_spec q) (fun c a w h=>o c a _ _ w h) u _ e a w inv (Region.free_spec hi y) k A (fun _=>n) (ih _ j)
  by_cases f:Region.wanted g (yielded ops a.tmps)=true
  .simp only[wpHd,f,gK]at h;have⟨v,r,j⟩:=h;exact key v (.inl ⟨f,r⟩) j
  .simp only[wpHd,f]at h;exact key undef (.inr ⟨aP f,rfl⟩) h
theorem jR {id:Nat} {a:Act} {w:World} {l:List Oper} (C:World->Prop) (T:List Nat) (hd:List (Nat×Bool)) (k:P.follows .mixedOrders=true) (o:Region.noSelect l.toArray=true) (i:∀c a d v w,Q (.panic c) (Act.put a d v) w->Q (.panic c) a w) (g:C w.drew)
  (n:Nat) (m:n+hd.length=l.length) (f:headOK .any l.toArray T hd (Array.replicate l.length false)=true)
  (h:wpHd P l.toArray C (fun a'=>dF P .any l.toArray Q C T n (jP hd (Array.replicate l.length false)) a' w.drew) (jQ l.toArray hd) a):(Code.region id l.toArray true).wp P Q a w:=by
 refine wp_region_any k (vE (C:=C) (T:=T) _ _ _ _ ?_);have b:=r9 (md:=.any) (ops:=l.toArray) (T:=T) o i g hd (Array.replicate l.length false) a (fun j p _ e=>by rw[getD_replicate_false]at e;cases e) f h;rw[m]at b;simpa using b
def fB (P:Program) (md:Region.Mode) (ops:Array Oper) (Q:Exit->Act->World->Prop) (C:World->Prop) (T:List Nat) (fuel:Nat) (listed:Array Bool) (a:Act) (w:World) (rs:List Nat):Prop:=
 ∀i∈rs,wpOp P ops Q i (fun a' w'=>(C w->i∉T->C w')/\dF P md ops Q C T fuel (listed.setIfInBounds i true) a' w') a w
theorem fB.nil {fuel:Nat} {b:Array Bool} {a:Act} {w:World}:fB P md ops Q C T fuel b a w []:=fun _ h=>by cases h
theorem fB.cons {fuel:Nat} {b:Array Bool} {a:Act} {w:World} {i:Nat} {o:Oper} {d:List Nat} (k:ops[i]? =some o)
  (h:∀K:Act->World->Prop,(∀a' w',(C w->i∉T->C w')->dF P md ops Q C T fuel (b.setIfInBounds i true) a' w'->K a' w')->if Region.wanted o (yielded ops a.tmps)=true then Oper.wp P o a w K Q else K (a.put o.dst undef) w)
  (l:fB P md ops Q C T fuel b a w d):fB P md ops Q C T fuel b a w (i::d):=fun j hj=>by
 rcases gU.1 hj with e|hj
 .rw[e];have:=h (fun a' w'=>(C w->i∉T->C w')/\dF P md ops Q C T fuel (b.setIfInBounds i true) a' w') (fun a' w' f g=>⟨f,g⟩);unfold wpOp;simp only[k];split
  .rename_i c;simp only[c,gK]at this;exact .inl this
  .rename_i c;simp only[c]at this;exact this
 .exact l j hj
theorem qd {fuel:Nat} {b:Array Bool} {a:Act} {w:World} (c:List Nat) (d:Region.ready md ops b=c) (f:c≠[]) (h:fB P md ops Q C T fuel b a w c):dF P md ops Q C T (fuel+1) b a w:=
 ⟨fun e=>absurd (d▸e) f,d▸h⟩
theorem lq {b:Array Bool} {a:Act} {w:World} (c:Region.ready md ops b=[]) (h:Q .normal a w):dF P md ops Q C T 0 b a w:=⟨c,h⟩
def lineOK (md:Region.Mode) (ops:Array Oper) (T:List Nat):List Nat->Array Bool->Bool
 |[],listed=>(Region.ready md ops listed).isEmpty
 |i::l,listed=>decide (Region.ready md ops listed=[i])&&T.contains i&&lineOK md ops T l (listed.setIfInBounds i true)
theorem ze:∀(L:List Nat) (b:Array Bool) (a:Act) (w:World),lineOK md ops T L b=true->wpList P ops Q (pick ops L) a w->dF P md ops Q C T L.length b a w
 |[],b,a,w,c,h=>⟨by simpa[lineOK]using c,h⟩
 |i::l,b,a,w,c,h=>by
  simp only[lineOK,mJ,bO]at c;obtain⟨⟨d,m⟩,k⟩:=c;have p:i∈Region.ready md ops b:=by rw[d];simp
  have n:i∈T:=aP m;have⟨_,r,hi,_⟩:=mem_ready.1 p;have hp:pick ops (i::l)=r::pick ops l:=by simp[pick,hi]
  rw[hp]at h;refine⟨fun e=>(by rw[d]at e;cases e),fun j f=>?_⟩;rw[d]at f;have o:j=i:=aP f;rw[o];have q:wpOp P ops Q i (wpList P ops Q (pick ops l)) a w:=by unfold wpOp;simp only[hi];exact h
  exact wpOp_mono (fun a' w' h'=>⟨fun _ g=>absurd n g,ze l _ a' w' k h'⟩) q
def zR (md:Region.Mode) (ops:Array Oper) (listed:Array Bool):Bool:=
 (List.range ops.size).all fun j=>!listed.getD j false||((ops[j]?.map fun o=>o.after.toList.all fun e=>!Region.binds md e||listed.getD e.on false).getD true)
theorem l9.of {d:Array Bool} (h:zR md ops d=true):l9 md ops d:=by
 intro j l c k e g f;have i:j<ops.size:=(aZ.1 c).1;have a:=uR.1 h j (uV.2 i);rw[k,c]at a;simp only[AU,Bool.false_or,fP,gG]at a;have b:=uR.1 a e (aP g);rw[f]at b;simpa using b
theorem zf {fuel n:Nat} {w:World} {b:Array Bool} {a:Act} (hd:List (Nat×Bool)) (k:Region.noSelect ops=true) (g:∀c a d v w,Q (.panic c) (Act.put a d v) w->Q (.panic c) a w) (f:C w) (i:zR md ops b=true)
  (e:headOK md ops T hd b=true) (j:n=fuel+hd.length) (h:wpHd P ops C (fun a'=>dF P md ops Q C T fuel (jP hd b) a' w) (jQ ops hd) a):dF P md ops Q C T n b a w:=by
 subst j;exact r9 k g f hd b a (l9.of i) e h
theorem lN {id:Nat} {a:Act} {w:World} {l:List Oper} (C:World->Prop) (T:List Nat) (hd:List (Nat×Bool)) (e:C w.drew) (n:Nat) (h:wpHd P l.toArray C (fun a'=>dF P .any l.toArray Q C T n (jP hd (Array.replicate l.length false)) a' w.drew) (jQ l.toArray hd) a)
  (g:P.follows .mixedOrders=true:=by kernel_rfl) (j:Region.noSelect l.toArray=true:=by kernel_rfl) (f:∀c a d v w,Q (.panic c) (Act.put a d v) w->Q (.panic c) a w:=by intro _ _ d _ _ h;cases d<;>exact h) (i:n+hd.length=l.length:=by rfl) (b:headOK .any l.toArray T hd (Array.replicate l.length false)=true:=by kernel_rfl):(Code.region id l.toArray true).wp P Q a w:=
 jR C T hd g j f e n i b h
theorem Nt {id:Nat} {a:Act} {w:World} {l:List Oper} (hd:List (Nat×Bool)) (n:Nat) (h:wpHd P l.toArray (fun W=>∃p:aQ w,W=p.W) (fun a'=>dF P .any l.toArray Q (fun W=>∃p:aQ w,W=p.W) [] n (jP hd (Array.replicate l.length false)) a' w.drew) (jQ l.toArray hd) a)
  (f:P.follows .mixedOrders=true:=by kernel_rfl) (i:Region.noSelect l.toArray=true:=by kernel_rfl) (e:∀c a d v w,Q (.panic c) (Act.put a d v) w->Q (.panic c) a w:=by intro _ _ d _ _ h;cases d<;>exact h) (g:n+hd.length=l.length:=by rfl) (b:headOK .any l.toArray [] hd (Array.replicate l.length false)=true:=by kernel_rfl):(Code.region id l.toArray true).wp P Q a w:=
 jR (fun W=>∃p:aQ w,W=p.W) [] hd f i e ⟨⟨_,(aJ _ _).drew⟩,rfl⟩ n g b h
theorem aF {fuel:Nat} {b:Array Bool} {a:Act} {w:World} {o:Oper} (i:Nat) (c:ops[i]? =some o)
  (h:∀K:Act->World->Prop,(∀a' w',(C w->i∉T->C w')->dF P md ops Q C T fuel (b.setIfInBounds i true) a' w'->K a' w')->if Region.wanted o (yielded ops a.tmps)=true then Oper.wp P o a w K Q else K (a.put o.dst undef) w)
  (d:Region.ready md ops b=[i]:=by kernel_rfl):dF P md ops Q C T (fuel+1) b a w:=qd [i] d (by simp) (fB.cons c h fB.nil)
theorem Qs {fuel n:Nat} {w:World} {b:Array Bool} {a:Act} (hd:List (Nat×Bool)) (f:C w) (j:n=fuel+hd.length) (h:wpHd P ops C (fun a'=>dF P md ops Q C T fuel (jP hd b) a' w) (jQ ops hd) a)
  (k:Region.noSelect ops=true:=by kernel_rfl) (g:∀c a d v w,Q (.panic c) (Act.put a d v) w->Q (.panic c) a w:=by intro _ _ d _ _ h;cases d<;>exact h) (i:zR md ops b=true:=by kernel_rfl) (e:headOK md ops T hd b=true:=by kernel_rfl):dF P md ops Q C T n b a w:=zf hd k g f i e j h
theorem ak {id:Nat} {a:Act} {w:World} {l:List Oper} {G:Prop} (C:World->Prop) (T:List Nat) (hd:List (Nat×Bool)) (f:C w.drew) (n:Nat) (g:G) (h:NC G->wpHd P l.toArray C (fun a'=>dF P .any l.toArray Q C T n (jP hd (Array.replicate l.length false)) a' w.drew) (jQ l.toArray hd) a:=by(intro g;simp only[_root_.Go.Proofs.YtkjdbndekceffaaGreat.jQ,uH,uJ,uD,fD,fw,fP];(repeat(refine _root_.Go.Proofs.YtkjdbndekceffaaGreat.iY (fun K b=>?_);go_simp;first|(refine b _ ?_;clear b K)|(apply Exists.intro;refine⟨fun _=>?_,b _ ?_⟩;rfl;clear b K)));refine _root_.Go.Proofs.YtkjdbndekceffaaGreat.oL ?_;exact g.o))
  (j:P.follows .mixedOrders=true:=by kernel_rfl) (m:Region.noSelect l.toArray=true:=by kernel_rfl) (i:∀c a d v w,Q (.panic c) (Act.put a d v) w->Q (.panic c) a w:=by intro _ _ d _ _ h;cases d<;>exact h) (k:n+hd.length=l.length:=by rfl) (e:headOK .any l.toArray T hd (Array.replicate l.length false)=true:=by kernel_rfl):(Code.region id l.toArray true).wp P Q a w:=
 jR C T hd j m i f n k e (h ⟨g⟩)
theorem kM {id:Nat} {a:Act} {w:World} {l:List Oper} {G:Prop} (hd:List (Nat×Bool)) (n:Nat) (g:G) (h:NC G->wpHd P l.toArray (fun W=>∃p:aQ w,W=p.W) (fun a'=>dF P .any l.toArray Q (fun W=>∃p:aQ w,W=p.W) [] n (jP hd (Array.replicate l.length false)) a' w.drew) (jQ l.toArray hd) a:=by(intro g;simp only[_root_.Go.Proofs.YtkjdbndekceffaaGreat.jQ,uH,uJ,uD,fD,fw,fP];(repeat(refine _root_.Go.Proofs.YtkjdbndekceffaaGreat.iY (fun K b=>?_);go_simp;first|(refine b _ ?_;clear b K)|(apply Exists.intro;refine⟨fun _=>?_,b _ ?_⟩;rfl;clear b K)));refine _root_.Go.Proofs.YtkjdbndekceffaaGreat.oL ?_;exact g.o))
  (i:P.follows .mixedOrders=true:=by kernel_rfl) (k:Region.noSelect l.toArray=true:=by kernel_rfl) (f:∀c a d v w,Q (.panic c) (Act.put a d v) w->Q (.panic c) a w:=by intro _ _ d _ _ h;cases d<;>exact h) (j:n+hd.length=l.length:=by rfl) (e:headOK .any l.toArray [] hd (Array.replicate l.length false)=true:=by kernel_rfl):(Code.region id l.toArray true).wp P Q a w:=
 jR (fun W=>∃p:aQ w,W=p.W) [] hd i k f ⟨⟨_,(aJ _ _).drew⟩,rfl⟩ n j e (h ⟨g⟩)
theorem bu {fuel n:Nat} {w:World} {e:Array Bool} {a:Act} {G:Prop} (hd:List (Nat×Bool)) (i:C w) (l:n=fuel+hd.length) (g:G) (h:NC G->wpHd P ops C (fun a'=>dF P md ops Q C T fuel (jP hd e) a' w) (jQ ops hd) a:=by(intro g;simp only[_root_.Go.Proofs.YtkjdbndekceffaaGreat.jQ,uH,uJ,uD,fD,fw,fP];(repeat(refine _root_.Go.Proofs.YtkjdbndekceffaaGreat.iY (fun K b=>?_);go_simp;first|(refine b _ ?_;clear b K)|(apply Exists.intro;refine⟨fun _=>?_,b _ ?_⟩;rfl;clear b K)));refine _root_.Go.Proofs.YtkjdbndekceffaaGreat.oL ?_;exact g.o))
  (m:Region.noSelect ops=true:=by kernel_rfl) (j:∀c a d v w,Q (.panic c) (Act.put a d v) w->Q (.panic c) a w:=by intro _ _ d _ _ h;cases d<;>exact h) (k:zR md ops e=true:=by kernel_rfl) (f:headOK md ops T hd e=true:=by kernel_rfl):dF P md ops Q C T n e a w:=zf hd m j i k f l (h ⟨g⟩)
theorem aH {b:Array Bool} {a:Act} {w:World} {G:Prop} (L:List Nat) (g:G) (h:NC G->wpList P ops Q (pick ops L) a w:=by(intro g;simp only[_root_.Go.Proofs.YtkjdbndekceffaaGreat.pick,uH,uJ,uD,fD,fw];exact g.o)) (c:lineOK md ops T L b=true:=by kernel_rfl):dF P md ops Q C T L.length b a w:=ze L b a w c (h ⟨g⟩)
theorem iQ {fuel:Nat} {b:Array Bool} {a:Act} {w:World} {o c:Oper} (i j:Nat) (e:ops[i]? =some o) (f:ops[j]? =some c)
  (h:∀K:Act->World->Prop,(∀a' w',(C w->i∉T->C w')->dF P md ops Q C T fuel (b.setIfInBounds i true) a' w'->K a' w')->if Region.wanted o (yielded ops a.tmps)=true then Oper.wp P o a w K Q else K (a.put o.dst undef) w)
  (d:∀K:Act->World->Prop,(∀a' w',(C w->j∉T->C w')->dF P md ops Q C T fuel (b.setIfInBounds j true) a' w'->K a' w')->if Region.wanted c (yielded ops a.tmps)=true then Oper.wp P c a w K Q else K (a.put c.dst undef) w)
  (g:Region.ready md ops b=[i,j]:=by kernel_rfl):dF P md ops Q C T (fuel+1) b a w:=qd [i,j] g (by simp) (fB.cons e h (fB.cons f d fB.nil))
end
structure jS (F:World->Prop) where
 W:World
 h:F W
section
variable {P:Program} {ops:Array Oper} {Q:Exit->Act->World->Prop} {md:Region.Mode} {C C':World->Prop} {T T':List Nat}
def RS (ops:Array Oper) (T:List Nat) (listed:Array Bool):Bool:=(List.range ops.size).all fun j=>listed.getD j false||T.contains j
theorem uo:∀(fuel:Nat) (b:Array Bool) (a:Act) (w:World),RS ops T b=true->wpAny P md ops Q fuel b a w->dF P md ops Q C T fuel b a w
 |0,_,_,_,_,h=>h
 |fuel+1,b,a,w,d,h=>⟨h.1,fun i hi=>wpOp_mono (fun a' w' h'=>by
  obtain⟨hu,m,k,-⟩:=mem_ready.1 hi;have l:i<ops.size:=(aZ.1 k).1;have f:i∈T:=by
   have c:=uR.1 d i (uV.2 l);rw[getD_both hu]at c;simpa using c
  refine⟨fun _ e=>absurd f e,uo fuel _ a' w' ?_ h'⟩;refine uR.2 fun j g=>?_;have h2:=uR.1 d j g;rcases(AB _ _).mp h2 with h2|h2
  .rw[getD_set_true h2];rfl
  .rw[h2];simp) (h.2 i hi)⟩
theorem iR (C':World->Prop) (T':List Nat) {fuel:Nat} {b:Array Bool} {a:Act} {w:World} (c:RS ops T b=true) (h:dF P md ops Q C' T' fuel b a w):dF P md ops Q C T fuel b a w:=
 uo fuel b a w c (vE fuel b a w h)
end
theorem Bb {P:Program} {ops:Array Oper} {o:Oper} {a:Act} {K:Act->World->Prop} {Q:Exit->Act->World->Prop} {E0:Prop} {f:FuncId} {w:World} {vals:Array Value} {R:Ending->World->Prop} (g:∀args w,(callFunc f args).run P w=.ok (.enter f args) w) (l:Region.wanted o (yielded ops a.tmps)=true) (args:Array Operand) (m:Array TypeId) (j:o.op=.call {callee:=.value (.func f),args:=args,argTypes:=m}) (c:vals=(args.toList.map a.eval).toArray)
  (C:Calls P f vals w R) (h:∀e w',R e w'->∃v,e=.returned v/\K (a.put o.dst v) w'):
  if Region.wanted o (yielded ops a.tmps)=true then Oper.wp P o a w K Q else E0:=by
 rw[aN l];unfold Oper.wp;have b:args.map a.eval=vals:=by rw[c,<-Eo]
 have d:(execOp a.eval o).run P w=.ok (.enter f vals) w:=by
  simp[execOp,j,resolve,invoke,b,Act.eval,Deferred.ofValue,g]
 rw[d,Oper.upon_enter];refine C.mono fun e w' k=>?_;obtain⟨v,rfl,i⟩:=h e w' k;exact i
end
section
open Go.RowKit Go.Sort Go.Shelf Go.Lib Go.Maps
attribute [local irreducible] wpQuiet
attribute [local go_sem] Oper.eF
structure IQ (w:World) (tb:Nat) (N:List Nd) (nm:Nat->Int) (YS:List Nat) (LN LL:Nat->Value):Prop where
 jc:∃gn off cn,w.cell? (ae tb 4)=some (.slice (some (ae gn off)) N.length cn)/\bQ oK 7 w (some (ae gn off)) N
 EF:∃gl cl,w.cell? (ae tb 5)=some (au gl N.length cl)/\gl<w.heap.size/\∀k,k<N.length->w.cell? (ae gl (k*2))=some (LN k)/\w.cell? (ae gl (k*2+1))=some (LL k)
 FV:∀t s,FT.At N t s->∃a c,LN (t.root s)=.slice a (nl YS t).length c/\(nl YS t).length<=c/\Rd (.int .u32) w a ((nl YS t).map nm)
 Bc:∀l r s,FT.At N (.node l r) s->∃a c,LL ((FT.node l r).root s)=.slice a (lf l.hi (nl YS (.node l r))).length c/\Rd (.int .i64) w a (lf l.hi (nl YS (.node l r)))
 Dr:∀k,k<N.length->∃a m c,LL k=.slice a m c
theorem IQ.below {w w':World} {tb B:Nat} {N:List Nd} {nm:Nat->Int} {YS:List Nat} {LN LL:Nat->Value} (h:IQ w tb N nm YS LN LL) (b:Below B w w') (o:w.heap.size<=B):IQ w' tb N nm YS LN LL:=by
 have b:=b.mono o;obtain⟨⟨n,off,cn,g,y⟩,⟨gl,cl,m,f,i⟩,v,u,x⟩:=h;have ht:=gY w _ g;exact⟨⟨n,off,cn,(b.cell (p:=(ae tb 4)) ht).trans g,y.below b⟩,
  ⟨gl,cl,(b.cell (p:=(ae tb 5)) ht).trans m,bR f b.size,fun k j=>⟨(b.cell (p:=(ae gl (k*2))) f).trans (i k j).1,(b.cell (p:=(ae gl (k*2+1))) f).trans (i k j).2⟩⟩,
  fun t s d=>by obtain⟨a,c,e,q,r⟩:=v t s d;exact⟨a,c,e,q,r.below b⟩,fun l r s d=>by obtain⟨a,c,e,r⟩:=u l r s d;exact⟨a,c,e,r.below b⟩,x⟩
structure Told (F:Nat) (cb:Array Value) (N:List Nd) (YS:List Nat) (LN LL:Nat->Value) (B:Nat) (w0:World) (FL:List Nat) (S:World->List Nat->(Nat->Prop)->Prop):Prop where
 enters:∀args w,(callFunc F args).run prog w=.ok (.enter F args) w
 base:∀W acc D,S W acc D->Below B w0 W
 lt:∀W acc D,S W acc D->∀k,D k->B<=k/\k<W.heap.size
 kN:∀W W' acc D,S W acc D->Below W.heap.size W W'->S W' acc D
 told:∀W acc D t s a b,S W acc D->FT.At N t s->a<=b->b<=(nl YS t).length->acc++((nl YS t).take b).drop a <+: FL->
  aK F (#[.agg #[LN (t.root s),LL (t.root s)],af (a:Nat),af (b:Nat)]++cb) W fun e w'=>e=.returned (.tuple #[])/\∃D',S w' (acc++((nl YS t).take b).drop a) D'/\(∀k,D' k->D k\/W.heap.size<=k)/\ax D W w'
structure wD (D:Nat->Prop) (w:World) where
 W:World
 h:ax D w W
def Sv (S:World->List Nat->(Nat->Prop)->Prop) (W:World) (D:Nat->Prop) (acc:List Nat) (n:Nat) (e:Ending) (w':World):Prop:=
 e=.returned (af n)/\∃D',S w' acc D'/\(∀k,D' k->D k\/W.heap.size<=k)/\ax D W w'
theorem FW:gF 172:=di func172 aO rfl
theorem mR {w:World} {g off:Nat} {N:List Nd} {i:Nat} {d:Nd} (h:bQ oK 7 w (some (ae g off)) N) (hi:N[i]? =some d):
  g<w.heap.size/\w.cell? (ae g (off+i*7))=some (.int .u8 d.kind)/\w.cell? (ae g (off+i*7+1))=some (af d.l)/\w.cell? (ae g (off+i*7+2))=some (af d.r)/\w.cell? (ae g (off+i*7+3))=some (af d.fr)/\w.cell? (ae g (off+i*7+4))=some (af d.Kc)/\w.cell? (ae g (off+i*7+5))=some (af 0)/\w.cell? (ae g (off+i*7+6))=some (af d.item):=by
 have⟨a,hd⟩:=fE.1 hi;rcases h with h|⟨b,o,e,f,j⟩
 .subst h;simp at a
 .cases e;have c:=j i a;rw[hd]at c;exact⟨f,c 0 aa,c 1 aa,c 2 aa,c 3 aa,c 4 aa,c 5 aa,c 6 aa⟩
theorem NM (n:Int) (h:-9223372036854775808<=n/\n<=9223372036854775807):wrap64 n=n:=by unfold wrap64;omega
theorem mr {YS:List Nat} {yv:Nat->Int} {y1 y2:Int} {fr ub:Nat}:∀t:FT,(down YS yv y1 y2 fr ub t).2<=t.size
 |.leaf a=>by
  rw[down];split<;>exact aB _
 |.node l r=>by
  have b:=mr (YS:=YS) (yv:=yv) (y1:=y1) (y2:=y2) (fr:=fr) (ub:=ub) l;have c:=mr (YS:=YS) (yv:=yv) (y1:=y1) (y2:=y2) (fr:=fr) (ub:=ub) r;have d:(FT.node l r).size=l.size+r.size+1:=rfl;rw[down];split
  .show 1<=_;omega
  .split
   .show 1<=_;omega
   .show 1+_+_<=_;omega
theorem Bd (F:Nat) (cb:Array Value) (N:List Nd) (nm:Nat->Int) (YS:List Nat) (LN LL:Nat->Value) (tb B:Nat) (w0:World) (S:World->List Nat->(Nat->Prop)->Prop) (yv:Nat->Int) (y1 y2:Int) (fr ub:Nat)
  (cc:w0.heap.size<=B) (I:List Nat) (ac:Told F cb N YS LN LL B w0 I S) (aw:IQ w0 tb N nm YS LN LL) (ba:YS.Pairwise fun i k=>yv i<=yv k) (cI:y1<=y2) (c2:N.length<=1000000) (c3:YS.length<=1000000) (iW:fr<=1000000) (l5:ub<=1000000)
  (t:FT) (s:Nat) (W:World) (f:List Nat) (D:Nat->Prop) (G:FT.At N t s) (aM:t.wf) (cE:t.hi<=1000000) (hS:S W f D) (a4:f++(down YS yv y1 y2 fr ub t).1 <+: I)
  (bS:∀l r,t=.node l r->(∀W f D,S W f D->f++(down YS yv y1 y2 fr ub l).1 <+: I->
    aK 172 #[aj tb,af (l.root s:Nat),af (below yv y1 (nl YS l):Nat),af (upto yv y2 (nl YS l):Nat),.agg #[af fr,af ub,.func (.func F) #[] cb]] W (Sv S W D (f++(down YS yv y1 y2 fr ub l).1) (down YS yv y1 y2 fr ub l).2))/\
    ∀W f D,S W f D->f++(down YS yv y1 y2 fr ub r).1 <+: I->aK 172 #[aj tb,af (r.root (s+l.size):Nat),af (below yv y1 (nl YS r):Nat),af (upto yv y2 (nl YS r):Nat),.agg #[af fr,af ub,.func (.func F) #[] cb]] W (Sv S W D (f++(down YS yv y1 y2 fr ub r).1) (down YS yv y1 y2 fr ub r).2)):
  aK 172 #[aj tb,af (t.root s:Nat),af (below yv y1 (nl YS t):Nat),af (upto yv y2 (nl YS t):Nat),.agg #[af fr,af ub,.func (.func F) #[] cb]] W (Sv S W D (f++(down YS yv y1 y2 fr ub t).1) (down YS yv y1 y2 fr ub t).2):=by
 obtain⟨⟨E,off,cn,av,b2⟩,⟨gl,cl,aY,bP,bE⟩,bR,cD,bT⟩:=aw.below (ac.base W f D hS) cc;have bO:=G.get;have a7:=G.lt;obtain⟨bt,bx,a0,-⟩:=bR _ _ G;obtain⟨al,bg,bw,aZ⟩:=bT _ a7;obtain⟨U,ad⟩:=bE _ a7;obtain⟨H,n0,ai,am,V,X,aR,an⟩:=mR b2 bO;rw[FT.Ez]at V;rw[FT.vC]at X;have bQ:=FT.eT t aM;have bJ:=wh (yv:=yv) (L:=nl YS t) (y:=y2);have bK:=Dj (yv:=yv) (L:=nl YS t) (y:=y1);have cF:(nl YS t).length<=YS.length:=gT _ _;rw[a0]at U;rw[aZ]at ad;obtain⟨a,az⟩:∃a,a=below yv y1 (nl YS t):=⟨_,rfl⟩;obtain⟨b,aC⟩:∃b,b=upto yv y2 (nl YS t):=⟨_,rfl⟩;rw[<-aC]at bJ;rw[<-az]at bK;have cG:∃hi lo:Nat,hi=t.hi/\lo=t.lo:=⟨_,_,rfl,rfl⟩;obtain⟨hi,lo,a1,a2⟩:=cG;rw[<-a1]at X cE bQ;rw[<-a2]at V bQ;obtain⟨K,c⟩:∃K,K=t.root s:=⟨_,rfl⟩;obtain⟨d,hd⟩:∃d,d=t.top s:=⟨_,rfl⟩;rw[<-hd]at n0 ai am an;rw[<-c]at U ad n0 ai am V X aR an a7;have J:Hid (a=below yv y1 (nl YS t)/\b=upto yv y2 (nl YS t)/\hi=t.hi/\lo=t.lo/\K=t.root s/\d=t.top s/\(nl YS t).length<=1000000):=⟨az,aC,a1,a2,c,hd,aa⟩;rw[<-az,<-aC,<-c];have c5:a<=1000000/\b<=1000000:=aa;clear az aC a1 a2 c hd bO bJ bK cF;have aV:=ag hS;have ca:=ag aw;have bp:=ag bS;have cU:=ag (ac.base W f D hS);have bb:=gY W _ av;simp only at bb;have aT:=ag aZ;have cf:=ag a0;obtain⟨nn,a8⟩:∃nn,nn=(nl YS t).length:=⟨_,rfl⟩;rw[<-a8]at U;have cg:=ag a8;clear aZ a0 hS aw bS bT bR cD b2 bE a8;obtain⟨R,ay⟩:∃R,R=down YS yv y1 y2 fr ub t:=⟨_,rfl⟩;rw[<-ay];rw[<-ay]at a4;have Y:=ag ay;have bm:=ag a4;clear a4;clear ay;go_enter func172,ntmps172
 go_upto_region 1 with fail
 obtain⟨w1,Z⟩:∃w1,w1=W.alloc (.cells #[af fr,af ub,.func (.func F) #[] cb] 245):=⟨_,rfl⟩;have ch:Hid (w1.heap[W.heap.size]? =some (.cells #[af fr,af ub,.func (.func F) #[] cb] 245 (0,0))):=by rw[Z];exact cB W _
 have aS:Hid (Below W.heap.size W w1):=by rw[Z];exact(aJ _ _).alloc (aB _) _
 have bV:W.heap.size<w1.heap.size:=by rw[Z];simp
 rw[<-Z];clear Z
 go_cut [11,12]from 11 (fun cO cP aq=>∃x y:Nat,cO=aj x/\cP=aj y/\Hid (aq.heap[x]? =some (.cells #[.int .u8 d.kind,af d.l,af d.r,af lo,af hi,af 0,af d.item] 163 (0,0)))/\
  Hid (aq.heap[y]? =some (.cells #[.slice bt nn bx,.slice al bg bw] 150 (0,0)))/\Hid (Below w1.heap.size w1 aq)/\w1.heap.size<=x/\w1.heap.size<=y)
 case first=>
  have g:=aS.o;have a3:=ah ((g.cell (p:=(ae tb 4)) bb).trans av);have bC:=ah ((g.cell (p:=(ae tb 5)) bb).trans aY);have dg:=ah ((g.cell (p:=(ae E (off+K*7))) H).trans n0);have dh:=ah ((g.cell (p:=(ae E (off+K*7+1))) H).trans ai);have di:=ah ((g.cell (p:=(ae E (off+K*7+2))) H).trans am);have dj:=ah ((g.cell (p:=(ae E (off+K*7+3))) H).trans V);have dk:=ah ((g.cell (p:=(ae E (off+K*7+4))) H).trans X);have dl:=ah ((g.cell (p:=(ae E (off+K*7+5))) H).trans aR);have dm:=ah ((g.cell (p:=(ae E (off+K*7+6))) H).trans an);have df:=ah ((g.cell (p:=(ae gl (K*2))) bP).trans U);have j1:=ah ((g.cell (p:=(ae gl (K*2+1))) bP).trans ad);clear g av aY n0 ai am V X aR an U ad;refine ak (fun W=>∃p:aQ w1,W=p.W) [17] [(0,false),(1,false),(2,false),(3,true),(4,false),(5,false),(6,true),(7,false),(8,false),(9,false),(10,true),(11,false),(12,false),(13,true)] ⟨⟨_,(aJ _ _).drew⟩,rfl⟩ 4 ?_;refine iQ 14 15 rfl rfl (fun K c=>?_) (fun K c=>?_)
  .go_simp;refine c _ _ (fun _ _=>⟨⟨_,(aJ _ w1).alloc (aB _) _|>.drew⟩,rfl⟩) ?_;clear c K;refine aF 15 rfl fun K c=>?_;go_simp;refine c _ _ (fun _ _=>⟨⟨_,((aJ _ w1).alloc (aB _) _).alloc aA _|>.drew⟩,rfl⟩) ?_;clear c K;refine aF 16 rfl fun K c=>?_;go_simp;refine c _ _ (fun _ _=>⟨⟨_,((aJ _ w1).alloc (aB _) _).alloc aA _|>.drew⟩,rfl⟩) ?_;clear c K;refine aH [17] ?_;go_wp2;go_meet;exact⟨w1.heap.size,w1.heap.size+1,rfl,rfl,Dc _ _ _,De _ _ _,((aJ _ w1).alloc (aB _) _).alloc aA _|>.drew,aB _,aa⟩
  .go_simp;refine c _ _ (fun _ _=>⟨⟨_,(aJ _ w1).alloc (aB _) _|>.drew⟩,rfl⟩) ?_;clear c K;refine aF 14 rfl fun K c=>?_;go_simp;refine c _ _ (fun _ _=>⟨⟨_,((aJ _ w1).alloc (aB _) _).alloc aA _|>.drew⟩,rfl⟩) ?_;clear c K;refine aF 16 rfl fun K c=>?_;go_simp;refine c _ _ (fun _ _=>⟨⟨_,((aJ _ w1).alloc (aB _) _).alloc aA _|>.drew⟩,rfl⟩) ?_;clear c K;refine aH [17] ?_;go_wp2;go_meet;exact⟨w1.heap.size+1,w1.heap.size,rfl,rfl,De _ _ _,Dc _ _ _,((aJ _ w1).alloc (aB _) _).alloc aA _|>.drew,aa,aB _⟩
 case rest=>
  obtain⟨x,y,rfl,rfl,ci,cj,bj,c8,c9⟩:=hcut;have aL:=(bj.o.block _ bV).trans ch.o;have T:=ci.o;have bc:=cj.o;have bi:wc.cell? (ae W.heap.size 0)=some (af fr):=aG aL;have b0:wc.cell? (ae W.heap.size 1)=some (af ub):=aG aL;have b1:wc.cell? (ae W.heap.size 2)=some (.func (.func F) #[] cb):=aG aL;have b4:wc.cell? (ae x 0)=some (.int .u8 d.kind):=aG T;have x1:wc.cell? (ae x 1)=some (af d.l):=aG T;have x2:wc.cell? (ae x 2)=some (af d.r):=aG T;have cQ:wc.cell? (ae x 3)=some (af lo):=aG T;have cR:wc.cell? (ae x 4)=some (af hi):=aG T;have b5:wc.cell? (ae y 0)=some (.slice bt nn bx):=aG bc;have b6:wc.cell? (ae y 1)=some (.slice al bg bw):=aG bc;have n:Hid (Below W.heap.size W wc):=aS.o.trans (bj.o.mono aS.o.size);have au:Hid (S wc f D):=ac.kN _ _ _ _ aV.o n.o;have M:=ag ac;clear T bc aL av aY n0 ai am V X aR an U ad ac;have bU:=gY _ _ b4;have cJ:=gY _ _ b5;have a9:=gY _ _ bi;by_cases Q:b<=a\/hi<=fr\/ub<=lo
  .have j:down YS yv y1 y2 fr ub t=([],1):=by
    obtain⟨w,z,O,P,-⟩:=J.o;rw[w,z,O,P]at Q;exact wm Q
   have aU:Hid (Sv S W D (f++R.1) R.2 (.returned (af 1)) wc):=by
    rw[Y.o,j];show Sv S W D (f++[]) 1 _ _;rw[iJ];exact⟨rfl,D,au.o,fun k h=>.inl h,(ax.refl _ _).below n.o⟩
   clear j;have done:True:=trivial;by_cases cZ:b<=a
   .have d1:decide ((a:Int)>=(b:Int))=true:=aD;have d2:decide ((b:Int)<=(a:Int))=true:=aD;have d3:decide (b<=a)=true:=aD;go_wp2;go_ret;exact aU.o
   .have d1:decide ((a:Int)>=(b:Int))=false:=aD;have d2:decide ((b:Int)<=(a:Int))=false:=aD;have d3:decide (b<=a)=false:=aD;by_cases c0:hi<=fr
    .have w:decide ((hi:Int)<=(fr:Int))=true:=aD;have z:decide (hi<=fr)=true:=aD;go_wp2;go_ret;exact aU.o
    .have w:decide ((hi:Int)<=(fr:Int))=false:=aD;have z:decide (hi<=fr)=false:=aD;have f1:decide ((lo:Int)>=(ub:Int))=true:=aD;have f2:decide ((ub:Int)<=(lo:Int))=true:=aD;have f3:decide (ub<=lo)=true:=aD;go_wp2;go_ret;exact aU.o
  .have d1:decide ((a:Int)>=(b:Int))=false:=aD;have d2:decide ((b:Int)<=(a:Int))=false:=aD;have d3:decide (b<=a)=false:=aD;have w:decide ((hi:Int)<=(fr:Int))=false:=aD;have z:decide (hi<=fr)=false:=aD;have f1:decide ((lo:Int)>=(ub:Int))=false:=aD;have f2:decide ((ub:Int)<=(lo:Int))=false:=aD;have f3:decide (ub<=lo)=false:=aD;by_cases aE:fr<=lo/\hi<=ub
   .have g1:decide ((lo:Int)>=(fr:Int))=true:=aD;have bA:decide ((fr:Int)<=(lo:Int))=true:=aD;have bB:decide (fr<=lo)=true:=aD;have a3:decide ((hi:Int)<=(ub:Int))=true:=aD;have bC:decide (hi<=ub)=true:=aD;have j:down YS yv y1 y2 fr ub t=(((nl YS t).take b).drop a,1):=by
     obtain⟨w,z,O,P,-⟩:=J.o;rw[w,z,O,P]at Q;rw[O,P]at aE;rw[EC Q aE,w,z];congr 1;exact(Di (ba.filter _) y1 y2 cI).symm
    have ar:=ag j;have C:=M.o.told wc f D t s a b au.o G aa (by rw[J.o.2.1];exact wh) (by have h9:=bm.o;rw[Y.o,j]at h9;exact h9);rw[aT.o,cf.o,<-cg.o]at C;have cW:=M.o.enters;clear j
    go_wp2_with (go_at_fn F;refine C.mono ?_;rintro e w' ⟨rfl,b8,cy,cs,cv⟩)
    have cd:=ag cs;go_wp2;go_ret;have e:=ar.o;rw[<-Y.o]at e;rw[e];exact⟨rfl,b8,cy,fun k h=>(cd.o k h).imp id (fun h9=>bD n.o.size h9),((ax.refl (fun k=>D k\/W.heap.size<=k) W).below n.o|>.trans (cv.mono fun k h=>.inl h)).strip⟩
   .have cr:(decide ((lo:Int)>=(fr:Int))=true/\decide ((hi:Int)<=(ub:Int))=false)\/decide ((lo:Int)>=(fr:Int))=false:=aD;obtain⟨l,r,rfl⟩:∃l r,t=.node l r:=by
     cases t with
     |leaf q=>
      obtain⟨-,-,O,P,-⟩:=J.o;simp only[FT.hi]at O;simp only[FT.lo]at P;omega
     |node l r=>exact⟨l,r,rfl⟩
    obtain⟨al',cV,bz,b3⟩:=ca.o.Bc l r s G;rw[aT.o]at bz;injection bz with co cp cq;subst co cp cq;obtain⟨aN,aO,bd,be,cK,id,de⟩:=J.o;have j:down YS yv y1 y2 fr ub (.node l r)=((down YS yv y1 y2 fr ub l).1++(down YS yv y1 y2 fr ub r).1,1+(down YS yv y1 y2 fr ub l).2+(down YS yv y1 y2 fr ub r).2):=by
     rw[aN,aO,bd,be]at Q;rw[bd,be]at aE;exact yg Q aE
    obtain⟨aW,ck⟩:=EB (yv:=yv) l r aM ba y1;obtain⟨aX,cm⟩:=FN (yv:=yv) l r aM ba y2;rw[<-aN]at aW ck;rw[<-aO]at aX cm;have cz:a<(lf l.hi (nl YS (.node l r))).length:=by rw[rY,aN];have:=Dj (yv:=yv) (L:=nl YS (.node l r)) (y:=y1);omega
    have cC:b<(lf l.hi (nl YS (.node l r))).length:=by rw[rY,aO];have:=wh (yv:=yv) (L:=nl YS (.node l r)) (y:=y2);omega
    obtain⟨u,bv,rfl,c4,a6⟩:=b3.get aa;have ao:=a6 a cz;have ap:=a6 b cC;rw[pX,aW]at ao;rw[pX,aX]at ap;have bM:d.l=((l.root s:Nat):Int):=by rw[id];show((s+l.size:Nat):Int)-1=_;unfold FT.root;have:=l.size_pos;omega
    have bN:d.r=((r.root (s+l.size):Nat):Int):=by rw[id];show((s+l.size+r.size:Nat):Int)-1=_;unfold FT.root;have:=r.size_pos;omega
    rw[bM]at x1;rw[bN]at x2;have c6:=G.left.lt;have c7:=G.right.lt;have bs:=bp.o l r rfl;have ar:=ag j;generalize l.root s=kl at*;generalize r.root (s+l.size)=kr at*;generalize below yv y1 (nl YS l)=bW at*;generalize below yv y1 (nl YS r)=cM at*;generalize upto yv y2 (nl YS l)=lb at*;generalize upto yv y2 (nl YS r)=cN at*;clear a6 aT b3;generalize(lf l.hi (nl YS (.node l r))).length=bg at*;have cX:(a:Int)-(bW:Int)=(cM:Int):=aa;have cY:(b:Int)-(lb:Int)=(cN:Int):=aa;have bq:=ag bs;have a5:=M.o.base _ _ _ au.o;have ao:=(a5.cell (p:=(ae u (bv+a))) (show u<B by omega)).trans ao;have ap:=(a5.cell (p:=(ae u (bv+b))) (show u<B by omega)).trans ap;have ab:=M.o.lt _ _ _ aV.o;have bY:¬D x:=fun h=>by have:=(ab x h).2;omega
    have cL:¬D y:=fun h=>by have:=(ab y h).2;omega
    have bh:¬D W.heap.size:=fun h=>by have:=(ab _ h).2;omega
    have bX:¬D u:=fun h=>by have:=(ab u h).1;omega
    have bL:u<wc.heap.size:=by have:=a5.size;omega
    clear j ab bs aW aX aN aO bd be cK id bM bN bp
    go_upto_block 0 with fail
    go_cut []from 27 (fun aq=>aq=wc)
    case first=>
     rcases cr with⟨g1,bA⟩|g1
     .have bB:decide ((fr:Int)<=(lo:Int))=true:=aP g1;have a3:decide (fr<=lo)=true:=aP g1;have bC:decide (hi<=ub)=false:=aP bA;go_wp2;go_meet;rfl
     .have bB:decide ((fr:Int)<=(lo:Int))=false:=aP g1;have a3:decide (fr<=lo)=false:=aP g1;go_wp2;go_meet;rfl
    case rest=>
     subst hcut
     go_upto_region 7 with fail
     have m:∀{bk o:Nat} {v:Value},bk<wc.heap.size->¬D bk->wc.cell? (ae bk o)=some v->∀p:wD D wc,p.W.cell? (ae bk o)=some v:=fun cA hd cH p=>((bZ p.h cA hd).1 _).trans cH;have m0:=m a9 bh bi;have m1:=m a9 bh b0;have m2:=m a9 bh b1;have m3:=m bU bY x1;have m4:=m bU bY x2;have dn:=m cJ cL b6;have dp:=m bL bX ao;have dq:=m bL bX ap;clear m bi b0 b1 b4 x1 x2 cQ cR b5 b6 ao ap;refine ak (fun W=>∃p:wD D wc,W=p.W) [34,35,36] [(0,false),(1,false),(2,true),(3,false),(4,true),(5,false),(6,false),(7,true),(8,false),(9,true),(10,false),(11,false),(12,true),(13,true),(16,false),(17,false),(18,true),(19,false),(20,false),(21,true),(22,false),(23,false),(24,true),(25,false),(26,false),(27,false),(28,true),(29,false),(30,false),(31,true),(32,false),(33,true)] ⟨⟨_,(ax.refl _ _).drew⟩,rfl⟩ 5 ?_;have bn:Hid ((f++(down YS yv y1 y2 fr ub l).1)++(down YS yv y1 y2 fr ub r).1 <+: I):=by
      have h9:=bm.o;rw[Y.o,ar.o]at h9;show _ <+: _;rw[dX];exact h9
     have ce:Hid (f++(down YS yv y1 y2 fr ub l).1 <+: I):=(List.prefix_append _ _).trans bn.o;have br:S wc.drew f D:=M.o.kN _ _ _ _ au.o (aJ _ _).drew;refine aF 14 rfl fun K c=>?_;refine bf FW rfl _ _ rfl (vals:=#[aj tb,af kl,af bW,af lb,.agg #[af fr,af ub,.func (.func F) #[] cb]]) rfl (bq.o.1 _ _ _ br ce.o) ?_;rintro e w2 ⟨rfl,cS,bH,bF,bG⟩;have aI:ax D wc w2:=(ax.refl _ wc).drew.trans bG;refine⟨_,rfl,c _ _ (fun _ _=>⟨⟨_,aI⟩,rfl⟩) ?_⟩;clear c K;refine bu [(15,false)] ⟨⟨_,aI⟩,rfl⟩ rfl ?_;refine aH [34,35,36] ?_;have b7:=bq.o.2 _ _ _ bH bn.o;have bo:=ag aI;have bl:=ag bF;have cT:=ag (M.o.lt _ _ _ aV.o);clear aI bF bG bH br
     go_wp2_with (go_at_call 172;refine b7.mono ?_;rintro e w3 ⟨rfl,b9,bI,ct,cw⟩)
     have bV:=mr (YS:=YS) (yv:=yv) (y1:=y1) (y2:=y2) (fr:=fr) (ub:=ub) l;have da:=mr (YS:=YS) (yv:=yv) (y1:=y1) (y2:=y2) (fr:=fr) (ub:=ub) r;have db:=FT.size_eq _ aM;have dc:(FT.node l r).size=l.size+r.size+1:=rfl;have dd:=J.o.2.2.1;have e:=ar.o;rw[<-Y.o]at e;rw[e];have cu:=ag ct;have cx:ax (fun k=>D k\/W.heap.size<=k) W w3:=
      (((ax.refl (fun k=>D k\/W.heap.size<=k) W).below n.o).trans (bo.o.mono fun k h=>.inl h)).trans (cw.mono fun k h=>by
       rcases bl.o k h with h9|h9
       .exact .inl h9
       .right;have:=n.o.size;simp at h9;omega)
     rw[dX]at bI;go_ret;refine⟨?_,b9,bI,fun k h=>?_,cx.strip⟩
     .refine congrArg Ending.returned ?_;show af (wrap64 (wrap64 (1+((down YS yv y1 y2 fr ub l).2:Int))+((down YS yv y1 y2 fr ub r).2:Int)))=_;generalize(down YS yv y1 y2 fr ub l).2=A at*;generalize(down YS yv y1 y2 fr ub r).2=B at*;have aw:A<=2000000:=aa;have c1:B<=2000000:=aa;rw[NM (1+(A:Int)) aa,NM _ aa];exact congrArg _ aa
     .rcases cu.o k h with h9|h9
      .rcases bl.o k h9 with h8|h8
       .exact .inl h8
       .right;have:=n.o.size;simp at h8;omega
      .right;have:=bo.o.size;have:=n.o.size;omega
theorem Lt (F:Nat) (cb:Array Value) (N:List Nd) (nm:Nat->Int) (YS:List Nat) (LN LL:Nat->Value) (tb B:Nat) (w0:World) (S:World->List Nat->(Nat->Prop)->Prop) (yv:Nat->Int) (y1 y2:Int) (fr ub:Nat)
  (g:w0.heap.size<=B) (d:List Nat) (m:Told F cb N YS LN LL B w0 d S) (h:IQ w0 tb N nm YS LN LL) (o:YS.Pairwise fun i k=>yv i<=yv k) (p:y1<=y2) (j:N.length<=1000000) (n:YS.length<=1000000) (iW:fr<=1000000) (l5:ub<=1000000):
  ∀(t:FT) (s:Nat),FT.At N t s->t.wf->t.hi<=1000000->∀(W:World) (a:List Nat) (D:Nat->Prop),S W a D->a++(down YS yv y1 y2 fr ub t).1 <+: d->
  aK 172 #[aj tb,af (t.root s:Nat),af (below yv y1 (nl YS t):Nat),af (upto yv y2 (nl YS t):Nat),.agg #[af fr,af ub,.func (.func F) #[] cb]] W (Sv S W D (a++(down YS yv y1 y2 fr ub t).1) (down YS yv y1 y2 fr ub t).2):=by
 intro t
 induction t with
 |leaf x=>exact fun s c b f W a D hS hF=>Bd F cb N nm YS LN LL tb B w0 S yv y1 y2 fr ub g d m h o p j n iW l5 _ s W a D c b f hS hF (fun l r e=>by cases e)
 |node l r q u=>
  intro s c b f W a D hS hF;refine Bd F cb N nm YS LN LL tb B w0 S yv y1 y2 fr ub g d m h o p j n iW l5 _ s W a D c b f hS hF fun l' z e=>?_;cases e;have v:=FT.eT r b.2.1;have w:=b.2.2;have y:(FT.node l r).hi=r.hi:=rfl;exact⟨fun W a D hS hF=>q s c.left b.1 aa W a D hS hF,fun W a D hS hF=>u _ c.right b.2.1 aa W a D hS hF⟩
end
section
open Go.RowKit
section
variable {P:Program} {ops:Array Oper} {rest:List Oper} {o:Oper} {a:Act} {Q:Exit->Act->World->Prop}
theorem EG {α:Type} {enc:α->List Value} {sz:Nat} {W:World} {ad:Option Addr} {l:List α} {c:Nat} (g:bQ enc sz W ad l) (i:l.length<=c) (lo hi:Nat) (j:hi<=l.length):
  bQ enc sz W (if c=lo then ad else ad.map (·.add (lo*sz))) ((l.take hi).drop lo):=by
 by_cases h:c=lo
 .exact .inl (by rw[List.drop_eq_nil_iff,eQ];omega)
 .rw[aM h];rcases g with rfl|⟨b,off,rfl,e,f⟩
  .exact .inl aA
  .have a:bQ enc sz W (some (ae b off)) l:=.inr ⟨b,off,rfl,e,f⟩;have d:((ae b off):Addr).add (lo*sz)=(ae b (off+lo*sz)):=by unfold Addr.add;split<;>simp_all
   simp only[fP,d];exact(a.take hi).drop lo
theorem Lu {α:Type} {enc:α->List Value} {sz:Nat} {t e:TypeId} {bytes:Nat} (s:eD P t e sz bytes) {W:World} {ad:Option Addr} {l:List α} {c:Nat} (B:bQ enc sz W ad l) (w:l.length<=c) (lo hi:Nat) (q:lo<=hi) (u:hi<=l.length)
  (y:o.guard=none) (x:Operand) (n f:Option Operand) (j:o.op=.slice t x n f none) (m:a.eval x=.slice ad l.length c)
  (g:(n.map a.eval).getD (.int .i64 0)=.int .i64 lo) (b:(f.map a.eval).getD (.int .i64 l.length)=.int .i64 hi)
  (h:∀p,bQ enc sz W p ((l.take hi).drop lo)->wpList P ops Q rest (a.put o.dst (.slice p (hi-lo) (c-lo))) W):wpList P ops Q (o::rest) a W:=by
 obtain⟨ht,⟨i,z,A,F,C,D,G⟩,E⟩:=s;refine wpList_plain y fun K v=>?_;have d:=v _ _ (h _ (EG B w lo hi u));have hu:∀W',(underlying t).run P W'=.ok (.slice e) W':=fun W'=>pF ht W';have k:∀W',(sizeOf e).run P W'=.ok sz W':=fun W'=>by simp[sizeOf,typeInfo,A,C]
 unfold Oper.wp execOp;have r:hi<=c:=aa;rcases n with _|lw
 .simp only[lJ,mM,pE,nV]at g;obtain rfl:lo=0:=aa;rcases f with _|hg
  .simp only[lJ,mM,pE,nV]at b;obtain rfl:hi=l.length:=aa;simp only[j,m,lJ,Instr.sliceAt,Instr.slice,Instr.sliceBounds,xY,hu,k,xO,xZ];exact d
  .simp only[fP,gG]at b;simp[j,m,b,Instr.sliceAt,Instr.slice,Instr.sliceBounds,Instr.sliceBound,hu,k,asIntOf,r];simp only[Nat.zero_mul,Nat.sub_zero]at d;exact d
 .simp only[fP,gG]at g;rcases f with _|hg
  .simp only[lJ,mM,pE,nV]at b;obtain rfl:hi=l.length:=aa;simp[j,m,g,Instr.sliceAt,Instr.slice,Instr.sliceBounds,Instr.sliceBound,hu,k,asIntOf,q];exact d
  .simp only[fP,gG]at b;simp[j,m,g,b,Instr.sliceAt,Instr.slice,Instr.sliceBounds,Instr.sliceBound,hu,k,asIntOf,q,r];exact d
end
end
section
open Go Go.RowKit
end
end Go.Proofs.YtkjdbndekceffaaGreat
