/- Made small by a program. -/
import Derived.Test.YtkjdbndekceffaaGreatV02
set_option linter.unusedSimpArgs false
set_option linter.unusedVariables false
set_option maxRecDepth 100000
set_option maxHeartbeats 16000000
namespace Go.Proofs.YtkjdbndekceffaaGreat
open Tryz
section
open Go.RowKit
def bV {α:Type} (enc:α->List Value) (sz:Nat) (w:World) (a:Option Addr) (l:List α):Prop:=
 l=[]\/∃b off,a=some (ag b off)/\b<w.heap.size/\∀i (h:i<l.length) j,j<sz->w.cell? (ag b (off+i*sz+j))=(enc l[i])[j]?
section
variable {α:Type} {enc:α->List Value} {sz:Nat} {w w':World} {a:Option Addr} {l:List α}
theorem bV.below {B:Nat} (h:bV enc sz w a l) (c:Below B w w') (e:w.heap.size<=B:=by first|exact aA _|(simp;done)|(simp;omega)):bV enc sz w' a l:=by
 rcases h with h|⟨b,off,rfl,d,f⟩
 .exact .inl h
 .exact .inr ⟨b,off,rfl,cO d c.size,fun i hi j g=>by rw[c.cell (p:=(ag b (off+i*sz+j))) (cO d e)];exact f i hi j g⟩
theorem bV.nil:bV enc sz w a ([]:List α):=.inl rfl
theorem bV.get (h:bV enc sz w a l) (c:0<l.length):
  ∃b off,a=some (ag b off)/\b<w.heap.size/\∀i (h:i<l.length) j,j<sz->w.cell? (ag b (off+i*sz+j))=(enc l[i])[j]? :=by
 rcases h with rfl|h
 .simp at c
 .exact h
theorem bV.take (h:bV enc sz w a l) (k:Nat):bV enc sz w a (l.take k):=by
 rcases h with rfl|⟨b,off,rfl,c,d⟩
 .exact .inl ax
 .exact .inr ⟨b,off,rfl,c,fun i hi j e=>by rw[qx];exact d i (by simp at hi;omega) j e⟩
theorem bV.drop {b off:Nat} (h:bV enc sz w (some (ag b off)) l) (k:Nat):bV enc sz w (some (ag b (off+k*sz))) (l.drop k):=by
 rcases h with h|⟨e,f,h,a,c⟩
 .exact .inl (by rw[h];simp)
 .cases h;exact .inr ⟨b,off+k*sz,rfl,a,fun i hi j d=>by
   rw[List.getElem_drop,show off+k*sz+i*sz+j=off+(k+i)*sz+j by rw[nE];omega];exact c (k+i) (by simp at hi;omega) j d⟩
theorem gK (a:∀x,(enc x).length=sz):∀l:List α,(l.flatMap enc).length=l.length*sz
 |[]=>ax
 |x::l=>by
  rw[mE,bQ,a,gK a l,eH,nE];omega
theorem flat_get (a:∀x,(enc x).length=sz):∀(l:List α) (i:Nat) (h:i<l.length) (j:Nat),j<sz->(l.flatMap enc)[i*sz+j]? =(enc l[i])[j]?
 |x::l,0,_,j,b=>by
  rw[mE,mr (by rw[a];omega)];simp
 |x::l,i+1,h,j,b=>by
  rw[mE,nV (by rw[a,nE];omega),a,show(i+1)*sz+j-sz=i*sz+j by rw[nE];omega];exact flat_get a l i (aQ h) j b
theorem bV.aD (f:∀x,(enc x).length=sz) {base:Nat} {e:TypeId} {v:Value} {n:Nat} (t:0<sz) (h:w.ownsRow base e sz v n (l.flatMap enc)):
  ∃a c,v=.slice a l.length c/\n=l.length/\l.length<=c/\bV enc sz w a l:=by
 have⟨k,h⟩:=h;rw[gK f]at k;have s:n=l.length:=Nat.eq_of_mul_eq_mul_right t k.symm;subst s;rcases h with⟨rfl,o⟩|⟨g,m,u,rfl,y,d,p,z,A,ht⟩
 .have:l=[]:=iC o;subst this;exact⟨none,0,rfl,rfl,aA _,.inl rfl⟩
 .refine⟨_,m,rfl,rfl,p,.inr ⟨g,0,rfl,(bg.1 d).1,fun i hi j q=>?_⟩⟩;have b:=flat_get f l i hi j q;rw[<-ht,vN]at b;have r:i*sz+j<l.length*sz:=cO (show i*sz+j<(i+1)*sz by rw[nE];omega) (oz _ hi);rw[aO r]at b;unfold World.cell?;simp only[d,kD];simpa using b
theorem bV.lit (b:∀x,(enc x).length=sz) (W:World) (e:TypeId) (l:List α) (n:Nat) (c:n=W.heap.size):bV enc sz (W.alloc (.cells (l.flatMap enc).toArray e)) (some (ag n 0)) l:=by
 refine .inr ⟨_,0,rfl,aH,fun i hi j a=>?_⟩;rw[eX _ _ _ _ c,kD];simpa using flat_get b l i hi j a
end
section
variable {P:Program} {ops:Array Oper} {rest:List Oper} {o:Oper} {a:Act} {Q:Exit->Act->World->Prop}
theorem jl {α:Type} {enc:α->List Value} {sz:Nat} {t e:TypeId} {bytes:Nat} (q:eY P t e sz bytes) (d:∀x,(enc x).length=sz) (E:∀x,∀u∈enc x,u.oneCell'=true) (base:Nat) {v:Value} {n:Nat} {xs:List Value} {W:World} (p:W.ownsRow base e sz v n xs) {ad:Option Addr} {l:List α} (O:bV enc sz W ad l)
  (w:o.guard=none) (s x:Operand) (B:o.op=.call {callee:=.builtin .append,args:=#[s,x],argTypes:=#[t,t]})
  (C:a.eval s=v) (c:Nat) (D:a.eval x=.slice ad l.length c) (F:n+l.length<=maxLen) (L:(n+l.length)*bytes<=140737488355328) (I:base<=W.heap.size)
  (h:∀m w',w'.ownsRow base e sz m (n+l.length) (xs++l.flatMap enc)->W.grownBy w' v.ownBlock->wpList P ops Q rest (a.put o.dst m) w'):wpList P ops Q (o::rest) a W:=by
 rcases O with rfl|⟨b,off,rfl,Y,M⟩
 .refine wpList_plain w fun K G=>?_;have R:=jT (ty:=o.type) q p ad c;have T:a.eval x=.slice ad 0 c:=D;have d:=G _ _ (h v W (aQ p) ⟨rfl,rfl,rfl,aA _,fun _ _ _=>rfl⟩);unfold Oper.wp execOp;simp only[B,resolve,invoke,builtin,za,zb,yV,FH,mG,qG,C,T,R];exact d
 .obtain⟨ht,⟨i,z,hi,V,S,J,X⟩,k⟩:=q;refine wpList_append_own _ w s x t B base e i z sz bytes ht hi V S J X k v n xs C p (ag b off) l.length c (l.flatMap enc) D (gK d l) ?_ ?_ F L I ?_
  .intro j u hu;have H:((ag b off):Addr).add j=(ag b (off+j)):=by unfold Addr.add;split<;>simp_all
   rw[H];have N:j<l.length*sz:=by
    have:=(fI.1 hu).1;rw[gK d]at this;exact this
   have A:j/sz<l.length:=(JH k).2 N;have f:=M (j/sz) A (j%sz) (qL _ k);have g:=flat_get d l (j/sz) A (j%sz) (qL _ k);have r:j/sz*sz+j%sz=j:=by rw[ze];exact Nat.div_add_mod j sz
   rw[r]at g;rw[vW,r]at f;rw[f,<-g];exact hu
  .intro u hu;have⟨y,_,U⟩:=yX.1 hu;exact E y u U
  .intro m w' f g _;exact h m w' f g
end
structure aR (w:World) where
 W:World
 h:Below w.heap.size w W
instance Ui (w:World):Inhabited (aR w):=⟨⟨w,aJ _ _⟩⟩
theorem bG {P:Program} {id:Nat} {Q:Exit->Act->World->Prop} {a:Act} {w:World} {l:List Oper} (c:P.follows .mixedOrders=true) (b:Region.lexB .any l.toArray=true)
  (h:wpQuiet P l.toArray (fun w'=>∃p:aR w,w'=p.W) (fun a'=>∀w',(∃p:aR w,w'=p.W)->Q .normal a' w') l a):(Code.region id l.toArray true).wp P Q a w:=
 wp_region_quiet (C:=fun w'=>∃p:aR w,w'=p.W) c b ⟨⟨w.drew,(aJ _ _).drew⟩,rfl⟩ (aQ h)
theorem dH {P:Program} {f:FuncId} {args:Array Value} {w:World} {p:aR w} {v:Value}
  (h:Calls P f args p.W fun e w'=>e=.returned v/\Below p.W.heap.size p.W w'):Calls P f args p.W fun e c=>e=.returned v/\∃q:aR w,c=q.W:=
 h.mono fun _ w' ⟨b,a⟩=>⟨b,⟨w',p.h.trans (a.mono p.h.size)⟩,rfl⟩
theorem ah {w:World} {ad:Addr} {v:Value} (h:w.cell? ad=some v):∀p:aR w,p.W.cell? ad=some v:=fun p=>by
 rw[p.h.cell (iF w _ h)];exact h
def Lt (W:World) (v v':Value):Prop:=v'.ownBlock=v.ownBlock\/v'.ownBlock=some W.heap.size
theorem jN {P:Program} {t ty e:TypeId} {size bytes:Nat} (E:eY P t e size bytes) (base:Nat) {v:Value} {n:Nat} {xs:List Value} {w:World} (o:w.ownsRow base e size v n xs)
  (a:Addr) (m c:Nat) (b:List Value) (h:b.length=m*size) (l:∀j u,b[j]? =some u->w.cell? (a.add j)=some u) (y:∀u∈b,u.oneCell'=true)
  (A:n+m<=maxLen) (r:(n+m)*bytes<=140737488355328) (I:base<=w.heap.size):
  ∃k w',(Builtin.append_ #[t,t] ty #[v,.slice (some a) m c]).run P w=.ok k w'/\w'.ownsRow base e size k (n+m) (xs++b)/\w.grownBy w' v.ownBlock/\Lt w v k:=by
 obtain⟨ht,⟨i,z,hi,s,D,B,Q⟩,O⟩:=E;have⟨k,w',p,F,G,H⟩:=run_append_own (P:=P) w base t ty e i z size bytes ht hi s D B Q O v n xs o a m c b h l y A r I;refine⟨k,w',p,F,G,?_⟩;subst D;subst B;have U:n+m<=9223372036854775807:=by simp only[maxLen]at A;omega
 rcases o.2 with⟨rfl,rfl⟩|⟨g,q,x,rfl,R,L,T,S,J,V⟩
 .by_cases M:m=0
  .rw[H.2 ⟨rfl,M⟩];exact .inl rfl
  .have d:=run_append_nil (P:=P) w t ty e i z ht hi s a m c b h l aa aa (by simp only[kD]at r;omega);rw[p]at d;injection d with f _;rw[f];exact .inr rfl
 .by_cases C:n+m<=q
  .have K:n*i.size+b.length<=x.size:=by rw[h,J,<-nE];exact oz _ C
   have d:=run_append_room (P:=P) w t ty e i ht hi g n q x L a m c b h l y C K;rw[p]at d;injection d with f _;rw[f];exact .inl rfl
  .have N:∀j u,xs[j]? =some u->w.cell? (((ag g 0):Addr).add j)=some u:=o.cells (g:=g) rfl;have d:=run_append_grow (P:=P) w t ty e i z ht hi s (ag g 0) n q xs o.1 N a m c b h l aa aa (growslice_fits aa r);rw[p]at d;injection d with f _;rw[f];exact .inr rfl
theorem gy {w:World} {o:Obj} {v a:Value} (h:Lt (w.alloc o) v a):a.ownBlock=v.ownBlock\/∃b,a.ownBlock=some b/\w.heap.size<=b:=by
 rcases h with h|h
 .exact .inl h
 .exact .inr ⟨_,h,ax⟩
section
variable {P:Program} {ops:Array Oper} {rest:List Oper} {o:Oper} {a:Act} {Q:Exit->Act->World->Prop}
theorem cB {t e:TypeId} {size bytes:Nat} (f:eY P t e size bytes) (base:Nat) {v:Value} {n:Nat} {xs:List Value} {W:World} (A:W.ownsRow base e size v n xs) (b:List Value) (F:b.length=size) (g:∀u∈b,u.oneCell'=true)
  (w:o.guard=none) (s x:Operand) (z:o.op=.call {callee:=.builtin .append,args:=#[s,x],argTypes:=#[t,t]})
  (C:a.eval s=v) (d:TypeId) (D:a.eval x=aC W.heap.size 1 1) (m:n+1<=maxLen) (r:(n+1)*bytes<=140737488355328) (E:base<=W.heap.size)
  (h:∀c w',w'.ownsRow base e size c (n+1) (xs++b)->W.grownBy w' v.ownBlock->Lt (W.alloc (.cells b.toArray d)) v c->wpList P ops Q rest (a.put o.dst c) w'):wpList P ops Q (o::rest) a (W.alloc (.cells b.toArray d)):=by
 refine wpList_plain w fun K p=>?_;have⟨c,w',B,i,k,l⟩:=jN (ty:=o.type) f base (A.alloc (.cells b.toArray d)) (ag W.heap.size 0) 1 1 b aa (by
  intro j u hu;have q:((ag W.heap.size 0):Addr).add j=(ag W.heap.size j):=by unfold Addr.add;split<;>simp_all
  rw[q,eX _ _ _ _ (by rfl)];simpa using hu) g m r aH
 have y:=p _ _ (h c w' i (dX (rP W _ none) k) l);unfold Oper.wp execOp;simp only[z,resolve,invoke,builtin,za,zb,yV,FH,mG,qG,C,D,B];exact y
theorem nY {α:Type} {enc:α->List Value} {sz:Nat} {t e:TypeId} {bytes:Nat} (k:eY P t e sz bytes) (d:∀x,(enc x).length=sz) (D:∀x,∀u∈enc x,u.oneCell'=true) (base:Nat) {v:Value} {n:Nat} {xs:List Value} {W:World} (m:W.ownsRow base e sz v n xs) {ad:Option Addr} {l:List α} (N:bV enc sz W ad l)
  (L:o.guard=none) (s x:Operand) (A:o.op=.call {callee:=.builtin .append,args:=#[s,x],argTypes:=#[t,t]})
  (B:a.eval s=v) (c:Nat) (C:a.eval x=.slice ad l.length c) (F:n+l.length<=maxLen) (I:(n+l.length)*bytes<=140737488355328) (H:base<=W.heap.size)
  (h:∀f w',w'.ownsRow base e sz f (n+l.length) (xs++l.flatMap enc)->W.grownBy w' v.ownBlock->Lt W v f->wpList P ops Q rest (a.put o.dst f) w'):wpList P ops Q (o::rest) a W:=by
 refine wpList_plain L fun K w=>?_;rcases N with rfl|⟨b,off,rfl,S,J⟩
 .have p:=jT (ty:=o.type) k m ad c;have O:a.eval x=.slice ad 0 c:=C;have d:=w _ _ (h v W (aQ m) ⟨rfl,rfl,rfl,aA _,fun _ _ _=>rfl⟩ (.inl rfl));unfold Oper.wp execOp;simp only[A,resolve,invoke,builtin,za,zb,yV,FH,mG,qG,B,O,p];exact d
 .obtain⟨f,w',p,g,i,E⟩:=jN (ty:=o.type) k base m (ag b off) l.length c (l.flatMap enc) (gK d l) (by
   intro j u hu;have G:((ag b off):Addr).add j=(ag b (off+j)):=by unfold Addr.add;split<;>simp_all
   rw[G];have M:j<l.length*sz:=by
    have:=(fI.1 hu).1;rw[gK d]at this;exact this
   have q:0<sz:=k.hsz;have z:j/sz<l.length:=(JH q).2 M;have g:=J (j/sz) z (j%sz) (qL _ q);have i:=flat_get d l (j/sz) z (j%sz) (qL _ q);have r:j/sz*sz+j%sz=j:=by rw[ze];exact Nat.div_add_mod j sz
   rw[r]at i;rw[vW,r]at g;rw[g,<-i];exact hu) (by
   intro u hu;have⟨y,_,R⟩:=yX.1 hu;exact D y u R) F I H
  have d:=w _ _ (h f w' g i E);unfold Oper.wp execOp;simp only[A,resolve,invoke,builtin,za,zb,yV,FH,mG,qG,B,C,p];exact d
end
def fQ {α:Type} (S:List α) (k:Nat) (x:α):List α:=S.take k++x::S.drop k
section
variable {α:Type} (S:List α) (k:Nat) (x:α)
theorem gL (h:k<=S.length):(fQ S k x).length=S.length+1:=by simp[fQ];omega
theorem Cg:fQ S S.length x=S++[x]:=by simp[fQ]
theorem Em:(fQ S k x).Perm (S++[x]):=by
 unfold fQ;refine List.perm_middle.trans ?_;rw[jd];exact(List.perm_append_singleton x S).symm
theorem O0 (y:α):y∈fQ S k x↔y∈S\/y=x:=by
 rw[(Em S k x).mem_iff];simp
theorem Ch (h:k<=S.length):(fQ S k x)[k]'(by rw[gL S k x h];omega)=x:=by
 unfold fQ;rw[uZ aH];simp[Nat.min_eq_left h]
theorem zl (a:0<k) (h:k<=S.length):(fQ S k x)[k-1]'(by rw[gL S k x h];omega)=S[k-1]:=by
 unfold fQ;rw[rJ aH];simp
theorem xm (y:α) (h:k<=S.length):(fQ S k x).set k y=fQ S k y:=by
 unfold fQ;have a:(S.take k).length=k:=aH;rw[su _ _ aa,a];simp
theorem wD (c:0<k) (h:k<=S.length):(fQ S k x).set k S[k-1]=fQ S (k-1) S[k-1]:=by
 rw[xm S k x _ h];obtain⟨m,rfl⟩:∃m,k=m+1:=⟨k-1,aa⟩;simp only[Fz];unfold fQ;have a:S.take (m+1)=S.take m++[S[m]]:=gT aa;have b:S.drop m=S[m]::S.drop (m+1):=ky aa;rw[a,b,dW];rfl
theorem vo {R:α->α->Prop} {S:List α} {k:Nat} {x:α} (hS:S.Pairwise R) (b:∀y∈S.drop k,R x y) (c:∀y∈S.take k,R y x):(fQ S k x).Pairwise R:=by
 unfold fQ;rw[List.pairwise_append];refine⟨hS.sublist (List.take_sublist _ _),?_,?_⟩
 .rw[lQ];exact⟨b,hS.sublist (List.drop_sublist _ _)⟩
 .intro y a z hz;rcases gW.1 hz with rfl|hz
  .exact c y a
  .rw[<-jd k S,List.pairwise_append]at hS;exact hS.2.2 y a z hz
theorem En (a:0<k) (h:k<=S.length):S.drop (k-1)=S[k-1]::S.drop k:=by
 have:=ky (show k-1<S.length by omega);rw[show k-1+1=k by omega]at this;exact this
end
theorem aS {w:World} {base:Nat} {e:TypeId} {size:Nat} {v:Value} {n:Nat} {xs:List Value} (h:w.ownsRow base e size v n xs) (k:0<n):∃g c,v=aC g n c/\base<=g/\g<w.heap.size/\n<=c/\c<=maxLen:=by
 rcases h.2 with⟨_,l⟩|⟨g,a,j,rfl,b,d,f,i,_⟩
 .omega
 .exact⟨g,a,rfl,b,(bg.1 d).1,f,i⟩
theorem bn {w w':World} {base:Nat} {e:TypeId} {size n:Nat} {v:Value} {xs:List Value} (h:w.ownsRow base e size v n xs) (i:∀a,v.ownBlock=some a->w'.heap[a]? =w.heap[a]?):w'.ownsRow base e size v n xs:=by
 have⟨d,f⟩:=h;refine⟨d,?_⟩;rcases f with h|⟨g,b,c,rfl,j,k,r⟩
 .exact .inl h
 .exact .inr ⟨g,b,c,rfl,j,(i g rfl).trans k,r⟩
theorem aG {w:World} {a:Addr} {v:Value} {b:Nat} (h:a.block≠b):(w.setCell a v).heap[b]? =w.heap[b]? :=Below.heap_setCell w a v b (jk h)
theorem mK {w:World} {base g n c m:Nat} {e:TypeId} {size:Nat} {xs:List Value} (h:w.ownsRow base e size (aC g n c) n xs) (p:m<=n):w.ownsRow base e size (aC g m c) m (xs.take (m*size)):=by
 have⟨f,i⟩:=h;have o:m*size<=n*size:=oz _ p;refine⟨by rw[dO,f];omega,?_⟩;rcases i with⟨h,_⟩|⟨u,s,b,j,k,l,v,r,q,ht⟩
 .cases h
 .injection j with a t d;injection a with a;injection a with a _ _;subst a d;refine .inr ⟨g,c,b,rfl,k,l,aa,r,q,?_⟩;have:=congrArg (List.take (m*size)) ht;rw[Ca,Nat.min_eq_left o]at this;exact this
theorem qN {α:Type} {enc:α->List Value} {sz:Nat} (a:∀x,(enc x).length=sz):∀(l:List α) (m:Nat),(l.flatMap enc).take (m*sz)=(l.take m).flatMap enc
 |[],m=>ax
 |x::l,0=>ax
 |x::l,m+1=>by
  rw[mE,qo,mE,nE,Nat.one_mul,Nat.add_comm,<-a x,List.take_length_add_append,a x,qN a l m]
structure aB (S:Nat->Prop) (W w':World):Prop where
 os:w'.os=W.os
 tape:w'.tape=W.tape
 output:w'.output=W.output
 size:W.heap.size<=w'.heap.size
 block:∀k,k<W.heap.size->¬S k->w'.heap[k]? =W.heap[k]?
theorem aB.refl (S:Nat->Prop) (W:World):aB S W W:=⟨rfl,rfl,rfl,aA _,fun _ _ _=>rfl⟩
theorem aB.trans {S:Nat->Prop} {W w1 w2:World} (h:aB S W w1) (a:aB S w1 w2):aB S W w2:=
 ⟨a.os.trans h.os,a.tape.trans h.tape,a.output.trans h.output,bA h.size a.size,fun k b c=>(a.block k (cO b h.size) c).trans (h.block k b c)⟩
theorem aB.below {S:Nat->Prop} {W w1 w2:World} (h:aB S W w1) (a:Below w1.heap.size w1 w2):aB S W w2:=
 ⟨a.os.trans h.os,a.tape.trans h.tape,a.output.trans h.output,bA h.size a.size,fun k b c=>(a.block k (cO b h.size)).trans (h.block k b c)⟩
theorem aB.grown {S:Nat->Prop} {W w1 w2:World} {r:Option Nat} (h:aB S W w1) (a:w1.grownBy w2 r) (d:∀k,r=some k->S k\/W.heap.size<=k):aB S W w2:=
 ⟨a.os.trans h.os,a.tape.trans h.tape,a.output.trans h.output,bA h.size a.size,fun k b c=>(a.block k (cO b h.size) (fun e=>by rcases d k e.symm with h9|h9;exact c h9;omega)).trans (h.block k b c)⟩
theorem aB.set {S:Nat->Prop} {W w1:World} (h:aB S W w1) {a:Addr} (v:Value) (c:S a.block\/W.heap.size<=a.block):aB S W (w1.setCell a v):=
 ⟨h.os,h.tape,h.output,aQ h.size,fun k d b=>(aG (fun e=>by rcases c with h9|h9;exact b (e▸h9);omega)).trans (h.block k d b)⟩
theorem aB.drew {S:Nat->Prop} {W w1:World} (h:aB S W w1):aB S W w1.drew:=⟨h.os,h.tape,h.output,h.size,h.block⟩
theorem aB.mono {S S':Nat->Prop} {W w1:World} (h:aB S W w1) (d:∀k,S k->S' k):aB S' W w1:=⟨h.os,h.tape,h.output,h.size,fun k c b=>h.block k c fun a=>b (d k a)⟩
theorem aB.toBelow {S:Nat->Prop} {B:Nat} {W w1:World} (h:aB S W w1) (c:B<=W.heap.size) (b:∀k,S k->B<=k):Below B W w1:=⟨h.os,h.tape,h.output,h.size,fun k d=>h.block k aa fun a=>by have:=b k a;omega⟩
theorem bM {w:World} {base b:Nat} {e:TypeId} {size:Nat} {v:Value} {n:Nat} {xs:List Value} (h:w.ownsRow base e size v n xs) (i:b<=base):w.ownsRow b e size v n xs:=by
 have⟨f,a⟩:=h;refine⟨f,?_⟩;rcases a with a|⟨g,c,d,k,j,r⟩
 .exact .inl a
 .exact .inr ⟨g,c,d,k,bA i j,r⟩
section
variable {P:Program} {ops:Array Oper} {o:Oper} {a:Act} {K:Act->World->Prop} {Q:Exit->Act->World->Prop} {E0:Prop}
theorem bF {t e j:TypeId} {size bytes:Nat} {fr:Nat×Nat} (f:eY P t e size bytes) (base:Nat) {v:Value} {n:Nat} {xs:List Value} {w:World} (B:w.ownsRow base e size v n xs) (b:List Value) (I:b.length=size) (k:∀u∈b,u.oneCell'=true)
  (y:o.guard=none) (s x:Operand) (A:o.op=.call {callee:=.builtin .append,args:=#[s,x],argTypes:=#[t,t]}) (C:a.eval s=v) (c:Nat) (F:a.eval x=aC c 1 1) (r:w.heap[c]? =some (Obj.cells b.toArray j fr))
  (l:n+1<=maxLen) (q:(n+1)*bytes<=140737488355328) (m:base<=w.heap.size)
  (h:∀g d w',w'.ownsRow base e size (aC g (n+1) d) (n+1) (xs++b)->w.grownBy w' v.ownBlock->(v.ownBlock=some g\/g=w.heap.size)->g<w'.heap.size->K (a.put o.dst (aC g (n+1) d)) w'):
  if Region.wanted o (yielded ops a.tmps)=true then Oper.wp P o a w K Q else E0:=by
 obtain⟨ht,⟨i,z,hi,G,D,p,H⟩,E⟩:=f;exact step_append_lies w y s x t A base e i z size bytes ht hi G D p H E v n xs C B (ag c 0) 1 1 b F aa (vL (cs:=b.toArray) r) k ai l q m w.heap.size rfl h
theorem aY {f:FuncId} {w:World} {vals:Array Value} {R:Ending->World->Prop} (g:∀args w,(callFunc f args).run P w=.ok (.enter f args) w) (i:o.guard=none) (args:Array Operand) (n:Array TypeId) (k:o.op=.call {callee:=.value (.func f),args:=args,argTypes:=n}) (c:vals=(args.toList.map a.eval).toArray)
  (C:Calls P f vals w R) (h:∀e w',R e w'->∃v,e=.returned v/\K (a.put o.dst v) w'):
  if Region.wanted o (yielded ops a.tmps)=true then Oper.wp P o a w K Q else E0:=by
 have m:Region.wanted o (yielded ops a.tmps)=true:=by simp[Region.wanted,i]
 rw[aO m];unfold Oper.wp;have b:args.map a.eval=vals:=by rw[c,<-FI]
 have d:(execOp a.eval o).run P w=.ok (.enter f vals) w:=by
  simp[execOp,k,resolve,invoke,b,Act.eval,Deferred.ofValue,g]
 rw[d,Oper.upon_enter];refine C.mono fun e w' l=>?_;obtain⟨v,rfl,j⟩:=h e w' l;exact j
end
theorem aB.alloc {S:Nat->Prop} {W w1:World} (h:aB S W w1) (o:Obj):aB S W (w1.alloc o):=h.below ((aJ _ _).alloc (aA _) _)
theorem aU {S:Nat->Prop} {W W':World} {base:Nat} {e:TypeId} {sz:Nat} {v:Value} {n:Nat} {xs:List Value} (h:W.ownsRow base e sz v n xs) (K:aB S W W') (hS:∀a,v.ownBlock=some a->¬S a):W'.ownsRow base e sz v n xs:=
 bn h fun a e=>K.block a (h.lt a e).2 (hS a e)
theorem bu {S:Nat->Prop} {W W':World} (K:aB S W W') {b:Nat} {o:Obj} (h:W.heap[b]? =some o) (hS:¬S b):W'.heap[b]? =some o:=(K.block b (bg.1 h).1 hS).trans h
theorem di {S:Nat->Prop} {W W':World} (K:aB S W W') {b:Nat} (a:b<W.heap.size) (hS:¬S b):(∀o,W'.cell? (ag b o)=W.cell? (ag b o))/\(∀o,W'.frozen? (ag b o)=W.frozen? (ag b o)):=
 ⟨fun o=>dJ (K.block b a hS),fun o=>qm (K.block b a hS)⟩
theorem bY (w:World) (o:Obj):(w.alloc o).heap[w.heap.size]? =some o:=vK w o
theorem FR (w:World) (o a:Obj):((w.alloc o).alloc a).heap[w.heap.size]? =some o:=(bU _ _ _ ax).trans (bY w o)
theorem Ci (w:World) (o a:Obj):((w.alloc o).alloc a).heap[w.heap.size+1]? =some a:=by
 have:=bY (w.alloc o) a;rwa [show(w.alloc o).heap.size=w.heap.size+1 by simp]at this
theorem lU (w:World) (o:Obj):(w.alloc o).drew.heap[w.heap.size]? =some o:=bY w o
theorem xn (w:World) (o a:Obj):((w.alloc o).alloc a).drew.heap[w.heap.size]? =some o:=FR w o a
theorem xq (w:World) (o a:Obj):((w.alloc o).alloc a).drew.heap[w.heap.size+1]? =some a:=Ci w o a
section
variable {W:World} {base:Nat}
theorem bz {e t:TypeId} {sz k X:Nat} {v:Value} {xs:List Value} {cs:Array Value} {fr:Nat×Nat} (h:W.ownsRow base e sz v k xs) (d:W.heap[X]? =some (Obj.cells cs t fr)) (f:t≠e):∀b,v.ownBlock=some b->X≠b:=by
 rintro b c rfl;rcases h.2 with⟨rfl,_⟩|⟨g,i,j,rfl,_,a,_⟩
 .cases c
 .simp only[Value.ownBlock,jH]at c;subst c;rw[d]at a;injection a with a;injection a with _ a _;exact f a
theorem eD {X b:Nat} {cs d:Array Value} {t c:TypeId} {fr e:Nat×Nat} (f:W.heap[X]? =some (Obj.cells cs t fr)) (a:W.heap[b]? =some (Obj.cells d c e)) (h:t≠c):X≠b:=by
 rintro rfl;rw[f]at a;injection a with a;injection a with _ a _;exact h a
theorem bB {f i:Nat} {e c:TypeId} {sz n k k':Nat} {v d:Value} {xs o:List Value} (h:W.ownsRow f e sz v k xs) (h':W.ownsRow i c n d k' o) (m:e≠c):∀a,v.ownBlock=some a->d.ownBlock≠some a:=by
 intro a j b;rcases h'.2 with⟨rfl,_⟩|⟨g,p,q,rfl,_,l,_⟩
 .cases b
 .simp only[Value.ownBlock,jH]at b;subst b;exact bz h l (jk m) _ j rfl
theorem aB.strip {S:Nat->Prop} {w1:World} (h:aB (fun k=>S k\/W.heap.size<=k) W w1):aB S W w1:=⟨h.os,h.tape,h.output,h.size,fun k a b=>h.block k a fun h9=>by rcases h9 with h9|h9;exact b h9;omega⟩
end
end
section
open Go.RowKit Go.Sort Go.Shelf Go.Lib Go.Maps
def dh (l:List Int):List Int:=l.mergeSort fun x y=>decide (x<=y)
theorem dY (l:List Int):(dh l).length=l.length:=(pg l _).length_eq
theorem A7 {w:World} {base n:Nat} {v:Value} {l:List Int} (h:w.ownsRow base 27 1 v n (l.map (Value.int .u32))) (d:n<=1000000):
  aK 64 #[v] w fun e w'=>e=.returned (.tuple #[])/\w'.ownsRow base 27 1 v n ((dh l).map (Value.int .u32))/\aB (fun k=>v.ownBlock=some k) w w':=by
 have c:l.length=n:=by have:=h.1;simpa using this
 have⟨u,j⟩:=h;rcases j with⟨rfl,i⟩|⟨g,f,s,rfl,m,a,x,p,z,ht⟩
 .subst i;refine(G6 none 0 w).mono ?_;rintro e w' ⟨rfl,rfl⟩;have:l=[]:=iC c;subst this;exact⟨rfl,by simpa[dh]using cZ w' base 27 1,aB.refl _ _⟩
 .subst c;rw[ji]at ht;have o:g<w.heap.size:=(bg.1 a).1;refine(Uh g 0 f l w (holds_of_block a ht) o aa).mono ?_;rintro e w' ⟨rfl,q,os,rfl⟩;obtain⟨t,-,-,-,b⟩:=tH (l':=dh l) m a aa p aa (dY l) q os;rw[dY]at b;refine⟨rfl,b,rfl,rfl,rfl,?_,fun k y d=>?_⟩
  .show w.heap.size<=((w.heap.modify g _)++os).size;simp
  .have r:g≠k:=fun e=>d (by rw[e];rfl);show((w.heap.modify g _)++os)[k]? =_;rw[yI aH,yN,aN r]
end
end Go.Proofs.YtkjdbndekceffaaGreat
set_option autoImplicit false
namespace Go.Proofs.YtkjdbndekceffaaGreat
open Tryz
section
open Go
inductive FT where
 |leaf (a:Nat)
 |node (l r:FT)
namespace FT
def lo:FT->Nat
 |leaf a=>a
 |node l _=>l.lo
def hi:FT->Nat
 |leaf a=>a+1
 |node _ r=>r.hi
def size:FT->Nat
 |leaf _=>1
 |node l r=>l.size+r.size+1
def ht:FT->Nat
 |leaf _=>0
 |node l r=>max l.ht r.ht+1
def wf:FT->Prop
 |leaf _=>True
 |node l r=>l.wf/\r.wf/\l.hi=r.lo
theorem size_pos (t:FT):0<t.size:=by cases t<;>simp[size]
theorem fF:∀(t:FT),t.wf->t.lo<t.hi
 |leaf a,_=>by simp[lo,hi]
 |node l r,h=>by
  have b:=fF l h.1;have c:=fF r h.2.1;have d:=h.2.2;simp only[lo,hi];omega
theorem size_eq:∀(t:FT),t.wf->t.size+1=2*(t.hi-t.lo)
 |leaf a,_=>by simp only[size,lo,hi];omega
 |node l r,h=>by
  have b:=size_eq l h.1;have c:=size_eq r h.2.1;have d:=h.2.2;have e:=fF l h.1;have f:=fF r h.2.1;simp only[size,lo,hi];omega
end FT
def dU (a n:Nat):FT:=
 if h:n<=1 then .leaf a else .node (dU a (n-n/2)) (dU (a+(n-n/2)) (n/2))
 termination_by n
 decreasing_by all_goals omega
theorem A8 (a n:Nat) (h:n<=1):dU a n=.leaf a:=by rw[dU,dif_pos h]
theorem FU (a n:Nat) (h:1<n):dU a n=.node (dU a (n-n/2)) (dU (a+(n-n/2)) (n/2)):=by rw[dU,dif_neg aa]
theorem bR (a n:Nat) (h:0<n):(dU a n).wf/\(dU a n).lo=a/\(dU a n).hi=a+n:=by
 induction n using Nat.strongRecOn generalizing a with
 |ind n ih=>
  by_cases b:n<=1
  .rw[A8 a n b];exact⟨trivial,rfl,by simp only[FT.hi];omega⟩
  .rw[FU a n aa];have⟨w1,c,e⟩:=ih (n-n/2) aa a aa;have⟨w2,d,f⟩:=ih (n/2) aa (a+(n-n/2)) aa;exact⟨⟨w1,w2,by rw[e,d]⟩,c,by simp only[FT.hi];rw[f];omega⟩
theorem fJ (a n:Nat) (h:0<n):(dU a n).size=2*n-1:=by
 have⟨w,l,r⟩:=bR a n h;have:=FT.size_eq _ w;omega
theorem wE (a n k:Nat) (h:n<=2^k):(dU a n).ht<=k:=by
 induction k generalizing a n with
 |zero=>rw[A8 a n (aQ h)];exact aA _
 |succ k ih=>
  by_cases b:n<=1
  .rw[A8 a n b];exact aT _
  .rw[FU a n aa];rw[qH]at h;have c:=ih a (n-n/2) aa;have d:=ih (a+(n-n/2)) (n/2) aa;simp only[FT.ht];omega
structure Nd where
 kind:Int
 l:Int
 r:Int
 fr:Int
 Lu:Int
 item:Int
namespace FT
def nodes:FT->Nat->List Nd
 |leaf a,_=>[⟨1,-1,-1,a,(a:Int)+1,a⟩]
 |node l r,s=>l.nodes s++r.nodes (s+l.size)++[⟨2,((s+l.size:Nat):Int)-1,((s+l.size+r.size:Nat):Int)-1,l.lo,r.hi,0⟩]
theorem iR:∀(t:FT) (s:Nat),(t.nodes s).length=t.size
 |leaf a,_=>rfl
 |node l r,s=>by
  simp only[nodes,size,bQ,iR l,iR r,eH,fE]
def At (N:List Nd) (t:FT) (s:Nat):Prop:=∃A B,N=A++t.nodes s++B/\A.length=s
theorem At.left {N:List Nd} {l r:FT} {s:Nat} (h:At N (node l r) s):At N l s:=by
 have⟨A,B,e,a⟩:=h;exact⟨A,r.nodes (s+l.size)++([⟨2,((s+l.size:Nat):Int)-1,((s+l.size+r.size:Nat):Int)-1,l.lo,r.hi,0⟩]++B),by rw[e,nodes];simp only[dW],a⟩
theorem At.right {N:List Nd} {l r:FT} {s:Nat} (h:At N (node l r) s):At N r (s+l.size):=by
 have⟨A,B,e,a⟩:=h;exact⟨A++l.nodes s,[⟨2,((s+l.size:Nat):Int)-1,((s+l.size+r.size:Nat):Int)-1,l.lo,r.hi,0⟩]++B,by rw[e,nodes];simp only[dW],by rw[bQ,iR,a]⟩
def root (t:FT) (s:Nat):Nat:=s+t.size-1
def top:FT->Nat->Nd
 |leaf a,_=>⟨1,-1,-1,a,(a:Int)+1,a⟩
 |node l r,s=>⟨2,((s+l.size:Nat):Int)-1,((s+l.size+r.size:Nat):Int)-1,l.lo,r.hi,0⟩
theorem FV (t:FT) (s:Nat):(t.top s).fr=t.lo:=by cases t<;>rfl
theorem wF (t:FT) (s:Nat):(t.top s).Lu=t.hi:=by cases t<;>simp[top,hi]
theorem JV:∀(t:FT) (s:Nat),∃P,t.nodes s=P++[t.top s]/\P.length+1=t.size
 |leaf a,s=>⟨[],rfl,rfl⟩
 |node l r,s=>⟨l.nodes s++r.nodes (s+l.size),rfl,by simp only[bQ,iR,size]⟩
theorem At.get {N:List Nd} {t:FT} {s:Nat} (h:At N t s):N[t.root s]? =some (t.top s):=by
 have⟨A,B,e,a⟩:=h;have⟨P,hP,b⟩:=JV t s;unfold root;rw[e,hP,dW,dW,nV aa,nV aa];have:s+t.size-1-A.length-P.length=0:=aa;rw[this];rfl
theorem At.lt {N:List Nd} {t:FT} {s:Nat} (h:At N t s):t.root s<N.length:=(fI.1 h.get).1
def canon:FT->Nat->Nat->Nat->List Nat×Nat
 |t@(leaf _),s,a,b=>if t.hi<=a\/b<=t.lo then([],1)else([t.root s],1)
 |t@(node l r),s,a,b=>if t.hi<=a\/b<=t.lo then([],1)else if a<=t.lo/\t.hi<=b then([t.root s],1)else((l.canon s a b).1++(r.canon (s+l.size) a b).1,(l.canon s a b).2+(r.canon (s+l.size) a b).2+1)
theorem iT {t:FT} {s a b:Nat} (h:t.hi<=a\/b<=t.lo):t.canon s a b=([],1):=by
 cases t<;>(rw[canon,aO h])
theorem tJ {t:FT} {s a b:Nat} (c:¬(t.hi<=a\/b<=t.lo)) (h:a<=t.lo/\t.hi<=b):t.canon s a b=([t.root s],1):=by
 cases t with
 |leaf x=>rw[canon,aN c]
 |node l r=>rw[canon,aN c,aO h]
theorem nH {l r:FT} {s a b:Nat} (c:¬((node l r).hi<=a\/b<=(node l r).lo)) (h:¬(a<=(node l r).lo/\(node l r).hi<=b)):(node l r).canon s a b=((l.canon s a b).1++(r.canon (s+l.size) a b).1,(l.canon s a b).2+(r.canon (s+l.size) a b).2+1):=by
 rw[canon,aN c,aN h]
theorem Eo {t:FT} {s a b:Nat} (h:a<=t.lo/\t.hi<=b):(t.canon s a b).2=1:=by
 by_cases c:t.hi<=a\/b<=t.lo
 .rw[iT c]
 .rw[tJ c h]
theorem Ep (t:FT) (n:t.wf) (s a b:Nat) (h:a<=t.lo\/t.hi<=b):(t.canon s a b).2<=2*t.ht+1:=by
 induction t generalizing s with
 |leaf x=>
  rw[canon];split<;>simp[ht]
 |node l r f g=>
  by_cases c:(node l r).hi<=a\/b<=(node l r).lo
  .rw[iT c];simp
  .by_cases d:a<=(node l r).lo/\(node l r).hi<=b
   .rw[tJ c d];simp
   .rw[nH c d];simp only[ht];have⟨w1,w2,e⟩:=n;have o:=fF l w1;have p:=fF r w2;simp only[lo,hi]at h c d;rcases h with h|h
    .have m:=g w2 (s+l.size) (.inl aa);have k:=f w1 s (.inl h);by_cases j:l.hi<=b
     .have:=Eo (t:=l) (s:=s) (a:=a) (b:=b) ⟨h,j⟩;omega
     .have:=iT (t:=r) (s:=s+l.size) (a:=a) (b:=b) (.inr aa);rw[this];show(l.canon s a b).2+1+1<=_;omega
    .have m:=g w2 (s+l.size) (.inr h);have k:=f w1 s (.inr aa);by_cases i:a<=r.lo
     .have:=Eo (t:=r) (s:=s+l.size) (a:=a) (b:=b) ⟨i,h⟩;omega
     .have:=iT (t:=l) (s:=s) (a:=a) (b:=b) (.inl aa);rw[this];show 1+(r.canon (s+l.size) a b).2+1<=_;omega
theorem Cj (t:FT) (h:t.wf) (s a b:Nat):(t.canon s a b).2<=4*t.ht+1:=by
 induction t generalizing s with
 |leaf x=>
  rw[canon];split<;>simp[ht]
 |node l r i j=>
  by_cases c:(node l r).hi<=a\/b<=(node l r).lo
  .rw[iT c];simp
  .by_cases d:a<=(node l r).lo/\(node l r).hi<=b
   .rw[tJ c d];simp
   .rw[nH c d];simp only[ht];have⟨w1,w2,e⟩:=h;have n:=fF l w1;have o:=fF r w2;simp only[lo,hi]at c d;by_cases g:b<=r.lo
    .have:=iT (t:=r) (s:=s+l.size) (a:=a) (b:=b) (.inr g);rw[this];have:=i w1 s;show(l.canon s a b).2+1+1<=_;omega
    .by_cases f:l.hi<=a
     .have:=iT (t:=l) (s:=s) (a:=a) (b:=b) (.inl f);rw[this];have:=j w2 (s+l.size);show 1+(r.canon (s+l.size) a b).2+1<=_;omega
     .have k:=Ep l w1 s a b (.inr aa);have m:=Ep r w2 (s+l.size) a b (.inl aa);show(l.canon s a b).2+(r.canon (s+l.size) a b).2+1<=_;omega
def path:FT->Nat->Nat->List Nat
 |leaf _,s,_=>[s]
 |node l r,s,x=>(node l r).root s::(if x<l.hi then l.path s x else r.path (s+l.size) x)
theorem pG:∀(t:FT) (s x:Nat),(t.path s x).length<=t.ht+1
 |leaf _,_,_=>aA _
 |node l r,s,x=>by
  have a:=pG l s x;have b:=pG r (s+l.size) x;simp only[path,ht,eH];split<;>omega
theorem uC (t:FT) (s x:Nat):∃P,t.path s x=t.root s::P:=by
 cases t with
 |leaf a=>exact⟨[],by simp[path,root,size]⟩
 |node l r=>exact⟨_,rfl⟩
end FT
end
end Go.Proofs.YtkjdbndekceffaaGreat
set_option autoImplicit false
namespace Go.Proofs.YtkjdbndekceffaaGreat
open Tryz
section
open Go
def nl (YS:List Nat) (t:FT):List Nat:=YS.filter fun i=>decide (t.lo<=i/\i<t.hi)
def FW (yv:Nat->Int) (y1 y2:Int) (L:List Nat):List Nat:=L.filter fun i=>decide (y1<=yv i/\yv i<=y2)
def below (yv:Nat->Int) (y:Int) (L:List Nat):Nat:=L.countP fun i=>decide (yv i<y)
def upto (yv:Nat->Int) (y:Int) (L:List Nat):Nat:=L.countP fun i=>decide (yv i<=y)
theorem uD (YS:List Nat) (l r:FT) (a:(FT.node l r).wf):nl YS l=(nl YS (.node l r)).filter fun i=>decide (i<l.hi):=by
 unfold nl;rw[sK];have d:=FT.fF r a.2.1;have e:=a.2.2;refine l9 fun i _=>?_;have b:(FT.node l r).lo=l.lo:=rfl;have c:(FT.node l r).hi=r.hi:=rfl;rw[nD,b,c,nA,bO,bO,bO];exact⟨fun h=>⟨aa,aa⟩,fun h=>aa⟩
theorem pI (YS:List Nat) (l r:FT) (a:(FT.node l r).wf):nl YS r=(nl YS (.node l r)).filter fun i=>!decide (i<l.hi):=by
 unfold nl;rw[sK];have d:=FT.fF l a.1;have e:=a.2.2;refine l9 fun i _=>?_;have b:(FT.node l r).lo=l.lo:=rfl;have c:(FT.node l r).hi=r.hi:=rfl;rw[nD,b,c,nA,bO,bO,pE,gY];exact⟨fun h=>⟨aa,aa⟩,fun h=>aa⟩
theorem tK {p:Nat->Bool}:∀(L:List Nat),L.Pairwise (fun i k=>p k=true->p i=true)->L.take (L.countP p)=L.filter p
 |[],_=>rfl
 |i::L,h=>by
  rw[lQ]at h;cases hp:p i with
  |true=>
   rw[JG hp,qo,Fg hp,tK L h.2]
  |false=>
   have b:∀k∈L,p k=false:=fun k a=>by
    cases e:p k with
    |false=>rfl
    |true=>have:=h.1 k a e;rw[hp]at this;cases this
   have c:L.countP p=0:=Fs.2 fun k a=>by rw[b k a];decide
   have d:L.filter p=[]:=yL.2 fun k a=>by rw[b k a];decide
   rw[List.countP_cons_of_neg (by rw[hp];decide),c,yK (by rw[hp];decide),d];rfl
theorem JW {yv:Nat->Int} {L:List Nat} (a:L.Pairwise fun i k=>yv i<=yv k) (y:Int):L.take (below yv y L)=L.filter fun i=>decide (yv i<y):=
 tK L (a.imp fun h b=>by simp only[bO]at*;omega)
theorem Er {yv:Nat->Int} {L:List Nat} (a:L.Pairwise fun i k=>yv i<=yv k) (y:Int):L.take (upto yv y L)=L.filter fun i=>decide (yv i<=y):=
 tK L (a.imp fun h b=>by simp only[bO]at*;omega)
theorem G7 {p:Nat->Bool} (L:List Nat) (h:L.Pairwise fun i k=>p k=true->p i=true):L.drop (L.countP p)=L.filter fun i=>!p i:=by
 induction L with
 |nil=>rfl
 |cons i L ih=>
  rw[lQ]at h;cases hp:p i with
  |true=>
   rw[JG hp,vM,yK (by rw[hp];decide),ih h.2]
  |false=>
   have a:∀k∈L,p k=false:=fun k hk=>by
    cases c:p k with
    |false=>rfl
    |true=>have:=h.1 k hk c;rw[hp]at this;cases this
   have b:L.countP p=0:=Fs.2 fun k hk=>by rw[a k hk];decide
   rw[List.countP_cons_of_neg (by rw[hp];decide),b,jY,kV.2];intro k hk;rcases gW.1 hk with rfl|hk
   .rw[hp];rfl
   .rw[a k hk];rfl
theorem Es {yv:Nat->Int} {L:List Nat} (a:L.Pairwise fun i k=>yv i<=yv k) (y1 y2:Int) (h:y1<=y2):(L.take (upto yv y2 L)).drop (below yv y1 L)=FW yv y1 y2 L:=by
 rw[Er a];have e:below yv y1 L=below yv y1 (L.filter fun i=>decide (yv i<=y2)):=by
  unfold below;rw[BC];refine BK fun i _=>?_;simp only[nA,bO];omega
 rw[e];unfold below;rw[G7 _ ((a.filter _).imp fun h b=>by simp only[bO]at*;omega),sK];unfold FW;refine l9 fun i _=>?_;simp only[<-decide_not,<-Bool.decide_and,pF];omega
theorem below_le {yv:Nat->Int} {L:List Nat} {y1 y2:Int} (h:y1<=y2):below yv y1 L<=upto yv y2 L:=by
 unfold below upto;exact List.countP_mono_left fun i _ a=>by simp only[bO]at*;omega
theorem xu {yv:Nat->Int} {L:List Nat} {y:Int}:upto yv y L<=L.length:=JI
theorem Et {yv:Nat->Int} {L:List Nat} {y:Int}:below yv y L<=L.length:=JI
theorem RG {yv:Nat->Int} {L:List Nat} (a:L.Pairwise fun i k=>yv i<=yv k) (y1 y2:Int) (h:y1<=y2):(FW yv y1 y2 L).length+below yv y1 L=upto yv y2 L:=by
 rw[<-Es a y1 y2 h,mg,dO];have b:=below_le (yv:=yv) (L:=L) h;have c:=xu (yv:=yv) (L:=L) (y:=y2);omega
def lf (m:Nat) (L:List Nat):List Int:=(List.range (L.length+1)).map fun j=>(((L.take j).countP fun i=>decide (i<m):Nat):Int)
theorem tL (m:Nat) (L:List Nat):(lf m L).length=L.length+1:=by simp[lf]
theorem qO (m:Nat) (L:List Nat) (j:Nat) (h:j<(lf m L).length):(lf m L)[j]=(((L.take j).countP fun i=>decide (i<m):Nat):Int):=by simp[lf]
theorem FX {YS:List Nat} {yv:Nat->Int} (l r:FT) (a:(FT.node l r).wf) (b:YS.Pairwise fun i k=>yv i<=yv k) (y:Int):
  ((nl YS (.node l r)).take (below yv y (nl YS (.node l r)))).countP (fun i=>decide (i<l.hi))=below yv y (nl YS l)/\below yv y (nl YS l)+below yv y (nl YS r)=below yv y (nl YS (.node l r)):=by
 have c:(nl YS (.node l r)).Pairwise fun i k=>yv i<=yv k:=b.filter _;rw[JW c,uD YS l r a,pI YS l r a];generalize nl YS (.node l r)=L;unfold below;constructor
 .rw[BC,BC];refine BK fun i _=>?_;simp only[nA];exact And.comm
 .induction L with
  |nil=>rfl
  |cons i L ih=>
   simp only[lT,vS];by_cases h:i<l.hi<;>simp only[h,decide_true,decide_false,y5,Bool.not_false,gJ,jC,pq,vS]<;>omega
theorem G8 {YS:List Nat} {yv:Nat->Int} (l r:FT) (a:(FT.node l r).wf) (b:YS.Pairwise fun i k=>yv i<=yv k) (y:Int):
  ((nl YS (.node l r)).take (upto yv y (nl YS (.node l r)))).countP (fun i=>decide (i<l.hi))=upto yv y (nl YS l)/\upto yv y (nl YS l)+upto yv y (nl YS r)=upto yv y (nl YS (.node l r)):=by
 have c:(nl YS (.node l r)).Pairwise fun i k=>yv i<=yv k:=b.filter _;rw[Er c,uD YS l r a,pI YS l r a];generalize nl YS (.node l r)=L;unfold upto;constructor
 .rw[BC,BC];refine BK fun i _=>?_;simp only[nA];exact And.comm
 .induction L with
  |nil=>rfl
  |cons i L ih=>
   simp only[lT,vS];by_cases h:i<l.hi<;>simp only[h,decide_true,decide_false,y5,Bool.not_false,gJ,jC,pq,vS]<;>omega
def down (YS:List Nat) (yv:Nat->Int) (y1 y2:Int) (fr tu:Nat):FT->List Nat×Nat
 |t@(.leaf _)=>if upto yv y2 (nl YS t)<=below yv y1 (nl YS t)\/t.hi<=fr\/tu<=t.lo then([],1)else(FW yv y1 y2 (nl YS t),1)
 |t@(.node l r)=>if upto yv y2 (nl YS t)<=below yv y1 (nl YS t)\/t.hi<=fr\/tu<=t.lo then([],1)else if fr<=t.lo/\t.hi<=tu then(FW yv y1 y2 (nl YS t),1)else((down YS yv y1 y2 fr tu l).1++(down YS yv y1 y2 fr tu r).1,1+(down YS yv y1 y2 fr tu l).2+(down YS yv y1 y2 fr tu r).2)
section
variable {YS:List Nat} {yv:Nat->Int} {y1 y2:Int} {fr tu:Nat}
theorem xw {t:FT} (h:upto yv y2 (nl YS t)<=below yv y1 (nl YS t)\/t.hi<=fr\/tu<=t.lo):down YS yv y1 y2 fr tu t=([],1):=by
 cases t<;>(rw[down,aO h])
theorem FY {t:FT} (h:¬(upto yv y2 (nl YS t)<=below yv y1 (nl YS t)\/t.hi<=fr\/tu<=t.lo)) (b:fr<=t.lo/\t.hi<=tu):down YS yv y1 y2 fr tu t=(FW yv y1 y2 (nl YS t),1):=by
 cases t with
 |leaf a=>rw[down,aN h]
 |node l r=>rw[down,aN h,aO b]
theorem zm {l r:FT} (h:¬(upto yv y2 (nl YS (.node l r))<=below yv y1 (nl YS (.node l r))\/(FT.node l r).hi<=fr\/tu<=(FT.node l r).lo)) (a:¬(fr<=(FT.node l r).lo/\(FT.node l r).hi<=tu)):down YS yv y1 y2 fr tu (.node l r)=((down YS yv y1 y2 fr tu l).1++(down YS yv y1 y2 fr tu r).1,1+(down YS yv y1 y2 fr tu l).2+(down YS yv y1 y2 fr tu r).2):=by
 rw[down,aN h,aN a]
theorem MP (t:FT) (e:t.wf) (s:Nat):(down YS yv y1 y2 fr tu t).2<=(t.canon s fr tu).2:=by
 induction t generalizing s with
 |leaf a=>
  rw[down,FT.canon];split<;>split<;>simp
 |node l r f g=>
  have d:1<=((FT.node l r).canon s fr tu).2:=by
   rw[FT.canon];split
   .exact aA _
   .split
    .exact aA _
    .exact Nat.le_add_left _ _
  by_cases b:upto yv y2 (nl YS (.node l r))<=below yv y1 (nl YS (.node l r))\/(FT.node l r).hi<=fr\/tu<=(FT.node l r).lo
  .rw[xw b];exact d
  .by_cases c:fr<=(FT.node l r).lo/\(FT.node l r).hi<=tu
   .rw[FY b c];exact d
   .rw[zm b c,FT.nH (fun h=>b (.inr h)) c];have i:=f e.1 s;have j:=g e.2.1 (s+l.size);show 1+_+_<=_+_+1;omega
theorem xx (t:FT) (o:t.wf) (q:YS.Pairwise fun i k=>yv i<=yv k) (s:y1<=y2) (i:Nat):i∈(down YS yv y1 y2 fr tu t).1↔i∈nl YS t/\fr<=i/\i<tu/\y1<=yv i/\yv i<=y2:=by
 have p:∀t:FT,upto yv y2 (nl YS t)<=below yv y1 (nl YS t)->∀i∈nl YS t,¬(y1<=yv i/\yv i<=y2):=fun t h i hi b=>by
  have f:=RG (q.filter (fun i=>decide (t.lo<=i/\i<t.hi))) y1 y2 s;have d:(FW yv y1 y2 (nl YS t)).length=0:=by unfold nl at h |-;omega
  have n:i∈FW yv y1 y2 (nl YS t):=bI.2 ⟨hi,aQ b⟩;rw[iC d]at n;cases n
 have g:∀t:FT,∀i∈nl YS t,t.lo<=i/\i<t.hi:=fun t i hi=>by simpa using(bI.1 hi).2
 induction t with
 |leaf a=>
  by_cases e:upto yv y2 (nl YS (.leaf a))<=below yv y1 (nl YS (.leaf a))\/(FT.leaf a).hi<=fr\/tu<=(FT.leaf a).lo
  .rw[xw e];refine⟨fun h=>absurd h iO,fun⟨c,b,f,d⟩=>?_⟩;have n:=g _ i c;rcases e with h|h|h
   .exact absurd d (p _ h i c)
   .omega
   .omega
  .rw[down,aN e];show i∈FW yv y1 y2 _↔_;unfold FW;rw[bI,bO];refine⟨fun⟨c,b⟩=>⟨c,?_,?_,b⟩,fun⟨c,b,f,d⟩=>⟨c,d⟩⟩
   .have:=g _ i c;simp only[FT.lo,FT.hi]at this e;omega
   .have:=g _ i c;simp only[FT.lo,FT.hi]at this e;omega
 |node l r u v=>
  by_cases e:upto yv y2 (nl YS (.node l r))<=below yv y1 (nl YS (.node l r))\/(FT.node l r).hi<=fr\/tu<=(FT.node l r).lo
  .rw[xw e];refine⟨fun h=>absurd h iO,fun⟨c,b,f,d⟩=>?_⟩;have n:=g _ i c;rcases e with h|h|h
   .exact absurd d (p _ h i c)
   .omega
   .omega
  .by_cases c:fr<=(FT.node l r).lo/\(FT.node l r).hi<=tu
   .rw[FY e c];show i∈FW yv y1 y2 _↔_;unfold FW;rw[bI,bO];refine⟨fun⟨b,f⟩=>⟨b,?_,?_,f⟩,fun⟨b,_,_,d⟩=>⟨b,d⟩⟩
    .have:=g _ i b;omega
    .have:=g _ i b;omega
   .rw[zm e c];show i∈_++_↔_;have j:=u o.1;have m:=v o.2.1;rw[uD YS l r o,bI,bO]at j;rw[pI YS l r o,bI,pE,gY]at m;constructor
    .intro h;rcases bW.1 h with h|h
     .exact⟨(j.1 h).1.1,(j.1 h).2⟩
     .exact⟨(m.1 h).1.1,(m.1 h).2⟩
    .rintro⟨b,f⟩;by_cases d:i<l.hi
     .exact bW.2 (.inl (j.2 ⟨⟨b,d⟩,f⟩))
     .exact bW.2 (.inr (m.2 ⟨⟨b,d⟩,f⟩))
theorem Ck (t:FT) (b:t.wf) (d:YS.Nodup) (f:YS.Pairwise fun i k=>yv i<=yv k) (g:y1<=y2):(down YS yv y1 y2 fr tu t).1.Nodup:=by
 have c:∀(L:List Nat) (p:Nat->Bool),L.Nodup->(L.filter p).Nodup:=fun L p h=>mD _ h
 induction t with
 |leaf a=>
  rw[down];split
  .exact qD
  .exact c _ _ (c _ _ d)
 |node l r o q=>
  rw[down];split
  .exact qD
  .split
   .exact c _ _ (c _ _ d)
   .refine oG.2 ⟨o b.1,q b.2.1,fun i hi k n e=>?_⟩;subst e;have j:=((xx l b.1 f g i).1 hi).1;have m:=((xx r b.2.1 f g i).1 n).1;have s:l.lo<=i/\i<l.hi:=by simpa using(bI.1 j).2
    have u:r.lo<=i/\i<r.hi:=by simpa using(bI.1 m).2
    have:=b.2.2;omega
end
end
section
abbrev Pt:=Int×Int×Int
def kY (p q:Pt):Prop:=p.1<q.1\/p.1=q.1/\p.2.2<q.2.2
def mM (p q:Pt):Prop:=p.2.1<q.2.1\/p.2.1=q.2.1/\p.2.2<q.2.2
def xy (q p:Pt):Bool:=decide (p.1<=q.1)&&decide (p.2.1<=q.2.1)&&(decide (q.1≠p.1)||decide (q.2.1≠p.2.1))
def pJ (l:List Pt) (p:Pt):Bool:=l.any fun q=>xy q p
instance:DecidableRel kY:=fun p q=>by unfold kY;exact inferInstance
instance:DecidableRel mM:=fun p q=>by unfold mM;exact inferInstance
theorem uE (q p:Pt):xy q p=true↔p.1<=q.1/\p.2.1<=q.2.1/\(q.1≠p.1\/q.2.1≠p.2.1):=by
 simp[xy,and_assoc]
theorem oN (q p:Pt):xy q p=false↔¬(p.1<=q.1/\p.2.1<=q.2.1/\(q.1≠p.1\/q.2.1≠p.2.1)):=by
 rw[<-uE];simp
theorem qP (l:List Pt) (p:Pt):pJ l p=true↔∃q∈l,xy q p=true:=by simp[pJ]
theorem qQ (l:List Pt) (p:Pt):pJ l p=false↔∀q∈l,xy q p=false:=by simp[pJ]
theorem pK {p q r:Pt} (h:kY p q) (a:kY q r):kY p r:=by unfold kY at*;omega
theorem uF (p:Pt):¬kY p p:=by unfold kY;omega
theorem Eu {p q:Pt} (h:kY p q) (a:kY q p):False:=by unfold kY at*;omega
theorem pM {p q r:Pt} (h:mM p q) (a:mM q r):mM p r:=by unfold mM at*;omega
theorem xz (p:Pt):¬mM p p:=by unfold mM;omega
theorem Ev {p q:Pt} (h:mM p q) (a:mM q p):False:=by unfold mM at*;omega
theorem uG {p q r:Pt} (h:xy p q=true) (a:xy q r=true):xy p r=true:=by
 rw[uE]at*;omega
theorem Lv (p:Pt):xy p p=false:=by rw[oN];omega
theorem mi {α:Type} {R:α->α->Prop} (c:∀p,¬R p p) {l:List α} (h:l.Pairwise R):l.Nodup:=by
 show l.Pairwise (·≠·);exact h.imp fun{a b} d e=>by subst e;exact c a d
theorem qR {α:Type} {R:α->α->Prop} (e:∀p,¬R p p) (has:∀{p q},R p q->R q p->False) {a b:List α} (c:a.Pairwise R) (d:b.Pairwise R) (h:∀p,p∈a↔p∈b):a=b:=by
 have hp:a.Perm b:=(xh (mi e c) (mi e d)).2 h;exact JE (fun _ _ _ _ f g=>(has f g).elim) c d hp
theorem MQ {α:Type} {p q:α->Bool} {l:List α} (h:∀x∈l,p x=true->q x=true) {y:α} (hy:y∈l) (b:q y=true) (c:p y=false):l.countP p<l.countP q:=by
 induction l with
 |nil=>cases hy
 |cons x l ih=>
  have f:l.countP p<=l.countP q:=List.countP_mono_left fun z a=>h z (by simp[a]);rw[vS,vS];rcases gW.1 hy with rfl|hy
  .simp[b,c];omega
  .have:=ih (fun z a=>h z (by simp[a])) hy;have e:=h x ax;cases d:p x
   .simp;split<;>omega
   .simp[e d];omega
theorem G9 (S:List Pt):∀(n:Nat) (q:Pt),q∈S->S.countP (fun r=>xy r q)<=n->∃t∈S,(t=q\/xy t q=true)/\pJ S t=false
 |0,q,c,h=>by
  refine⟨q,c,.inl rfl,?_⟩;rw[qQ];intro r b;have d:S.countP (fun r=>xy r q)=0:=aa;rw[Fs]at d;simpa using d r b
 |n+1,q,c,h=>by
  cases e:pJ S q
  .exact⟨q,c,.inl rfl,e⟩
  .obtain⟨r,b,a⟩:=(qP S q).1 e;have i:S.countP (fun s=>xy s r)<S.countP (fun s=>xy s q):=
    MQ (fun s _ g=>uG g a) b a (Lv r)
   have⟨t,ht,h1,f⟩:=G9 S n r b aa;refine⟨t,ht,.inr ?_,f⟩;rcases h1 with rfl|h1
   .exact a
   .exact uG h1 a
theorem Uj (S:List Pt) (q:Pt) (a:q∈S):∃t∈S,(t=q\/xy t q=true)/\pJ S t=false:=G9 S _ q a (aA _)
def Ha (S:List Pt):List Pt:=S.filter fun p=>!pJ S p
theorem RH (S:List Pt) (p:Pt):p∈Ha S↔p∈S/\pJ S p=false:=by simp[Ha]
theorem JX {S:List Pt} (h:S.Pairwise kY):(Ha S).Pairwise kY:=h.sublist Fu
def nZ (l T:List Pt):Prop:=T.Pairwise kY/\∀p,p∈T↔p∈l/\pJ l p=false
theorem nZ.unique {l A B:List Pt} (a:nZ l A) (b:nZ l B):A=B:=
 qR uF Eu a.1 b.1 fun p=>by rw[a.2,b.2]
theorem Ew {l m:List Pt} (h:∀p,p∈l↔p∈m) (p:Pt):pJ l p=pJ m p:=by
 rw[nD,qP,qP];constructor
 .rintro⟨q,b,a⟩;exact⟨q,(h q).1 b,a⟩
 .rintro⟨q,b,a⟩;exact⟨q,(h q).2 b,a⟩
theorem nZ.congr {l m T:List Pt} (h:∀p,p∈l↔p∈m) (a:nZ l T):nZ m T:=
 ⟨a.1,fun p=>by rw[a.2,h,Ew h]⟩
theorem Ex {S:List Pt} (h:S.Pairwise kY):nZ S (Ha S):=⟨JX h,RH S⟩
theorem xA {l T:List Pt} (c:nZ l T) (p:Pt):pJ T p=pJ l p:=by
 rw[nD,qP,qP];constructor
 .rintro⟨q,b,a⟩;exact⟨q,((c.2 q).1 b).1,a⟩
 .rintro⟨q,b,a⟩;have⟨t,ht,h1,d⟩:=Uj l q b;refine⟨t,(c.2 t).2 ⟨ht,d⟩,?_⟩;rcases h1 with rfl|h1
  .exact a
  .exact uG h1 a
def stp (p:Pt):List Pt->List Pt
 |[]=>[p]
 |t::T=>if p.2.1<t.2.1\/p.2.1=t.2.1/\p.1<t.1 then t::T else if p.1=t.1/\t.2.1<p.2.1 then p::(t::T).dropWhile (fun q=>decide (q.1=p.1))else p::t::T
def tN (S:List Pt):List Pt:=S.foldr stp []
theorem nI (c:Int):∀(T:List Pt),T.Pairwise (fun p q=>p.1<=q.1)->(∀q∈T,c<=q.1)->T.dropWhile (fun q=>decide (q.1=c))=T.filter fun q=>decide (q.1≠c)
 |[],_,_=>rfl
 |t::T,h,b=>by
  rw[lQ]at h;by_cases e:t.1=c
  .rw[List.dropWhile_cons_of_pos (by simp[e]),yK (by simp[e])];exact nI c T h.2 fun q a=>b q (by simp[a])
  .rw[List.dropWhile_cons_of_neg (by simp[e]),Fg (by simp[e])];congr 1;rw[kV.2];intro q a;have d:=h.1 q a;have f:=b t ax;simp;omega
theorem Ey (S:List Pt) (h:S.Pairwise kY):tN S=Ha S:=by
 induction S with
 |nil=>rfl
 |cons p S ih=>
  rw[lQ]at h;have⟨hp,hS⟩:=h;have d:=Ex hS;show stp p (tN S)=Ha (p::S);rw[ih hS];generalize A:Ha S=T at*;have y:∀q∈S,p.1<=q.1:=fun q c=>by have:=hp q c;unfold kY at this;omega
  have v:∀q,pJ (p::S) q=(xy p q||pJ S q):=fun q=>rfl;have F:pJ (p::S) p=pJ S p:=by rw[v,Lv];rfl
  have C:Ha (p::S)=(if pJ S p=true then[]else[p])++T.filter fun q=>!xy p q:=by
   rw[<-A];unfold Ha;rw[lT,F,sK];have e:(fun q=>!pJ (p::S) q)=fun q=>(!xy p q&&!pJ S q):=by
    funext q;rw[v,Bool.not_or]
   rw[e];cases pJ S p<;>simp
  rw[C];cases T with
  |nil=>
   have z:pJ S p=false:=by
    rw[<-xA d];rfl
   simp[stp,z]
  |cons t T=>
   have s:=d.1;have o:=((d.2 t).1 ax).1;have x:=((d.2 t).1 ax).2;have I:=y t o;have k:∀q∈t::T,t.1<=q.1/\q.2.1<=t.2.1:=by
    intro q c;rcases gW.1 c with rfl|hq'
    .exact⟨wC _,wC _⟩
    .have D:=(lQ.1 s).1 q hq';have m:=(qQ _ _).1 x q ((d.2 q).1 c).1;rw[oN]at m;unfold kY at D;have n:=(qQ _ _).1 ((d.2 q).1 c).2 t o;rw[oN]at n;omega
   have u:pJ S p=true↔(p.2.1<t.2.1\/p.2.1=t.2.1/\p.1<t.1):=by
    rw[<-xA d,qP];constructor
    .rintro⟨q,c,f⟩;have l:=k q c;rw[uE]at f;by_cases e:p.2.1=t.2.1/\p.1=t.1
     .have m:=(qQ _ _).1 x q ((d.2 q).1 c).1;rw[oN]at m;omega
     .omega
    .intro l;exact⟨t,ax,by rw[uE];omega⟩
   by_cases g:p.2.1<t.2.1\/p.2.1=t.2.1/\p.1<t.1
   .have j:pJ S p=true:=u.2 g;rw[aO j,gu];have i:stp p (t::T)=t::T:=by simp only[stp];rw[aO g]
    rw[i,kV.2];intro q c;have G:=((d.2 q).1 c).2;cases E:xy p q
    .rfl
    .obtain⟨r,H,f⟩:=(qP S p).1 j;have:=(qQ _ _).1 G r H;rw[uG f E]at this;cases this
   .have j:¬pJ S p=true:=fun h=>g (u.1 h);rw[aN j,Fj];by_cases w:p.1=t.1/\t.2.1<p.2.1
    .have i:stp p (t::T)=p::(t::T).dropWhile (fun q=>decide (q.1=p.1)):=by simp only[stp];rw[aN g,aO w]
     rw[i,nI p.1 (t::T) (s.imp fun{a b} B=>by unfold kY at B;omega) (fun q c=>by have:=k q c;omega)];congr 1;refine l9 fun q c=>?_;have l:=k q c;by_cases e:q.1=p.1
     .have f:xy p q=true:=by rw[uE];omega
      simp[e,f]
     .have f:xy p q=false:=by rw[oN];have:=y q ((d.2 q).1 c).1;omega
      simp[e,f]
    .have i:stp p (t::T)=p::t::T:=by simp only[stp];rw[aN g,aN w]
     rw[i,kV.2];intro q c;have l:=k q c;have n:=(qQ _ _).1 ((d.2 q).1 c).2 t o;rw[oN]at n;have f:xy p q=false:=by rw[oN];omega
     simp[f]
def DV (p q:Pt):Prop:=p.1=q.1/\p.2.1=q.2.1/\p.2.2<q.2.2\/p.1<q.1/\q.2.1<p.2.1
instance:DecidableRel DV:=fun p q=>by unfold DV;exact inferInstance
theorem MR {p q r:Pt} (h:DV p q) (a:DV q r):DV p r:=by unfold DV at*;omega
theorem pO {α:Type} {R:α->α->Prop} (ht:∀a b c,R a b->R b c->R a c):∀l:List α,(∀i (h:i+1<l.length),R l[i] l[i+1])->l.Pairwise R
 |[],_=>.nil
 |[x],_=>List.pairwise_singleton _ _
 |x::y::l,h=>by
  have ih:=pO ht (y::l) fun i hi=>by
   have:=h (i+1) (aQ hi);simpa using this
  rw[lQ];refine⟨fun z hz=>?_,ih⟩;have d:R x y:=by simpa using h 0 ax
  rcases gW.1 hz with rfl|hz
  .exact d
  .exact ht _ _ _ d ((lQ.1 ih).1 z hz)
theorem eZ {α:Type} {R:α->α->Prop} {l:List α} (h:l.Pairwise R) {p q:α} (hp:p∈l) (b:q∈l):p=q\/R p q\/R q p:=by
 obtain⟨i,hi,rfl⟩:=iN hp;obtain⟨j,a,rfl⟩:=iN b;rcases Nat.lt_trichotomy i j with h1|h1|h1
 .exact .inr (.inl (gH.1 h i j hi a h1))
 .subst h1;exact .inl rfl
 .exact .inr (.inr (gH.1 h j i a hi h1))
def qU (l:List Pt):Bool:=decide (∀i,i<l.length-1->DV (l.getD i (0,0,0)) (l.getD (i+1) (0,0,0)))
theorem og (l:List Pt):qU l=true↔∀i (h:i+1<l.length),DV l[i] l[i+1]:=by
 unfold qU;rw[decide_eq_true_iff];constructor
 .intro h i hi;have:=h i aa;simpa[hi,show i<l.length by omega]using this
 .intro h i hi;have:=h i aa;simpa[show i+1<l.length by omega,show i<l.length by omega]using this
theorem pQ {l:List Pt} (h:qU l=true):l.Pairwise DV:=pO (R:=DV) (fun _ _ _=>MR) l ((og l).1 h)
theorem Hd (l:List Pt):qU l=true↔nZ l l:=by
 constructor
 .intro h;have hp:=pQ h;refine⟨hp.imp fun{a b} f=>by unfold DV at f;unfold kY;omega,fun p=>⟨fun c=>⟨c,?_⟩,fun h=>h.1⟩⟩;rw[qQ];intro q g;rw[oN];rcases eZ hp c g with rfl|h1|h1
  .omega
  .unfold DV at h1;omega
  .unfold DV at h1;omega
 .intro h;rw[og];intro i hi;have h1:=gH.1 h.1 i (i+1) aa hi aa;have d:=(qQ _ _).1 ((h.2 l[i]).1 (bC _)).2 l[i+1] (bC _);have e:=(qQ _ _).1 ((h.2 l[i+1]).1 (bC _)).2 l[i] (bC _);rw[oN]at d e;unfold kY at h1;unfold DV;omega
def ids (l:List Pt):List Int:=l.map fun p=>p.2.2
def lF (l:List Pt):Bool:=decide (ids l).Nodup
def Uk (p q:Pt):Bool:=!decide (kY q p)
def fC (l:List Pt):List Pt:=l.mergeSort Uk
theorem dV (l:List Pt):(fC l).Perm l:=pg l Uk
theorem xB (l:List Pt) (p:Pt):p∈fC l↔p∈l:=(dV l).mem_iff
theorem RI {l:List Pt} (h:(ids l).Nodup) {p q:Pt} (hp:p∈l) (b:q∈l) (e:p.2.2=q.2.2):p=q:=by
 have a:l.Pairwise fun p q=>p.2.2≠q.2.2:=dF.1 h;rcases eZ a hp b with h1|h1|h1
 .exact h1
 .exact absurd e h1
 .exact absurd e.symm h1
theorem gz {l:List Pt} (h:(ids l).Nodup):(fC l).Pairwise kY:=by
 have d:(fC l).Pairwise fun p q=>Uk p q=true:=sH (le:=Uk) (fun p q r j k=>by simp only[Uk,pE,gY]at*;unfold kY at*;omega) (fun p q=>by simp only[Uk,BQ,pE,gY];unfold kY;omega) l;have c:(ids (fC l)).Nodup:=((dV l).map _).nodup_iff.2 h;have e:(fC l).Pairwise fun p q=>p.2.2≠q.2.2:=by
  unfold ids at c;exact dF.1 c
 refine(d.and e).imp fun{a b} g=>?_;have⟨f,i⟩:=g;simp only[Uk,pE,gY]at f;unfold kY at*;omega
def bL (l:List Pt):List Pt:=Ha (fC l)
theorem kF {l:List Pt} (h:(ids l).Nodup):nZ l (bL l):=(Ex (gz h)).congr (xB l)
theorem Lx {l S:List Pt} (h:(ids l).Nodup) (hS:S.Pairwise kY) (a:∀p,p∈S↔p∈l):S=fC l:=
 qR uF Eu hS (gz h) fun p=>by rw[a,xB]
def bsrch (p:Nat->Bool):Nat->Nat->Nat->Nat->Nat×Nat
 |0,lo,_,k=>(lo,k)
 |f+1,lo,hi,k=>if lo<hi then(if p (lo+(hi-lo)/2)then bsrch p f lo (lo+(hi-lo)/2) (k+1)else bsrch p f (lo+(hi-lo)/2+1) hi (k+1))else(lo,k)
theorem JY (p:Nat->Bool):∀(f g lo hi k:Nat),hi-lo<=f->hi-lo<=g->bsrch p f lo hi k=bsrch p g lo hi k:=by
 intro f
 induction f with
 |zero=>intro g lo hi k a b;cases g with
  |zero=>rfl
  |succ g=>simp[bsrch,show¬lo<hi by omega]
 |succ f ih=>intro g lo hi k a b;cases g with
  |zero=>simp[bsrch,show¬lo<hi by omega]
  |succ g=>
   simp only[bsrch];by_cases h:lo<hi
   .rw[aO h,aO h];rw[ih g _ _ _ aa aa,ih g _ _ _ aa aa]
   .rw[aN h,aN h]
theorem FZ (p:Nat->Bool):∀(f lo hi k:Nat),hi-lo<=f->(bsrch p f lo hi k).2<=k+(hi-lo)/\(lo<=hi->lo<=(bsrch p f lo hi k).1/\(bsrch p f lo hi k).1<=hi):=by
 intro f
 induction f with
 |zero=>intro lo hi k a;simp[bsrch]
 |succ f ih=>
  intro lo hi k a;simp only[bsrch];by_cases h:lo<hi
  .rw[aO h];split
   .have:=ih lo (lo+(hi-lo)/2) (k+1) aa;omega
   .have:=ih (lo+(hi-lo)/2+1) hi (k+1) aa;omega
  .rw[aN h];simp
def aZ (l:List Int) (x:Int):Nat×Nat:=bsrch (fun i=>decide (x<=l.getD i 0)) l.length 0 l.length 0
def aV (l:List Int) (x:Int):Nat×Nat:=bsrch (fun i=>decide (x<l.getD i 0)) l.length 0 l.length 0
end
section
open Go
abbrev cu (R:List Pt) (i:Nat):Pt:=R.getD i (0,0,0)
def ku (R:List Pt) (i:Nat):Int:=(cu R i).2.2
def l7 (R:List Pt) (i:Nat):Int:=(cu R i).2.1
theorem zn {l:List Nat} {n:Nat} (h:l.Nodup) (c:∀k∈l,k<n):l.length<=n:=by
 induction n generalizing l with
 |zero=>
  cases l with
  |nil=>exact aA _
  |cons x l=>exact absurd (c x ny) (kz _)
 |succ n ih=>
  have f:=ih (l:=l.erase n) (h.erase n) fun k e=>by
   have b:=(List.Nodup.mem_erase_iff h).1 e;have d:=c k b.2;have g:=b.1;omega
  have b:=List.length_erase_le (a:=n) (l:=l);have d:l.length<=(l.erase n).length+1:=by
   rw[List.length_erase];split<;>omega
  omega
structure dm (R:List Pt) (gone:List Bool) (YS:List Nat):Prop where
 Cm:R.Pairwise kY
 ids:(ids R).Nodup
 VG:gone.length=R.length
 nodup:YS.Nodup
 live:∀i,i∈YS↔gone[i]? =some false
 Vw:YS.Pairwise fun i k=>mM (cu R i) (cu R k)
theorem dm.lt {R:List Pt} {gone:List Bool} {YS:List Nat} (h:dm R gone YS) {i:Nat} (hi:i∈YS):i<R.length:=by
 have:=(fI.1 ((h.live i).1 hi)).1;have:=h.VG;omega
theorem dm.le {R:List Pt} {gone:List Bool} {YS:List Nat} (h:dm R gone YS):YS.Pairwise fun i k=>l7 R i<=l7 R k:=
 h.Vw.imp fun h=>by unfold mM at h;unfold l7;omega
theorem dm.len {R:List Pt} {gone:List Bool} {YS:List Nat} (h:dm R gone YS):YS.length<=R.length:=by
 exact zn h.nodup fun k a=>h.lt a
theorem dm.top {R:List Pt} {gone:List Bool} {YS:List Nat} (h:dm R gone YS) (c:0<R.length):nl YS (dU 0 R.length)=YS:=by
 obtain⟨-,a,b⟩:=bR 0 R.length c;unfold nl;refine kV.2 fun i hi=>?_;have:=h.lt hi;rw[a,b];simp;omega
def cz (R:List Pt):List Int:=R.map fun p=>p.1
def jI (R:List Pt) (YS:List Nat):List Int:=YS.map (l7 R)
def kS (R:List Pt) (YS:List Nat) (x1 x2 y1 y2:Int):List Nat×Nat:=
 if R=[]\/x2<x1\/y2<y1 then([],0)else
  ((down YS (l7 R) y1 y2 (aZ (cz R) x1).1 (aV (cz R) x2).1 (dU 0 R.length)).1,
   (aZ (cz R) x1).2+(aV (cz R) x2).2+(aZ (jI R YS) y1).2+(aV (jI R YS) y2).2+(down YS (l7 R) y1 y2 (aZ (cz R) x1).1 (aV (cz R) x2).1 (dU 0 R.length)).2)
end
section
open Go.RowKit Go.Shelf
attribute [local go_sem] Oper.semAt_some
def O1 (Bn:Nat) (W W':World):Prop:=∀o,W'.cell? (ag Bn o)=W.cell? (ag Bn o)
theorem O1.trans {a:Nat} {A B C:World} (h:O1 a A B) (b:O1 a B C):O1 a A C:=fun o=>(b o).trans (h o)
theorem He {α:Type} (enc:α->Int) (L R:α) (F:Fence) (n:Nat) (hF:F.fn 364) (t:F.round=none) (K:1<=n) (a:Nat) (w:World) (b:a<w.heap.size) (j:w.cell? (ag a 1)=some (ae (enc L))) (k:w.cell? (ag a 2)=some (ae (enc R))) (I:(enc L !=-1)=true) (J:(enc R !=-1)=true):
  SeqStopsK F n prog 364 #[aj a] (fun v:α=>#[ae (enc v)]) (O1 a) (fun xs=>xs=[L,R]) (fun f=>f=[L]\/f=[L,R]) 2 w:=fun l z A W c _ _ d i=>by
 have H:W.cell? (ag a 1)=some (ae (enc L)):=(c.cell (p:=(ag a 1)) b).trans j;have h:W.cell? (ag a 2)=some (ae (enc R)):=(c.cell (p:=(ag a 2)) b).trans k;refine callsIn_of_wp func364 rfl hF ?_ t;simp only[ntmps364,List.size_toArray,List.length_cons,List.length_nil,Nat.reduceAdd,Nat.reduceSub,Array.replicate_succ,Array.replicate_zero,List.push_toArray,List.append_toArray,List.nil_append,List.cons_append];have⟨f1,t1,C,E,y,q⟩:=d [] L W i ax;dsimp only at y
 gi_wp2
 refine q.mono ?_;rintro e g (⟨rfl,m,s⟩|⟨rfl,u⟩)
 .have d2:=(s 2).trans h;have⟨f2,t2,D,G,M,r⟩:=d [L] R g m ax
  gi_wp2
  refine r.mono ?_;rintro e B (⟨rfl,o,_⟩|⟨rfl,x⟩)
  .gi_wp2
   go_end0
   exact⟨⟨_,rfl⟩,.inl ⟨[L,R],rfl,o⟩⟩
  .gi_wp2
   go_end0
   exact⟨⟨_,rfl⟩,.inr ⟨[L,R],.inr rfl,x⟩⟩
 .gi_wp2
  refine kC (ll rfl _ _ _) rfl ?_;exact⟨⟨_,rfl⟩,.inr ⟨[L],.inl rfl,u⟩⟩
theorem LA {α:Type} (enc:α->Int) (F:Fence) (n:Nat) (hF:F.fn 364) (g:F.round=none) (q:1<=n) (a:Nat) (w:World) (b:a<w.heap.size) (e:w.cell? (ag a 1)=some (ae (-1))) (f:w.cell? (ag a 2)=some (ae (-1))):
  SeqStopsK F n prog 364 #[aj a] (fun v:α=>#[ae (enc v)]) (O1 a) (fun xs=>xs=[]) (fun r=>False) 0 w:=fun l i j W c _ _ o d=>by
 have k:W.cell? (ag a 1)=some (ae (-1)):=(c.cell (p:=(ag a 1)) b).trans e;have m:W.cell? (ag a 2)=some (ae (-1)):=(c.cell (p:=(ag a 2)) b).trans f;refine Cc func364 rfl hF ?_ g;simp only[ntmps364,ma,eH,fE,Nat.reduceAdd,Nat.reduceSub,rM,rO,mf,rQ,gu,nk]
 gi_wp2
 refine⟨fun _ h=>(by cases h),?_⟩
 gi_wp2
 go_end0
 exact⟨⟨_,rfl⟩,.inl ⟨[],rfl,d⟩⟩
def pR (d:Nd):List Value:=[.int .u8 d.kind,.int .i64 d.l,.int .i64 d.r,.int .i64 d.fr,.int .i64 d.Lu,.int .i64 0,.int .i64 d.item]
abbrev Cn (k l r f t i:Int):Value:=.agg #[.int .u8 k,ae l,ae r,ae f,ae t,ae 0,ae i]
theorem jO (d:Nd):(pR d).length=7:=rfl
theorem LB (d:Nd):∀u∈pR d,u.oneCell'=true:=by intro u hu;simp[pR]at hu;rcases hu with rfl|rfl|rfl|rfl|rfl|rfl|rfl<;>rfl
theorem Ul:eY prog 141 163 7 56:=.mk' (z:=.agg #[.int .u8 0,ae 0,ae 0,ae 0,ae 0,ae 0,ae 0]) underlying141 aL rfl ai
abbrev lV (k l r f t i:Int):Obj:=.cells #[.int .u8 k,ae l,ae r,ae f,ae t,ae 0,ae i] 163
theorem A9 (F:Fence) (n:Nat) (hF:F.fn 343) (a:F.round=none) (k l r f t i:Int) (w:World):
  CallsIn F n prog 343 #[Cn k l r f t i] w fun e w'=>e=.returned (.func (.func 364) #[] #[aj w.heap.size])/\w'=w.alloc (lV k l r f t i):=by
 refine Cc func343 rfl hF ?_ a;simp only[ntmps343,ma,eH,fE,Nat.reduceAdd,Nat.reduceSub,rM,rO,mf,rQ,gu,nk]
 gi_wp2
 go_ret;exact⟨rfl,rfl⟩
def marked {m:Nat} (kid:List Bool) (xs:List {q:Nat // q<m}):List Bool:=xs.foldl (fun l x=>l.set x.1 true) kid
theorem JZ {m:Nat} (a:List Bool) (xs:List {q:Nat // q<m}):(marked a xs).length=a.length:=by
 unfold marked
 induction xs generalizing a with
 |nil=>rfl
 |cons x xs ih=>rw[BR,ih,nu]
theorem Hf {m:Nat} (a:List Bool) (xs:List {q:Nat // q<m}) (x:{q:Nat // q<m}):marked a (xs++[x])=(marked a xs).set x.1 true:=by unfold marked;rw[List.foldl_append];rfl
theorem Ba {a B:Nat} (h:a<B) (W:World) (l:Nat) (o b:Obj) (d:B<=l):O1 a W (W.putObj l b):=fun q=>dJ (World.putObj_heap_other (fun e=>by have c:a=l:=(by first|exact e|exact e.symm);omega))
def Um (w0:World) (bx g:Nat) (kv:Value) (m base:Nat) (kid:List Bool) (pre:List {q:Nat // q<m}) (W:World):Prop:=
 W.heap[bx]? =some (.cells #[kv] 95 (0,0))/\W.ownsRow base 4 1 kv m ((marked kid pre).map Value.bool)/\aB (fun k=>k=g) w0 W
theorem O3 {w0:World} {B bx g m base:Nat} {u:Value} {r:List Bool} (n:w0.heap.size<=B):OwnFrom B (Um w0 bx g u m base r):=by
 rintro s W W' z ⟨c,d,l⟩ h j;have i:∀(b:Nat) cs t fr,W.heap[b]? =some (.cells cs t fr)->W'.heap[b]? =W.heap[b]? :=fun b cs t fr f=>h.block b (bg.1 f).1 fun e=>by
  obtain⟨-,o,a,p⟩:=j b e.symm;rw[f]at a;injection a with a;subst a;cases p
 refine⟨(i _ _ _ _ c).trans c,bn d fun y e=>?_,l.grown h fun k e=>.inr (bA n (j k e).1)⟩;rcases d.2 with⟨rfl,_⟩|⟨x,v,w,rfl,_,q,_⟩
 .cases e
 .simp only[Value.ownBlock,jH]at e;subst e;exact i _ _ _ _ q
theorem Hg (W:World) (v:Value) (t:TypeId):∀j u,[v][j]? =some u->(W.alloc (.cells #[v] t)).cell? (((ag W.heap.size 0):Addr).add j)=some u:=by
 intro j u hu;have a:((ag W.heap.size 0):Addr).add j=(ag W.heap.size j):=by unfold Addr.add;split<;>simp_all
 rw[a,eX _ _ _ _ (by rfl)];simpa using hu
def O4 (w:World) (base m:Nat) (kv:Value) (kid:List Bool) (e:Ending) (w':World):Prop:=
 ∃v',e=.returned v'/\w'.ownsRow base 4 1 v' (m+1) ((kid++[false]).map Value.bool)/\(v'.ownBlock=kv.ownBlock\/∃b,v'.ownBlock=some b/\w.heap.size<=b)/\aB (fun k=>kv.ownBlock=some k) w w'
theorem J2 (F:Fence) (n:Nat) (hF:F.fn 320) (X:F.fn 343) (I:F.fn 364) (y:F.round=none) (aR:3<=n) (k f t r:Int) (i j:Nat) (g m a base:Nat) (b:List Bool) (w:World) (al:b.length=m) (aP:m<=100000) (hi:i<m) (ak:j<m)
  (M:w.ownsRow base 4 1 (aC g m a) m (b.map Value.bool)) (aN:base<=w.heap.size):
  CallsIn F n prog 320 #[Cn k i j f t r,aC g m a] w (O4 w base m (aC g m a) ((b.set i true).set j true)):=by
 have U:1<=n:=aa;have R:=af M;have aO:g<w.heap.size:=(M.lt g rfl).2;refine Bu func320 rfl hF ?_ y;simp only[ntmps320,ma,eH,fE,Nat.reduceAdd,Nat.reduceSub,rM,rO,mf,rQ,gu,nk]
 gi_wp2_with (gi_at_call 343;refine(A9 F (n-1) X y _ _ _ _ _ _ _).mono ?_;rintro e w' ⟨rfl,rfl⟩)
 obtain⟨wk,d⟩:∃wk,wk=((w.alloc (lV k i j f t r)).alloc (.cells #[aC g m a] 95)).alloc (lV k i j f t r):=⟨_,rfl⟩;have H:Below w.heap.size w wk:=by rw[d];exact(((aJ _ w).alloc (aA _) _).alloc ax _).alloc aH _
 have aU:wk.heap.size=w.heap.size+3:=by rw[d];simp
 have ac:wk.heap[w.heap.size+1]? =some (.cells #[aC g m a] 95 (0,0)):=by
  rw[d];exact(bU _ _ _ ax).trans (Ci w _ _)
 have an:wk.cell? (ag (w.heap.size+1+1) 1)=some (ae i):=by
  rw[d,eX _ _ _ _ ax];rfl
 have ao:wk.cell? (ag (w.heap.size+1+1) 2)=some (ae j):=by
  rw[d,eX _ _ _ _ ax];rfl
 rw[<-d];have Y:Um w (w.heap.size+1) g (aC g m a) m base b [] wk:=⟨ac,az R.o H,(aB.refl _ w).below H⟩;have Q:=af Y;refine Fv y U (gf:=364) (lb:=#[aj (w.heap.size+1+1)]) rfl I (bP func364 aL rfl)
  (He (α:={q:Nat // q<m}) (fun x=>(x.1:Int)) ⟨i,hi⟩ ⟨j,ak⟩ F (n-1) I y aa (w.heap.size+1+1) wk aa an ao ax ax) O1.trans (fun W l o ay am _ _ _=>Ba (B:=wk.heap.size) aa W l o ay am) (aJ _ _) (fun _=>rfl)
  (fun s W=>Um w (w.heap.size+1) g (aC g m a) m base b s W)
  (fun _ _ _=>False)
  (O3 aa)
  (fun _ _ _ _ _ N _ _=>N)
  Q.o
  (fun x=>{tmps:=#[Cn k i j f t r,aC g m a,aj w.heap.size,aj (w.heap.size+1),aM,ae x.1,Cn k i j f t r,.func (.func 364) #[] #[aj (w.heap.size+1+1)],ae x.1,undef,undef,undef,undef,undef,undef],defers:=[]}) ?assign ?body ?done ?stop
 case assign=>
  intro l x W K C
  gi_wp2
  exact C
 case body=>
  rintro l s ⟨q,aS⟩ W ⟨u,p,v⟩ _;have ad:W.cell? (ag (w.heap.size+1) 0)=some (aC g m a):=aI u;have aQ:(marked b s).length=m:=by rw[JZ];exact al
  have z:=p.cellAt q aa;obtain⟨G,ab⟩:∃G,(marked b s)[q]? =some G:=⟨_,cK aa⟩;rw[ib,ab]at z;simp only[eP]at z;have aF:=p.frozenAt q;have aT:(q:Int)<(m:Int):=aa;have O:=(p.stored q (.bool true)).1;rw[<-jg]at O;have P:=af u;have T:=af O;have A:=af v
  gi_wp2
  refine⟨yQ _ _ _,fun o=>dJ (aG aH),(aG aH).trans P.o,?_,A.o.set _ (.inl rfl)⟩;rw[Hf];exact T.o
 case done=>
  rintro D aV W aK rfl ⟨u,p,v⟩ C;have ad:W.cell? (ag (w.heap.size+1) 0)=some (aC g m a):=aI u;have⟨aw,aE,ah,aq,ar,au,av⟩:=zk.TG;have N:=v.size;have S:=af (p.alloc (.cells #[.bool false] 4));have A:=af (v.alloc (.cells #[.bool false] 4));have E:=af C
  gi_wp2_with (gi_at_builtin;refine wpListIn_append_own_at _ rfl _ _ 95 rfl base 4 aw aE 1 1 underlying95 ah aq ar au av ai _ _ _ rfl S.o (ag W.heap.size 0) 1 1 [.bool false] rfl rfl (Hg _ _ _) (by simp[Value.oneCell']) dE aa aH ?_;intro aD w1 ap L _ Z)
  have V:D<W.heap.size:=(bg.1 E.o).1;have J:w1.heap[D]? =some (.deferred (some [])):=(L.block D aH (fun e=>by have h9:D=g:=(by injection e);omega)).trans ((bU _ _ _ V).trans E.o);refine⟨ax,.inl ⟨_,_,rfl,BO J,?_⟩⟩;refine⟨_,results_tmp rfl _ _ _,aD,rfl,ownsRow_putObj (by rw[bJ];exact ap) _ J rfl,?_,?_⟩
  .rcases Z with h9|h9
   .exact .inl h9
   .exact .inr ⟨_,h9,aH⟩
  .exact(((A.o.mono (fun k h=>by rw[h];rfl)).grown L (fun k e=>.inl e)).grown (BS w1 D _) (fun k e=>by cases e;exact .inr aa))
 case stop=>
  rintro D c s W _ _ h _;exact h.elim
def O5 (w0:World) (bx:Nat) (kv:Value) (m base:Nat) (kid:List Bool) (pre:List {q:Nat // q<m}) (W:World):Prop:=
 W.heap[bx]? =some (.cells #[kv] 95 (0,0))/\W.ownsRow base 4 1 kv m ((marked kid pre).map Value.bool)/\aB (fun k=>kv.ownBlock=some k) w0 W
theorem MS {w0:World} {B bx m base:Nat} {r:Value} {q:List Bool} (l:w0.heap.size<=B):OwnFrom B (O5 w0 bx r m base q):=by
 rintro s W W' y ⟨c,d,j⟩ g i;have h:∀(b:Nat) cs t fr,W.heap[b]? =some (.cells cs t fr)->W'.heap[b]? =W.heap[b]? :=fun b cs t fr f=>g.block b (bg.1 f).1 fun e=>by
  obtain⟨-,o,a,n⟩:=i b e.symm;rw[f]at a;injection a with a;subst a;cases n
 refine⟨(h _ _ _ _ c).trans c,bn d fun x e=>?_,j.grown g fun k e=>.inr (bA l (i k e).1)⟩;rcases d.2 with⟨rfl,_⟩|⟨w,u,v,rfl,_,p,_⟩
 .cases e
 .simp only[Value.ownBlock,jH]at e;subst e;exact h _ _ _ _ p
theorem MU (F:Fence) (n:Nat) (hF:F.fn 320) (O:F.fn 343) (v:F.fn 364) (j:F.round=none) (av:3<=n) (k f t g:Int) (b:Option Addr) (m a base:Nat) (i:List Bool) (w:World) (ar:i.length=m) (au:m<=100000)
  (C:w.ownsRow base 4 1 (.slice b m a) m (i.map Value.bool)) (ap:base<=w.heap.size):
  CallsIn F n prog 320 #[Cn k (-1) (-1) f t g,.slice b m a] w (O4 w base m (.slice b m a) i):=by
 have M:1<=n:=aa;have I:=af C;have L:=af C;refine Bu func320 rfl hF ?_ j;simp only[ntmps320,ma,eH,fE,Nat.reduceAdd,Nat.reduceSub,rM,rO,mf,rQ,gu,nk]
 gi_wp2_with (gi_at_call 343;refine(A9 F (n-1) O j _ _ _ _ _ _ _).mono ?_;rintro e w' ⟨rfl,rfl⟩)
 obtain⟨wk,d⟩:∃wk,wk=((w.alloc (lV k (-1) (-1) f t g)).alloc (.cells #[.slice b m a] 95)).alloc (lV k (-1) (-1) f t g):=⟨_,rfl⟩;have u:Below w.heap.size w wk:=by rw[d];exact(((aJ _ w).alloc (aA _) _).alloc ax _).alloc aH _
 have aw:wk.heap.size=w.heap.size+3:=by rw[d];simp
 have S:wk.heap[w.heap.size+1]? =some (.cells #[.slice b m a] 95 (0,0)):=by
  rw[d];exact(bU _ _ _ ax).trans (Ci w _ _)
 have V:wk.cell? (ag (w.heap.size+1+1) 1)=some (ae (-1)):=by
  rw[d,eX _ _ _ _ ax];rfl
 have X:wk.cell? (ag (w.heap.size+1+1) 2)=some (ae (-1)):=by
  rw[d,eX _ _ _ _ ax];rfl
 rw[<-d];have P:O5 w (w.heap.size+1) (.slice b m a) m base i [] wk:=⟨S,az I.o u,(aB.refl _ w).below u⟩;have G:=af P;refine Fv j M (gf:=364) (lb:=#[aj (w.heap.size+1+1)]) rfl v (bP func364 aL rfl)
  (LA (α:={q:Nat // q<m}) (fun x=>(x.1:Int)) F (n-1) v j aa (w.heap.size+1+1) wk aa V X) O1.trans (fun W l o al U _ _ _=>Ba (B:=wk.heap.size) aa W l o al U) (aJ _ _) (fun _=>rfl)
  (fun r W=>O5 w (w.heap.size+1) (.slice b m a) m base i r W)
  (fun _ _ _=>False)
  (MS aa)
  (fun _ _ _ _ _ E _ _=>E)
  G.o
  (fun x=>{tmps:=#[Cn k (-1) (-1) f t g,.slice b m a,aj w.heap.size,aj (w.heap.size+1),aM,ae x.1,Cn k (-1) (-1) f t g,.func (.func 364) #[] #[aj (w.heap.size+1+1)],ae x.1,undef,undef,undef,undef,undef,undef],defers:=[]}) ?assign ?body ?done ?stop
 case assign=>
  intro l x W K p
  gi_wp2
  exact p
 case body=>
  intro l r x W _ h;exact absurd h (kz _)
 case done=>
  rintro D ay W ao rfl ⟨R,Z,A⟩ p;have aq:W.cell? (ag (w.heap.size+1) 0)=some (.slice b m a):=aI R;have⟨ak,an,T,ab,ac,ad,ah⟩:=zk.TG;have E:=A.size;have J:=af (Z.alloc (.cells #[.bool false] 4));have H:=af (A.alloc (.cells #[.bool false] 4));have s:=af p
  gi_wp2_with (gi_at_builtin;refine wpListIn_append_own_at _ rfl _ _ 95 rfl base 4 ak an 1 1 underlying95 T ab ac ad ah ai _ _ _ rfl J.o (ag W.heap.size 0) 1 1 [.bool false] rfl rfl (Hg _ _ _) (by simp[Value.oneCell']) dE aa aH ?_;intro am w1 Y z _ Q)
  have N:D<W.heap.size:=(bg.1 s.o).1;have y:w1.heap[D]? =some (.deferred (some [])):=(z.block D aH (fun e=>by have h9:=(L.o.lt D e.symm).2;omega)).trans ((bU _ _ _ N).trans s.o);refine⟨ax,.inl ⟨_,_,rfl,BO y,?_⟩⟩;refine⟨_,results_tmp rfl _ _ _,am,rfl,ownsRow_putObj (by rw[bJ];exact Y) _ y rfl,?_,?_⟩
  .rcases Q with h9|h9
   .exact .inl h9
   .exact .inr ⟨_,h9,aH⟩
  .exact(((H.o).grown z (fun k e=>.inl e)).grown (BS w1 D _) (fun k e=>by cases e;exact .inr aa))
 case stop=>
  rintro D c r W _ _ h _;exact h.elim
theorem RJ (k f t c:Int) (i j:Nat) (g m a base:Nat) (b:List Bool) (w:World) (h:b.length=m) (l:m<=100000) (hi:i<m) (e:j<m)
  (o:w.ownsRow base 4 1 (aC g m a) m (b.map Value.bool)) (d:base<=w.heap.size):
  aK 320 #[Cn k i j f t c,aC g m a] w (O4 w base m (aC g m a) ((b.set i true).set j true)):=by
 refine(zf (n:=3)).1 ?_;exact J2 _ 3 trivial trivial trivial rfl ai k f t c i j g m a base b w h l hi e o d
theorem Un (k f t d:Int) (b:Option Addr) (m a base:Nat) (c:List Bool) (w:World) (g:c.length=m) (h:m<=100000)
  (i:w.ownsRow base 4 1 (.slice b m a) m (c.map Value.bool)) (e:base<=w.heap.size):
  aK 320 #[Cn k (-1) (-1) f t d,.slice b m a] w (O4 w base m (.slice b m a) c):=by
 refine(zf (n:=3)).1 ?_;exact MU _ 3 trivial trivial trivial rfl ai k f t d b m a base c w g h i e
end
section
open Go Go.RowKit
section
variable {P:Program} {ops:Array Oper} {Q:Exit->Act->World->Prop} {md:Region.Mode} {C:World->Prop} {T:List Nat}
def dI (P:Program) (md:Region.Mode) (ops:Array Oper) (Q:Exit->Act->World->Prop) (C:World->Prop) (T:List Nat):Nat->Array Bool->Act->World->Prop
 |0,listed,a,w=>Region.ready md ops listed=[]/\Q .normal a w
 |fuel+1,listed,a,w=>
  (Region.ready md ops listed=[]->Q .normal a w)/\
  ∀i∈Region.ready md ops listed,wpOp P ops Q i (fun a' w'=>(C w->i∉T->C w')/\dI P md ops Q C T fuel (listed.setIfInBounds i true) a' w') a w
theorem wH:∀(fuel:Nat) (b:Array Bool) (a:Act) (w:World),dI P md ops Q C T fuel b a w->wpAny P md ops Q fuel b a w
 |0,_,_,_,h=>h
 |fuel+1,_,_,_,h=>⟨h.1,fun i hi=>wpOp_mono (fun a' w' h'=>wH fuel _ a' w' h'.2) (h.2 i hi)⟩
def mO (md:Region.Mode) (ops:Array Oper) (listed:Array Bool):Prop:=
 ∀j oj,ops[j]? =some oj->listed.getD j false=true->∀e∈oj.after,Region.binds md e=true->listed.getD e.on false=true
theorem mO.set {i:Nat} {a:Array Bool} (inv:mO md ops a) (hi:i∈Region.ready md ops a):mO md ops (a.setIfInBounds i true):=by
 have⟨_,m,l,k⟩:=mem_ready.1 hi;intro j h f g e c b;by_cases d:i=j
 .subst d;have:h=m:=BU (f.symm.trans l);subst this;exact getD_set_true (k e c b)
 .rw[getD_set_ne false d]at g;exact getD_set_true (inv j h f g e c b)
def downs (md:Region.Mode) (ops:Array Oper) (i:Nat):Nat->List Nat
 |0=>[]
 |n+1=>if Region.waitsFor md ops n i||(downs md ops i n).any (fun k=>Region.waitsFor md ops n k)then n::downs md ops i n else downs md ops i n
theorem qV {d:Array Bool} {i:Nat} (inv:mO md ops d):∀(n t:Nat),t∈downs md ops i n->(∀a,ops[t]? =some a->∀e∈a.after,Region.binds md e=true->d.getD e.on false=true)->d.getD i false=true
 |0,t,h,_=>by cases h
 |n+1,t,h,hd=>by
  unfold downs at h;split at h
  .rename_i hc;rcases gW.1 h with h|h
   .rw[h]at hd;rcases(BQ _ _).mp hc with hc|hc
    .obtain⟨a,g,e,c,b,f⟩:=Region.waitsFor_spec hc;exact f▸hd a g e c b
    .obtain⟨k,j,hc⟩:=List.any_eq_true.1 hc;have⟨a,g,e,c,b,f⟩:=Region.waitsFor_spec hc;have l:d.getD k false=true:=f▸hd a g e c b;exact qV inv n k j fun o m e c b=>inv k o m l e c b
   .exact qV inv n t h hd
  .exact qV inv n t h hd
theorem F3 {i:Nat} {n:Oper} {v:Value} {b:Bool} (hi:ops[i]? =some n) (G:∀(j:Nat) (o:Oper) cs b,ops[j]? =some o->o.op≠.select cs b)
  (K:∀c a w,Q (.panic c) (a.put n.dst v) w->Q (.panic c) a w) (L:b=true->∀t∈T,t∈downs md ops i ops.size):
  ∀(fuel:Nat) (d:Array Bool) (a:Act) (w:World),mO md ops d->
   (∀j l,ops[j]? =some l->j≠i->d.getD j true=false->(∀e∈l.after,Region.binds md e=true->e.on≠i)->n.apart ops l=true)->
   i∈Region.ready md ops d->YieldsIf P ops (fun w=>b=true->C w) n v a->(b=true->C w)->
   dI P md ops Q C T fuel (d.setIfInBounds i true) (a.put n.dst v) w->dI P md ops Q C T (fuel+1) d a w:=by
 intro fuel
 induction fuel with
 |zero=>
  intro d a w inv _ m x hS H;refine⟨fun h=>(by rw[h]at m;cases m),fun j p=>?_⟩;by_cases g:j=i
  .subst g;exact x.wpOp hi hS ⟨fun h _=>h,H⟩
  .have:=ready_mono p g;rw[H.1]at this;cases this
 |succ fuel ih=>
  intro d a w inv B m x hS H;refine⟨fun h=>(by rw[h]at m;cases m),fun j p=>?_⟩;by_cases g:j=i
  .subst g;exact x.wpOp hi hS ⟨fun h _=>h,H⟩
  .have r:=H.2 j (ready_mono p g);have⟨F,l,u,A⟩:=mem_ready.1 p;have D:=getD_both (mem_ready.1 m).1;have z:b=true->j∉T:=fun f z=>by
    have:=qV inv ops.size j (L f j z) (fun W V e y f=>by
     have:W=l:=BU (V.symm.trans u);subst this;exact A e y f)
    rw[D]at this;cases this
   have U:∀e∈l.after,Region.binds md e=true->e.on≠i:=fun e y f M=>by
    have r:=A e y f;rw[M,D]at r;cases r
   have J:=wpOp_putIf u (B j l u g F U) (fun cs b=>G i n cs b hi) (fun cs b=>G j l cs b u) K x r;have N:∀k q,ops[k]? =some q->k≠i->(d.setIfInBounds j true).getD k true=false->
     (∀e∈q.after,Region.binds md e=true->e.on≠i)->n.apart ops q=true:=fun k q O R I S=>by
    refine B k q O R ?_ S;by_cases E:j=k
    .subst E;exact F
    .rw[getD_set_ne true E]at I;exact I
   refine wpOp_mono (fun a' w' s=>⟨s.2.1,ih (d.setIfInBounds j true) a' w' (inv.set p) N (ready_mono m (jk g)) s.1 (fun f=>s.2.1 (hS f) (z f)) ?_⟩) J;rw[Array.setIfInBounds_comm _ _ g];exact s.2.2
def Oper.dZ (P:Program) (o:Oper) (a:Act) (C:World->Prop) (b:Bool) (next:Act->Prop):Prop:=∃v,(∀w,(b=true->C w)->(execOp a.eval o).run P w=.ok (.value v) w)/\next (a.put o.dst v)
def wpHd (P:Program) (ops:Array Oper) (C:World->Prop) (L:Act->Prop):List (Oper×Bool)->Act->Prop
 |[],a=>L a
 |o::rest,a=>if Region.wanted o.1 (yielded ops a.tmps)then Oper.dZ P o.1 a C o.2 (wpHd P ops C L rest)else wpHd P ops C L rest (a.put o.1.dst undef)
theorem jJ {L:Act->Prop} {a:Act} (h:L a):wpHd P ops C L [] a:=h
theorem gF {L:Act->Prop} {a:Act} {o:Oper} {b:Bool} {rest:List (Oper×Bool)}
  (h:∀K:Act->Prop,(∀a,wpHd P ops C L rest a->K a)->if Region.wanted o (yielded ops a.tmps)then Oper.dZ P o a C b K else K (a.put o.dst undef)):wpHd P ops C L ((o,b)::rest) a:=
 h _ (fun _ h=>h)
def headOK (md:Region.Mode) (ops:Array Oper) (T:List Nat):List (Nat×Bool)->Array Bool->Bool
 |[],_=>true
 |i::l,listed=>(Region.ready md ops listed).contains i.1&&Region.free md ops listed i.1&&(!i.2||T.all (fun t=>(downs md ops i.1 ops.size).contains t))&&headOK md ops T l (listed.setIfInBounds i.1 true)
def jP:List (Nat×Bool)->Array Bool->Array Bool
 |[],listed=>listed
 |i::l,listed=>jP l (listed.setIfInBounds i.1 true)
def pick (ops:Array Oper) (hd:List Nat):List Oper:=hd.filterMap fun i=>ops[i]?
def iX (ops:Array Oper) (hd:List (Nat×Bool)):List (Oper×Bool):=hd.filterMap fun i=>ops[i.1]?.map fun o=>(o,i.2)
theorem tO (q:Region.noSelect ops=true) (o:∀c a d v w,Q (.panic c) (Act.put a d v) w->Q (.panic c) a w) {fuel:Nat} {w:World} (n:C w):
  ∀(hd:List (Nat×Bool)) (e:Array Bool) (a:Act),mO md ops e->headOK md ops T hd e=true->wpHd P ops C (fun a'=>dI P md ops Q C T fuel (jP hd e) a' w) (iX ops hd) a->dI P md ops Q C T (fuel+hd.length) e a w
 |[],e,a,_,_,h=>h
 |(i,b)::l,e,a,inv,m,h=>by
  simp only[headOK,nA]at m;obtain⟨⟨⟨z,y⟩,p⟩,s⟩:=m;have k:i∈Region.ready md ops e:=aQ z;have⟨_,g,hi,_⟩:=mem_ready.1 k;have u:b=true->∀t∈T,t∈downs md ops i ops.size:=fun x t ht=>by
   subst x;simp only[y5,Bool.false_or]at p;have:=vT.1 p t ht;simpa using this
  have hp:iX ops ((i,b)::l)=(g,b)::iX ops l:=by simp[iX,hi]
  rw[hp]at h;have ih:=fun a'=>tO (fuel:=fuel) q o n l (e.setIfInBounds i true) a' (inv.set k) s;have key:∀v,YieldsIf P ops (fun w=>b=true->C w) g v a->wpHd P ops C (fun a'=>dI P md ops Q C T fuel (jP l (e.setIfInBounds i true)) a' w) (iX ops l) (a.put g.dst v)->dI P md ops Q C T (fuel+((i,b)::l).length) e a w:=fun v A j=>
   F3 hi (Region.noSelect_spec q) (fun c a w h=>o c a _ _ w h) u _ e a w inv (Region.free_spec hi y) k A (fun _=>n) (ih _ j)
  by_cases f:Region.wanted g (yielded ops a.tmps)=true
  .simp only[wpHd,f,gJ]at h;have⟨v,r,j⟩:=h;exact key v (.inl ⟨f,r⟩) j
  .simp only[wpHd,f]at h;exact key undef (.inr ⟨aQ f,rfl⟩) h
theorem jm {id:Nat} {a:Act} {w:World} {l:List Oper} (C:World->Prop) (T:List Nat) (hd:List (Nat×Bool)) (k:P.follows .mixedOrders=true) (o:Region.noSelect l.toArray=true) (i:∀c a d v w,Q (.panic c) (Act.put a d v) w->Q (.panic c) a w) (g:C w.drew)
  (n:Nat) (m:n+hd.length=l.length) (f:headOK .any l.toArray T hd (Array.replicate l.length false)=true)
  (h:wpHd P l.toArray C (fun a'=>dI P .any l.toArray Q C T n (jP hd (Array.replicate l.length false)) a' w.drew) (iX l.toArray hd) a):(Code.region id l.toArray true).wp P Q a w:=by
 refine wp_region_any k (wH (C:=C) (T:=T) _ _ _ _ ?_);have b:=tO (md:=.any) (ops:=l.toArray) (T:=T) o i g hd (Array.replicate l.length false) a (fun j p _ e=>by rw[getD_replicate_false]at e;cases e) f h;rw[m]at b;simpa using b
def fU (P:Program) (md:Region.Mode) (ops:Array Oper) (Q:Exit->Act->World->Prop) (C:World->Prop) (T:List Nat) (fuel:Nat) (listed:Array Bool) (a:Act) (w:World) (rs:List Nat):Prop:=
 ∀i∈rs,wpOp P ops Q i (fun a' w'=>(C w->i∉T->C w')/\dI P md ops Q C T fuel (listed.setIfInBounds i true) a' w') a w
theorem fU.nil {fuel:Nat} {b:Array Bool} {a:Act} {w:World}:fU P md ops Q C T fuel b a w []:=fun _ h=>by cases h
theorem fU.cons {fuel:Nat} {b:Array Bool} {a:Act} {w:World} {i:Nat} {o:Oper} {d:List Nat} (k:ops[i]? =some o)
  (h:∀K:Act->World->Prop,(∀a' w',(C w->i∉T->C w')->dI P md ops Q C T fuel (b.setIfInBounds i true) a' w'->K a' w')->if Region.wanted o (yielded ops a.tmps)=true then Oper.wp P o a w K Q else K (a.put o.dst undef) w)
  (l:fU P md ops Q C T fuel b a w d):fU P md ops Q C T fuel b a w (i::d):=fun j hj=>by
 rcases gW.1 hj with e|hj
 .rw[e];have:=h (fun a' w'=>(C w->i∉T->C w')/\dI P md ops Q C T fuel (b.setIfInBounds i true) a' w') (fun a' w' f g=>⟨f,g⟩);unfold wpOp;simp only[k];split
  .rename_i c;simp only[c,gJ]at this;exact .inl this
  .rename_i c;simp only[c]at this;exact this
 .exact l j hj
theorem qW {fuel:Nat} {b:Array Bool} {a:Act} {w:World} (c:List Nat) (d:Region.ready md ops b=c) (f:c≠[]) (h:fU P md ops Q C T fuel b a w c):dI P md ops Q C T (fuel+1) b a w:=
 ⟨fun e=>absurd (d▸e) f,d▸h⟩
theorem jo {b:Array Bool} {a:Act} {w:World} (c:Region.ready md ops b=[]) (h:Q .normal a w):dI P md ops Q C T 0 b a w:=⟨c,h⟩
def lineOK (md:Region.Mode) (ops:Array Oper) (T:List Nat):List Nat->Array Bool->Bool
 |[],listed=>(Region.ready md ops listed).isEmpty
 |i::l,listed=>decide (Region.ready md ops listed=[i])&&T.contains i&&lineOK md ops T l (listed.setIfInBounds i true)
theorem Ah:∀(L:List Nat) (b:Array Bool) (a:Act) (w:World),lineOK md ops T L b=true->wpList P ops Q (pick ops L) a w->dI P md ops Q C T L.length b a w
 |[],b,a,w,c,h=>⟨by simpa[lineOK]using c,h⟩
 |i::l,b,a,w,c,h=>by
  simp only[lineOK,nA,bO]at c;obtain⟨⟨d,m⟩,k⟩:=c;have p:i∈Region.ready md ops b:=by rw[d];simp
  have n:i∈T:=aQ m;have⟨_,r,hi,_⟩:=mem_ready.1 p;have hp:pick ops (i::l)=r::pick ops l:=by simp[pick,hi]
  rw[hp]at h;refine⟨fun e=>(by rw[d]at e;cases e),fun j f=>?_⟩;rw[d]at f;have o:j=i:=aQ f;rw[o];have q:wpOp P ops Q i (wpList P ops Q (pick ops l)) a w:=by unfold wpOp;simp only[hi];exact h
  exact wpOp_mono (fun a' w' h'=>⟨fun _ g=>absurd n g,Ah l _ a' w' k h'⟩) q
def Bb (md:Region.Mode) (ops:Array Oper) (listed:Array Bool):Bool:=
 (List.range ops.size).all fun j=>!listed.getD j false||((ops[j]?.map fun o=>o.after.toList.all fun e=>!Region.binds md e||listed.getD e.on false).getD true)
theorem mO.of {d:Array Bool} (h:Bb md ops d=true):mO md ops d:=by
 intro j l c k e g f;have i:j<ops.size:=(bg.1 c).1;have a:=vT.1 h j (vV.2 i);rw[k,c]at a;simp only[y5,Bool.false_or,eP,ic]at a;have b:=vT.1 a e (aQ g);rw[f]at b;simpa using b
theorem Ai {fuel n:Nat} {w:World} {b:Array Bool} {a:Act} (hd:List (Nat×Bool)) (k:Region.noSelect ops=true) (g:∀c a d v w,Q (.panic c) (Act.put a d v) w->Q (.panic c) a w) (f:C w) (i:Bb md ops b=true)
  (e:headOK md ops T hd b=true) (j:n=fuel+hd.length) (h:wpHd P ops C (fun a'=>dI P md ops Q C T fuel (jP hd b) a' w) (iX ops hd) a):dI P md ops Q C T n b a w:=by
 subst j;exact tO k g f hd b a (mO.of i) e h
theorem mo {id:Nat} {a:Act} {w:World} {l:List Oper} (C:World->Prop) (T:List Nat) (hd:List (Nat×Bool)) (e:C w.drew) (n:Nat) (h:wpHd P l.toArray C (fun a'=>dI P .any l.toArray Q C T n (jP hd (Array.replicate l.length false)) a' w.drew) (iX l.toArray hd) a)
  (g:P.follows .mixedOrders=true:=by kernel_rfl) (j:Region.noSelect l.toArray=true:=by kernel_rfl) (f:∀c a d v w,Q (.panic c) (Act.put a d v) w->Q (.panic c) a w:=by intro _ _ d _ _ h;cases d<;>exact h) (i:n+hd.length=l.length:=by rfl) (b:headOK .any l.toArray T hd (Array.replicate l.length false)=true:=by kernel_rfl):(Code.region id l.toArray true).wp P Q a w:=
 jm C T hd g j f e n i b h
theorem OO {id:Nat} {a:Act} {w:World} {l:List Oper} (hd:List (Nat×Bool)) (n:Nat) (h:wpHd P l.toArray (fun W=>∃p:aR w,W=p.W) (fun a'=>dI P .any l.toArray Q (fun W=>∃p:aR w,W=p.W) [] n (jP hd (Array.replicate l.length false)) a' w.drew) (iX l.toArray hd) a)
  (f:P.follows .mixedOrders=true:=by kernel_rfl) (i:Region.noSelect l.toArray=true:=by kernel_rfl) (e:∀c a d v w,Q (.panic c) (Act.put a d v) w->Q (.panic c) a w:=by intro _ _ d _ _ h;cases d<;>exact h) (g:n+hd.length=l.length:=by rfl) (b:headOK .any l.toArray [] hd (Array.replicate l.length false)=true:=by kernel_rfl):(Code.region id l.toArray true).wp P Q a w:=
 jm (fun W=>∃p:aR w,W=p.W) [] hd f i e ⟨⟨_,(aJ _ _).drew⟩,rfl⟩ n g b h
theorem ay {fuel:Nat} {b:Array Bool} {a:Act} {w:World} {o:Oper} (i:Nat) (c:ops[i]? =some o)
  (h:∀K:Act->World->Prop,(∀a' w',(C w->i∉T->C w')->dI P md ops Q C T fuel (b.setIfInBounds i true) a' w'->K a' w')->if Region.wanted o (yielded ops a.tmps)=true then Oper.wp P o a w K Q else K (a.put o.dst undef) w)
  (d:Region.ready md ops b=[i]:=by kernel_rfl):dI P md ops Q C T (fuel+1) b a w:=qW [i] d (by simp) (fU.cons c h fU.nil)
theorem RL {fuel n:Nat} {w:World} {b:Array Bool} {a:Act} (hd:List (Nat×Bool)) (f:C w) (j:n=fuel+hd.length) (h:wpHd P ops C (fun a'=>dI P md ops Q C T fuel (jP hd b) a' w) (iX ops hd) a)
  (k:Region.noSelect ops=true:=by kernel_rfl) (g:∀c a d v w,Q (.panic c) (Act.put a d v) w->Q (.panic c) a w:=by intro _ _ d _ _ h;cases d<;>exact h) (i:Bb md ops b=true:=by kernel_rfl) (e:headOK md ops T hd b=true:=by kernel_rfl):dI P md ops Q C T n b a w:=Ai hd k g f i e j h
theorem au {id:Nat} {a:Act} {w:World} {l:List Oper} {G:Prop} (C:World->Prop) (T:List Nat) (hd:List (Nat×Bool)) (f:C w.drew) (n:Nat) (g:G) (h:OW G->wpHd P l.toArray C (fun a'=>dI P .any l.toArray Q C T n (jP hd (Array.replicate l.length false)) a' w.drew) (iX l.toArray hd) a:=by(intro g;simp only[_root_.Go.Proofs.YtkjdbndekceffaaGreat.iX,sD,nz,sw,eQ,eG,eP];(repeat(refine _root_.Go.Proofs.YtkjdbndekceffaaGreat.gF (fun K b=>?_);go_simp;first|(refine b _ ?_;clear b K)|(apply Exists.intro;refine⟨fun _=>?_,b _ ?_⟩;rfl;clear b K)));refine _root_.Go.Proofs.YtkjdbndekceffaaGreat.jJ ?_;exact g.o))
  (j:P.follows .mixedOrders=true:=by kernel_rfl) (m:Region.noSelect l.toArray=true:=by kernel_rfl) (i:∀c a d v w,Q (.panic c) (Act.put a d v) w->Q (.panic c) a w:=by intro _ _ d _ _ h;cases d<;>exact h) (k:n+hd.length=l.length:=by rfl) (e:headOK .any l.toArray T hd (Array.replicate l.length false)=true:=by kernel_rfl):(Code.region id l.toArray true).wp P Q a w:=
 jm C T hd j m i f n k e (h ⟨g⟩)
theorem lq {id:Nat} {a:Act} {w:World} {l:List Oper} {G:Prop} (hd:List (Nat×Bool)) (n:Nat) (g:G) (h:OW G->wpHd P l.toArray (fun W=>∃p:aR w,W=p.W) (fun a'=>dI P .any l.toArray Q (fun W=>∃p:aR w,W=p.W) [] n (jP hd (Array.replicate l.length false)) a' w.drew) (iX l.toArray hd) a:=by(intro g;simp only[_root_.Go.Proofs.YtkjdbndekceffaaGreat.iX,sD,nz,sw,eQ,eG,eP];(repeat(refine _root_.Go.Proofs.YtkjdbndekceffaaGreat.gF (fun K b=>?_);go_simp;first|(refine b _ ?_;clear b K)|(apply Exists.intro;refine⟨fun _=>?_,b _ ?_⟩;rfl;clear b K)));refine _root_.Go.Proofs.YtkjdbndekceffaaGreat.jJ ?_;exact g.o))
  (i:P.follows .mixedOrders=true:=by kernel_rfl) (k:Region.noSelect l.toArray=true:=by kernel_rfl) (f:∀c a d v w,Q (.panic c) (Act.put a d v) w->Q (.panic c) a w:=by intro _ _ d _ _ h;cases d<;>exact h) (j:n+hd.length=l.length:=by rfl) (e:headOK .any l.toArray [] hd (Array.replicate l.length false)=true:=by kernel_rfl):(Code.region id l.toArray true).wp P Q a w:=
 jm (fun W=>∃p:aR w,W=p.W) [] hd i k f ⟨⟨_,(aJ _ _).drew⟩,rfl⟩ n j e (h ⟨g⟩)
theorem aW {fuel n:Nat} {w:World} {e:Array Bool} {a:Act} {G:Prop} (hd:List (Nat×Bool)) (i:C w) (l:n=fuel+hd.length) (g:G) (h:OW G->wpHd P ops C (fun a'=>dI P md ops Q C T fuel (jP hd e) a' w) (iX ops hd) a:=by(intro g;simp only[_root_.Go.Proofs.YtkjdbndekceffaaGreat.iX,sD,nz,sw,eQ,eG,eP];(repeat(refine _root_.Go.Proofs.YtkjdbndekceffaaGreat.gF (fun K b=>?_);go_simp;first|(refine b _ ?_;clear b K)|(apply Exists.intro;refine⟨fun _=>?_,b _ ?_⟩;rfl;clear b K)));refine _root_.Go.Proofs.YtkjdbndekceffaaGreat.jJ ?_;exact g.o))
  (m:Region.noSelect ops=true:=by kernel_rfl) (j:∀c a d v w,Q (.panic c) (Act.put a d v) w->Q (.panic c) a w:=by intro _ _ d _ _ h;cases d<;>exact h) (k:Bb md ops e=true:=by kernel_rfl) (f:headOK md ops T hd e=true:=by kernel_rfl):dI P md ops Q C T n e a w:=Ai hd m j i k f l (h ⟨g⟩)
theorem aF {b:Array Bool} {a:Act} {w:World} {G:Prop} (L:List Nat) (g:G) (h:OW G->wpList P ops Q (pick ops L) a w:=by(intro g;simp only[_root_.Go.Proofs.YtkjdbndekceffaaGreat.pick,sD,nz,sw,eQ,eG];exact g.o)) (c:lineOK md ops T L b=true:=by kernel_rfl):dI P md ops Q C T L.length b a w:=Ah L b a w c (h ⟨g⟩)
theorem iH {fuel:Nat} {b:Array Bool} {a:Act} {w:World} {o c:Oper} (i j:Nat) (e:ops[i]? =some o) (f:ops[j]? =some c)
  (h:∀K:Act->World->Prop,(∀a' w',(C w->i∉T->C w')->dI P md ops Q C T fuel (b.setIfInBounds i true) a' w'->K a' w')->if Region.wanted o (yielded ops a.tmps)=true then Oper.wp P o a w K Q else K (a.put o.dst undef) w)
  (d:∀K:Act->World->Prop,(∀a' w',(C w->j∉T->C w')->dI P md ops Q C T fuel (b.setIfInBounds j true) a' w'->K a' w')->if Region.wanted c (yielded ops a.tmps)=true then Oper.wp P c a w K Q else K (a.put c.dst undef) w)
  (g:Region.ready md ops b=[i,j]:=by kernel_rfl):dI P md ops Q C T (fuel+1) b a w:=qW [i,j] g (by simp) (fU.cons e h (fU.cons f d fU.nil))
end
structure kG (F:World->Prop) where
 W:World
 h:F W
section
variable {P:Program} {ops:Array Oper} {Q:Exit->Act->World->Prop} {md:Region.Mode} {C C':World->Prop} {T T':List Nat}
def TK (ops:Array Oper) (T:List Nat) (listed:Array Bool):Bool:=(List.range ops.size).all fun j=>listed.getD j false||T.contains j
theorem vv:∀(fuel:Nat) (b:Array Bool) (a:Act) (w:World),TK ops T b=true->wpAny P md ops Q fuel b a w->dI P md ops Q C T fuel b a w
 |0,_,_,_,_,h=>h
 |fuel+1,b,a,w,d,h=>⟨h.1,fun i hi=>wpOp_mono (fun a' w' h'=>by
  obtain⟨hu,m,k,-⟩:=mem_ready.1 hi;have l:i<ops.size:=(bg.1 k).1;have f:i∈T:=by
   have c:=vT.1 d i (vV.2 l);rw[getD_both hu]at c;simpa using c
  refine⟨fun _ e=>absurd f e,vv fuel _ a' w' ?_ h'⟩;refine vT.2 fun j g=>?_;have h2:=vT.1 d j g;rcases(BQ _ _).mp h2 with h2|h2
  .rw[getD_set_true h2];rfl
  .rw[h2];simp) (h.2 i hi)⟩
theorem dQ (C':World->Prop) (T':List Nat) {fuel:Nat} {b:Array Bool} {a:Act} {w:World} (c:TK ops T b=true) (h:dI P md ops Q C' T' fuel b a w):dI P md ops Q C T fuel b a w:=
 vv fuel b a w c (wH fuel b a w h)
end
theorem fe {P:Program} {ops:Array Oper} {o:Oper} {a:Act} {K:Act->World->Prop} {Q:Exit->Act->World->Prop} {E0:Prop} {f:FuncId} {w:World} {vals:Array Value} {R:Ending->World->Prop} (g:∀args w,(callFunc f args).run P w=.ok (.enter f args) w) (l:Region.wanted o (yielded ops a.tmps)=true) (args:Array Operand) (m:Array TypeId) (j:o.op=.call {callee:=.value (.func f),args:=args,argTypes:=m}) (c:vals=(args.toList.map a.eval).toArray)
  (C:Calls P f vals w R) (h:∀e w',R e w'->∃v,e=.returned v/\K (a.put o.dst v) w'):
  if Region.wanted o (yielded ops a.tmps)=true then Oper.wp P o a w K Q else E0:=by
 rw[aO l];unfold Oper.wp;have b:args.map a.eval=vals:=by rw[c,<-FI]
 have d:(execOp a.eval o).run P w=.ok (.enter f vals) w:=by
  simp[execOp,j,resolve,invoke,b,Act.eval,Deferred.ofValue,g]
 rw[d,Oper.upon_enter];refine C.mono fun e w' k=>?_;obtain⟨v,rfl,i⟩:=h e w' k;exact i
end
section
open Go.RowKit Go.Sort Go.Shelf Go.Lib Go.Maps
attribute [local irreducible] wpQuiet
attribute [local go_sem] Oper.dZ
structure J3 (w:World) (tb:Nat) (N:List Nd) (nm:Nat->Int) (YS:List Nat) (LN LL:Nat->Value):Prop where
 jD:∃gn off cn,w.cell? (ag tb 4)=some (.slice (some (ag gn off)) N.length cn)/\bV pR 7 w (some (ag gn off)) N
 F4:∃gl cl,w.cell? (ag tb 5)=some (aC gl N.length cl)/\gl<w.heap.size/\∀k,k<N.length->w.cell? (ag gl (k*2))=some (LN k)/\w.cell? (ag gl (k*2+1))=some (LL k)
 Hl:∀t s,FT.At N t s->∃a c,LN (t.root s)=.slice a (nl YS t).length c/\(nl YS t).length<=c/\Rd (.int .u32) w a ((nl YS t).map nm)
 Co:∀l r s,FT.At N (.node l r) s->∃a c,LL ((FT.node l r).root s)=.slice a (lf l.hi (nl YS (.node l r))).length c/\Rd (.int .i64) w a (lf l.hi (nl YS (.node l r)))
 Ez:∀k,k<N.length->∃a m c,LL k=.slice a m c
theorem J3.below {w w':World} {tb B:Nat} {N:List Nd} {nm:Nat->Int} {YS:List Nat} {LN LL:Nat->Value} (h:J3 w tb N nm YS LN LL) (b:Below B w w') (o:w.heap.size<=B):J3 w' tb N nm YS LN LL:=by
 have b:=b.mono o;obtain⟨⟨n,off,cn,g,y⟩,⟨gl,cl,m,f,i⟩,v,u,x⟩:=h;have ht:=iF w _ g;exact⟨⟨n,off,cn,(b.cell (p:=(ag tb 4)) ht).trans g,y.below b⟩,
  ⟨gl,cl,(b.cell (p:=(ag tb 5)) ht).trans m,cO f b.size,fun k j=>⟨(b.cell (p:=(ag gl (k*2))) f).trans (i k j).1,(b.cell (p:=(ag gl (k*2+1))) f).trans (i k j).2⟩⟩,
  fun t s d=>by obtain⟨a,c,e,q,r⟩:=v t s d;exact⟨a,c,e,q,r.below b⟩,fun l r s d=>by obtain⟨a,c,e,r⟩:=u l r s d;exact⟨a,c,e,r.below b⟩,x⟩
structure Told (F:Nat) (cb:Array Value) (N:List Nd) (YS:List Nat) (LN LL:Nat->Value) (B:Nat) (w0:World) (FL:List Nat) (S:World->List Nat->(Nat->Prop)->Prop):Prop where
 enters:∀args w,(callFunc F args).run prog w=.ok (.enter F args) w
 base:∀W acc D,S W acc D->Below B w0 W
 lt:∀W acc D,S W acc D->∀k,D k->B<=k/\k<W.heap.size
 jU:∀W W' acc D,S W acc D->Below W.heap.size W W'->S W' acc D
 told:∀W acc D t s a b,S W acc D->FT.At N t s->a<=b->b<=(nl YS t).length->acc++((nl YS t).take b).drop a <+: FL->
  aK F (#[.agg #[LN (t.root s),LL (t.root s)],ae (a:Nat),ae (b:Nat)]++cb) W fun e w'=>e=.returned (.tuple #[])/\∃D',S w' (acc++((nl YS t).take b).drop a) D'/\(∀k,D' k->D k\/W.heap.size<=k)/\aB D W w'
structure xC (D:Nat->Prop) (w:World) where
 W:World
 h:aB D w W
def Uo (S:World->List Nat->(Nat->Prop)->Prop) (W:World) (D:Nat->Prop) (acc:List Nat) (n:Nat) (e:Ending) (w':World):Prop:=
 e=.returned (ae n)/\∃D',S w' acc D'/\(∀k,D' k->D k\/W.heap.size<=k)/\aB D W w'
theorem Hm:eU 172:=bP func172 aL rfl
theorem nJ {w:World} {g off:Nat} {N:List Nd} {i:Nat} {d:Nd} (h:bV pR 7 w (some (ag g off)) N) (hi:N[i]? =some d):
  g<w.heap.size/\w.cell? (ag g (off+i*7))=some (.int .u8 d.kind)/\w.cell? (ag g (off+i*7+1))=some (ae d.l)/\w.cell? (ag g (off+i*7+2))=some (ae d.r)/\w.cell? (ag g (off+i*7+3))=some (ae d.fr)/\w.cell? (ag g (off+i*7+4))=some (ae d.Lu)/\w.cell? (ag g (off+i*7+5))=some (ae 0)/\w.cell? (ag g (off+i*7+6))=some (ae d.item):=by
 have⟨a,hd⟩:=fI.1 hi;rcases h with h|⟨b,o,e,f,j⟩
 .subst h;simp at a
 .cases e;have c:=j i a;rw[hd]at c;exact⟨f,c 0 aa,c 1 aa,c 2 aa,c 3 aa,c 4 aa,c 5 aa,c 6 aa⟩
theorem O6 (n:Int) (h:-9223372036854775808<=n/\n<=9223372036854775807):wrap64 n=n:=by unfold wrap64;omega
theorem mV {YS:List Nat} {yv:Nat->Int} {y1 y2:Int} {fr ub:Nat}:∀t:FT,(down YS yv y1 y2 fr ub t).2<=t.size
 |.leaf a=>by
  rw[down];split<;>exact aA _
 |.node l r=>by
  have b:=mV (YS:=YS) (yv:=yv) (y1:=y1) (y2:=y2) (fr:=fr) (ub:=ub) l;have c:=mV (YS:=YS) (yv:=yv) (y1:=y1) (y2:=y2) (fr:=fr) (ub:=ub) r;have d:(FT.node l r).size=l.size+r.size+1:=rfl;rw[down];split
  .show 1<=_;omega
  .split
   .show 1<=_;omega
   .show 1+_+_<=_;omega
theorem Cq (F:Nat) (cb:Array Value) (N:List Nd) (nm:Nat->Int) (YS:List Nat) (LN LL:Nat->Value) (tb B:Nat) (w0:World) (S:World->List Nat->(Nat->Prop)->Prop) (yv:Nat->Int) (y1 y2:Int) (fr ub:Nat)
  (ca:w0.heap.size<=B) (I:List Nat) (ac:Told F cb N YS LN LL B w0 I S) (aw:J3 w0 tb N nm YS LN LL) (bc:YS.Pairwise fun i k=>yv i<=yv k) (cG:y1<=y2) (c0:N.length<=1000000) (c1:YS.length<=1000000) (jG:fr<=1000000) (mH:ub<=1000000)
  (t:FT) (s:Nat) (W:World) (f:List Nat) (D:Nat->Prop) (G:FT.At N t s) (aM:t.wf) (cC:t.hi<=1000000) (hS:S W f D) (a6:f++(down YS yv y1 y2 fr ub t).1 <+: I)
  (bS:∀l r,t=.node l r->(∀W f D,S W f D->f++(down YS yv y1 y2 fr ub l).1 <+: I->
    aK 172 #[aj tb,ae (l.root s:Nat),ae (below yv y1 (nl YS l):Nat),ae (upto yv y2 (nl YS l):Nat),.agg #[ae fr,ae ub,.func (.func F) #[] cb]] W (Uo S W D (f++(down YS yv y1 y2 fr ub l).1) (down YS yv y1 y2 fr ub l).2))/\
    ∀W f D,S W f D->f++(down YS yv y1 y2 fr ub r).1 <+: I->aK 172 #[aj tb,ae (r.root (s+l.size):Nat),ae (below yv y1 (nl YS r):Nat),ae (upto yv y2 (nl YS r):Nat),.agg #[ae fr,ae ub,.func (.func F) #[] cb]] W (Uo S W D (f++(down YS yv y1 y2 fr ub r).1) (down YS yv y1 y2 fr ub r).2)):
  aK 172 #[aj tb,ae (t.root s:Nat),ae (below yv y1 (nl YS t):Nat),ae (upto yv y2 (nl YS t):Nat),.agg #[ae fr,ae ub,.func (.func F) #[] cb]] W (Uo S W D (f++(down YS yv y1 y2 fr ub t).1) (down YS yv y1 y2 fr ub t).2):=by
 obtain⟨⟨E,off,cn,av,b1⟩,⟨gl,cl,a0,bP,bE⟩,bR,cB,bT⟩:=aw.below (ac.base W f D hS) ca;have bO:=G.get;have a9:=G.lt;obtain⟨bu,bx,a2,-⟩:=bR _ _ G;obtain⟨al,bh,bw,a1⟩:=bT _ a9;obtain⟨U,ad⟩:=bE _ a9;obtain⟨H,n0,ai,ak,V,X,aP,am⟩:=nJ b1 bO;rw[FT.FV]at V;rw[FT.wF]at X;have bQ:=FT.fF t aM;have bJ:=xu (yv:=yv) (L:=nl YS t) (y:=y2);have bK:=Et (yv:=yv) (L:=nl YS t) (y:=y1);have cD:(nl YS t).length<=YS.length:=fq _ _;rw[a2]at U;rw[a1]at ad;obtain⟨a,aC⟩:∃a,a=below yv y1 (nl YS t):=⟨_,rfl⟩;obtain⟨b,aD⟩:∃b,b=upto yv y2 (nl YS t):=⟨_,rfl⟩;rw[<-aD]at bJ;rw[<-aC]at bK;have cE:∃hi lo:Nat,hi=t.hi/\lo=t.lo:=⟨_,_,rfl,rfl⟩;obtain⟨hi,lo,a3,a4⟩:=cE;rw[<-a3]at X cC bQ;rw[<-a4]at V bQ;obtain⟨K,c⟩:∃K,K=t.root s:=⟨_,rfl⟩;obtain⟨d,hd⟩:∃d,d=t.top s:=⟨_,rfl⟩;rw[<-hd]at n0 ai ak am;rw[<-c]at U ad n0 ai ak V X aP am a9;have J:Hid (a=below yv y1 (nl YS t)/\b=upto yv y2 (nl YS t)/\hi=t.hi/\lo=t.lo/\K=t.root s/\d=t.top s/\(nl YS t).length<=1000000):=⟨aC,aD,a3,a4,c,hd,aa⟩;rw[<-aC,<-aD,<-c];have c3:a<=1000000/\b<=1000000:=aa;clear aC aD a3 a4 c hd bO bJ bK cD;have aV:=af hS;have b9:=af aw;have bq:=af bS;have cS:=af (ac.base W f D hS);have bd:=iF W _ av;simp only at bd;have aT:=af a1;have ce:=af a2;obtain⟨nn,ba⟩:∃nn,nn=(nl YS t).length:=⟨_,rfl⟩;rw[<-ba]at U;have cf:=af ba;clear a1 a2 hS aw bS bT bR cB b1 bE ba;obtain⟨R,az⟩:∃R,R=down YS yv y1 y2 fr ub t:=⟨_,rfl⟩;rw[<-az];rw[<-az]at a6;have Y:=af az;have bn:=af a6;clear a6;clear az;go_enter func172,ntmps172
 go_upto_region 1 with fail
 obtain⟨w1,Z⟩:∃w1,w1=W.alloc (.cells #[ae fr,ae ub,.func (.func F) #[] cb] 245):=⟨_,rfl⟩;have cg:Hid (w1.heap[W.heap.size]? =some (.cells #[ae fr,ae ub,.func (.func F) #[] cb] 245 (0,0))):=by rw[Z];exact bY W _
 have aS:Hid (Below W.heap.size W w1):=by rw[Z];exact(aJ _ _).alloc (aA _) _
 have bV:W.heap.size<w1.heap.size:=by rw[Z];simp
 rw[<-Z];clear Z
 go_cut [11,12]from 11 (fun cM cN ap=>∃x y:Nat,cM=aj x/\cN=aj y/\Hid (ap.heap[x]? =some (.cells #[.int .u8 d.kind,ae d.l,ae d.r,ae lo,ae hi,ae 0,ae d.item] 163 (0,0)))/\
  Hid (ap.heap[y]? =some (.cells #[.slice bu nn bx,.slice al bh bw] 150 (0,0)))/\Hid (Below w1.heap.size w1 ap)/\w1.heap.size<=x/\w1.heap.size<=y)
 case first=>
  have g:=aS.o;have a5:=ah ((g.cell (p:=(ag tb 4)) bd).trans av);have bD:=ah ((g.cell (p:=(ag tb 5)) bd).trans a0);have de:=ah ((g.cell (p:=(ag E (off+K*7))) H).trans n0);have df:=ah ((g.cell (p:=(ag E (off+K*7+1))) H).trans ai);have dg:=ah ((g.cell (p:=(ag E (off+K*7+2))) H).trans ak);have dh:=ah ((g.cell (p:=(ag E (off+K*7+3))) H).trans V);have dj:=ah ((g.cell (p:=(ag E (off+K*7+4))) H).trans X);have dk:=ah ((g.cell (p:=(ag E (off+K*7+5))) H).trans aP);have dl:=ah ((g.cell (p:=(ag E (off+K*7+6))) H).trans am);have dd:=ah ((g.cell (p:=(ag gl (K*2))) bP).trans U);have j1:=ah ((g.cell (p:=(ag gl (K*2+1))) bP).trans ad);clear g av a0 n0 ai ak V X aP am U ad;refine au (fun W=>∃p:aR w1,W=p.W) [17] [(0,false),(1,false),(2,false),(3,true),(4,false),(5,false),(6,true),(7,false),(8,false),(9,false),(10,true),(11,false),(12,false),(13,true)] ⟨⟨_,(aJ _ _).drew⟩,rfl⟩ 4 ?_;refine iH 14 15 rfl rfl (fun K c=>?_) (fun K c=>?_)
  .go_simp;refine c _ _ (fun _ _=>⟨⟨_,(aJ _ w1).alloc (aA _) _|>.drew⟩,rfl⟩) ?_;clear c K;refine ay 15 rfl fun K c=>?_;go_simp;refine c _ _ (fun _ _=>⟨⟨_,((aJ _ w1).alloc (aA _) _).alloc ax _|>.drew⟩,rfl⟩) ?_;clear c K;refine ay 16 rfl fun K c=>?_;go_simp;refine c _ _ (fun _ _=>⟨⟨_,((aJ _ w1).alloc (aA _) _).alloc ax _|>.drew⟩,rfl⟩) ?_;clear c K;refine aF [17] ?_;go_wp2;go_meet;exact⟨w1.heap.size,w1.heap.size+1,rfl,rfl,xn _ _ _,xq _ _ _,((aJ _ w1).alloc (aA _) _).alloc ax _|>.drew,aA _,aa⟩
  .go_simp;refine c _ _ (fun _ _=>⟨⟨_,(aJ _ w1).alloc (aA _) _|>.drew⟩,rfl⟩) ?_;clear c K;refine ay 14 rfl fun K c=>?_;go_simp;refine c _ _ (fun _ _=>⟨⟨_,((aJ _ w1).alloc (aA _) _).alloc ax _|>.drew⟩,rfl⟩) ?_;clear c K;refine ay 16 rfl fun K c=>?_;go_simp;refine c _ _ (fun _ _=>⟨⟨_,((aJ _ w1).alloc (aA _) _).alloc ax _|>.drew⟩,rfl⟩) ?_;clear c K;refine aF [17] ?_;go_wp2;go_meet;exact⟨w1.heap.size+1,w1.heap.size,rfl,rfl,xq _ _ _,xn _ _ _,((aJ _ w1).alloc (aA _) _).alloc ax _|>.drew,aa,aA _⟩
 case rest=>
  obtain⟨x,y,rfl,rfl,ch,ci,bl,c6,c7⟩:=hcut;have aL:=(bl.o.block _ bV).trans cg.o;have T:=ch.o;have be:=ci.o;have bj:wc.cell? (ag W.heap.size 0)=some (ae fr):=aI aL;have bZ:wc.cell? (ag W.heap.size 1)=some (ae ub):=aI aL;have b0:wc.cell? (ag W.heap.size 2)=some (.func (.func F) #[] cb):=aI aL;have b3:wc.cell? (ag x 0)=some (.int .u8 d.kind):=aI T;have x1:wc.cell? (ag x 1)=some (ae d.l):=aI T;have x2:wc.cell? (ag x 2)=some (ae d.r):=aI T;have cO:wc.cell? (ag x 3)=some (ae lo):=aI T;have cP:wc.cell? (ag x 4)=some (ae hi):=aI T;have b4:wc.cell? (ag y 0)=some (.slice bu nn bx):=aI be;have b5:wc.cell? (ag y 1)=some (.slice al bh bw):=aI be;have n:Hid (Below W.heap.size W wc):=aS.o.trans (bl.o.mono aS.o.size);have ar:Hid (S wc f D):=ac.jU _ _ _ _ aV.o n.o;have M:=af ac;clear T be aL av a0 n0 ai ak V X aP am U ad ac;have bU:=iF _ _ b3;have cH:=iF _ _ b4;have bb:=iF _ _ bj;by_cases Q:b<=a\/hi<=fr\/ub<=lo
  .have j:down YS yv y1 y2 fr ub t=([],1):=by
    obtain⟨w,z,O,P,-⟩:=J.o;rw[w,z,O,P]at Q;exact xw Q
   have aU:Hid (Uo S W D (f++R.1) R.2 (.returned (ae 1)) wc):=by
    rw[Y.o,j];show Uo S W D (f++[]) 1 _ _;rw[je];exact⟨rfl,D,ar.o,fun k h=>.inl h,(aB.refl _ _).below n.o⟩
   clear j;have done:True:=trivial;by_cases cX:b<=a
   .have d1:decide ((a:Int)>=(b:Int))=true:=aH;have d2:decide ((b:Int)<=(a:Int))=true:=aH;have d3:decide (b<=a)=true:=aH;go_wp2;go_ret;exact aU.o
   .have d1:decide ((a:Int)>=(b:Int))=false:=aH;have d2:decide ((b:Int)<=(a:Int))=false:=aH;have d3:decide (b<=a)=false:=aH;by_cases cY:hi<=fr
    .have w:decide ((hi:Int)<=(fr:Int))=true:=aH;have z:decide (hi<=fr)=true:=aH;go_wp2;go_ret;exact aU.o
    .have w:decide ((hi:Int)<=(fr:Int))=false:=aH;have z:decide (hi<=fr)=false:=aH;have f1:decide ((lo:Int)>=(ub:Int))=true:=aH;have f2:decide ((ub:Int)<=(lo:Int))=true:=aH;have f3:decide (ub<=lo)=true:=aH;go_wp2;go_ret;exact aU.o
  .have d1:decide ((a:Int)>=(b:Int))=false:=aH;have d2:decide ((b:Int)<=(a:Int))=false:=aH;have d3:decide (b<=a)=false:=aH;have w:decide ((hi:Int)<=(fr:Int))=false:=aH;have z:decide (hi<=fr)=false:=aH;have f1:decide ((lo:Int)>=(ub:Int))=false:=aH;have f2:decide ((ub:Int)<=(lo:Int))=false:=aH;have f3:decide (ub<=lo)=false:=aH;by_cases aE:fr<=lo/\hi<=ub
   .have g1:decide ((lo:Int)>=(fr:Int))=true:=aH;have bB:decide ((fr:Int)<=(lo:Int))=true:=aH;have bC:decide (fr<=lo)=true:=aH;have a5:decide ((hi:Int)<=(ub:Int))=true:=aH;have bD:decide (hi<=ub)=true:=aH;have j:down YS yv y1 y2 fr ub t=(((nl YS t).take b).drop a,1):=by
     obtain⟨w,z,O,P,-⟩:=J.o;rw[w,z,O,P]at Q;rw[O,P]at aE;rw[FY Q aE,w,z];congr 1;exact(Es (bc.filter _) y1 y2 cG).symm
    have aq:=af j;have C:=M.o.told wc f D t s a b ar.o G aa (by rw[J.o.2.1];exact xu) (by have h9:=bn.o;rw[Y.o,j]at h9;exact h9);rw[aT.o,ce.o,<-cf.o]at C;have cU:=M.o.enters;clear j
    go_wp2_with (go_at_fn F;refine C.mono ?_;rintro e w' ⟨rfl,b7,cx,cr,cu⟩)
    have cc:=af cr;go_wp2;go_ret;have e:=aq.o;rw[<-Y.o]at e;rw[e];exact⟨rfl,b7,cx,fun k h=>(cc.o k h).imp id (fun h9=>bA n.o.size h9),((aB.refl (fun k=>D k\/W.heap.size<=k) W).below n.o|>.trans (cu.mono fun k h=>.inl h)).strip⟩
   .have cq:(decide ((lo:Int)>=(fr:Int))=true/\decide ((hi:Int)<=(ub:Int))=false)\/decide ((lo:Int)>=(fr:Int))=false:=aH;obtain⟨l,r,rfl⟩:∃l r,t=.node l r:=by
     cases t with
     |leaf q=>
      obtain⟨-,-,O,P,-⟩:=J.o;simp only[FT.hi]at O;simp only[FT.lo]at P;omega
     |node l r=>exact⟨l,r,rfl⟩
    obtain⟨al',cT,bz,b2⟩:=b9.o.Co l r s G;rw[aT.o]at bz;injection bz with cm co cp;subst cm co cp;obtain⟨aN,aO,bf,bg,cI,id,dc⟩:=J.o;have j:down YS yv y1 y2 fr ub (.node l r)=((down YS yv y1 y2 fr ub l).1++(down YS yv y1 y2 fr ub r).1,1+(down YS yv y1 y2 fr ub l).2+(down YS yv y1 y2 fr ub r).2):=by
     rw[aN,aO,bf,bg]at Q;rw[bf,bg]at aE;exact zm Q aE
    obtain⟨aX,cj⟩:=FX (yv:=yv) l r aM bc y1;obtain⟨aZ,ck⟩:=G8 (yv:=yv) l r aM bc y2;rw[<-aN]at aX cj;rw[<-aO]at aZ ck;have cy:a<(lf l.hi (nl YS (.node l r))).length:=by rw[tL,aN];have:=Et (yv:=yv) (L:=nl YS (.node l r)) (y:=y1);omega
    have cA:b<(lf l.hi (nl YS (.node l r))).length:=by rw[tL,aO];have:=xu (yv:=yv) (L:=nl YS (.node l r)) (y:=y2);omega
    obtain⟨u,bv,rfl,c2,a8⟩:=b2.get aa;have an:=a8 a cy;have ao:=a8 b cA;rw[qO,aX]at an;rw[qO,aZ]at ao;have bM:d.l=((l.root s:Nat):Int):=by rw[id];show((s+l.size:Nat):Int)-1=_;unfold FT.root;have:=l.size_pos;omega
    have bN:d.r=((r.root (s+l.size):Nat):Int):=by rw[id];show((s+l.size+r.size:Nat):Int)-1=_;unfold FT.root;have:=r.size_pos;omega
    rw[bM]at x1;rw[bN]at x2;have c4:=G.left.lt;have c5:=G.right.lt;have bt:=bq.o l r rfl;have aq:=af j;generalize l.root s=kl at*;generalize r.root (s+l.size)=kr at*;generalize below yv y1 (nl YS l)=la at*;generalize below yv y1 (nl YS r)=cK at*;generalize upto yv y2 (nl YS l)=lb at*;generalize upto yv y2 (nl YS r)=cL at*;clear a8 aT b2;generalize(lf l.hi (nl YS (.node l r))).length=bh at*;have cV:(a:Int)-(la:Int)=(cK:Int):=aa;have cW:(b:Int)-(lb:Int)=(cL:Int):=aa;have br:=af bt;have a7:=M.o.base _ _ _ ar.o;have an:=(a7.cell (p:=(ag u (bv+a))) (show u<B by omega)).trans an;have ao:=(a7.cell (p:=(ag u (bv+b))) (show u<B by omega)).trans ao;have ab:=M.o.lt _ _ _ aV.o;have bX:¬D x:=fun h=>by have:=(ab x h).2;omega
    have cJ:¬D y:=fun h=>by have:=(ab y h).2;omega
    have bi:¬D W.heap.size:=fun h=>by have:=(ab _ h).2;omega
    have bW:¬D u:=fun h=>by have:=(ab u h).1;omega
    have bL:u<wc.heap.size:=by have:=a7.size;omega
    clear j ab bt aX aZ aN aO bf bg cI id bM bN bq
    go_upto_block 0 with fail
    go_cut []from 27 (fun ap=>ap=wc)
    case first=>
     rcases cq with⟨g1,bB⟩|g1
     .have bC:decide ((fr:Int)<=(lo:Int))=true:=aQ g1;have a5:decide (fr<=lo)=true:=aQ g1;have bD:decide (hi<=ub)=false:=aQ bB;go_wp2;go_meet;rfl
     .have bC:decide ((fr:Int)<=(lo:Int))=false:=aQ g1;have a5:decide (fr<=lo)=false:=aQ g1;go_wp2;go_meet;rfl
    case rest=>
     subst hcut
     go_upto_region 7 with fail
     have m:∀{bk o:Nat} {v:Value},bk<wc.heap.size->¬D bk->wc.cell? (ag bk o)=some v->∀p:xC D wc,p.W.cell? (ag bk o)=some v:=fun cz hd cF p=>((di p.h cz hd).1 _).trans cF;have m0:=m bb bi bj;have m1:=m bb bi bZ;have m2:=m bb bi b0;have m3:=m bU bX x1;have m4:=m bU bX x2;have dm:=m cH cJ b5;have dn:=m bL bW an;have dp:=m bL bW ao;clear m bj bZ b0 b3 x1 x2 cO cP b4 b5 an ao;refine au (fun W=>∃p:xC D wc,W=p.W) [34,35,36] [(0,false),(1,false),(2,true),(3,false),(4,true),(5,false),(6,false),(7,true),(8,false),(9,true),(10,false),(11,false),(12,true),(13,true),(16,false),(17,false),(18,true),(19,false),(20,false),(21,true),(22,false),(23,false),(24,true),(25,false),(26,false),(27,false),(28,true),(29,false),(30,false),(31,true),(32,false),(33,true)] ⟨⟨_,(aB.refl _ _).drew⟩,rfl⟩ 5 ?_;have bo:Hid ((f++(down YS yv y1 y2 fr ub l).1)++(down YS yv y1 y2 fr ub r).1 <+: I):=by
      have h9:=bn.o;rw[Y.o,aq.o]at h9;show _ <+: _;rw[dW];exact h9
     have cd:Hid (f++(down YS yv y1 y2 fr ub l).1 <+: I):=(List.prefix_append _ _).trans bo.o;have bs:S wc.drew f D:=M.o.jU _ _ _ _ ar.o (aJ _ _).drew;refine ay 14 rfl fun K c=>?_;refine aY Hm rfl _ _ rfl (vals:=#[aj tb,ae kl,ae la,ae lb,.agg #[ae fr,ae ub,.func (.func F) #[] cb]]) rfl (br.o.1 _ _ _ bs cd.o) ?_;rintro e w2 ⟨rfl,cQ,bH,bF,bG⟩;have aG:aB D wc w2:=(aB.refl _ wc).drew.trans bG;refine⟨_,rfl,c _ _ (fun _ _=>⟨⟨_,aG⟩,rfl⟩) ?_⟩;clear c K;refine aW [(15,false)] ⟨⟨_,aG⟩,rfl⟩ rfl ?_;refine aF [34,35,36] ?_;have b6:=br.o.2 _ _ _ bH bo.o;have bp:=af aG;have bm:=af bF;have cR:=af (M.o.lt _ _ _ aV.o);clear aG bF bG bH bs
     go_wp2_with (go_at_call 172;refine b6.mono ?_;rintro e w3 ⟨rfl,b8,bI,cs,cv⟩)
     have bV:=mV (YS:=YS) (yv:=yv) (y1:=y1) (y2:=y2) (fr:=fr) (ub:=ub) l;have c8:=mV (YS:=YS) (yv:=yv) (y1:=y1) (y2:=y2) (fr:=fr) (ub:=ub) r;have c9:=FT.size_eq _ aM;have da:(FT.node l r).size=l.size+r.size+1:=rfl;have db:=J.o.2.2.1;have e:=aq.o;rw[<-Y.o]at e;rw[e];have ct:=af cs;have cw:aB (fun k=>D k\/W.heap.size<=k) W w3:=
      (((aB.refl (fun k=>D k\/W.heap.size<=k) W).below n.o).trans (bp.o.mono fun k h=>.inl h)).trans (cv.mono fun k h=>by
       rcases bm.o k h with h9|h9
       .exact .inl h9
       .right;have:=n.o.size;simp at h9;omega)
     rw[dW]at bI;go_ret;refine⟨?_,b8,bI,fun k h=>?_,cw.strip⟩
     .refine congrArg Ending.returned ?_;show ae (wrap64 (wrap64 (1+((down YS yv y1 y2 fr ub l).2:Int))+((down YS yv y1 y2 fr ub r).2:Int)))=_;generalize(down YS yv y1 y2 fr ub l).2=A at*;generalize(down YS yv y1 y2 fr ub r).2=B at*;have aw:A<=2000000:=aa;have cZ:B<=2000000:=aa;rw[O6 (1+(A:Int)) aa,O6 _ aa];exact congrArg _ aa
     .rcases ct.o k h with h9|h9
      .rcases bm.o k h9 with h8|h8
       .exact .inl h8
       .right;have:=n.o.size;simp at h8;omega
      .right;have:=bp.o.size;have:=n.o.size;omega
theorem MV (F:Nat) (cb:Array Value) (N:List Nd) (nm:Nat->Int) (YS:List Nat) (LN LL:Nat->Value) (tb B:Nat) (w0:World) (S:World->List Nat->(Nat->Prop)->Prop) (yv:Nat->Int) (y1 y2:Int) (fr ub:Nat)
  (g:w0.heap.size<=B) (d:List Nat) (m:Told F cb N YS LN LL B w0 d S) (h:J3 w0 tb N nm YS LN LL) (o:YS.Pairwise fun i k=>yv i<=yv k) (p:y1<=y2) (j:N.length<=1000000) (n:YS.length<=1000000) (jG:fr<=1000000) (mH:ub<=1000000):
  ∀(t:FT) (s:Nat),FT.At N t s->t.wf->t.hi<=1000000->∀(W:World) (a:List Nat) (D:Nat->Prop),S W a D->a++(down YS yv y1 y2 fr ub t).1 <+: d->
  aK 172 #[aj tb,ae (t.root s:Nat),ae (below yv y1 (nl YS t):Nat),ae (upto yv y2 (nl YS t):Nat),.agg #[ae fr,ae ub,.func (.func F) #[] cb]] W (Uo S W D (a++(down YS yv y1 y2 fr ub t).1) (down YS yv y1 y2 fr ub t).2):=by
 intro t
 induction t with
 |leaf x=>exact fun s c b f W a D hS hF=>Cq F cb N nm YS LN LL tb B w0 S yv y1 y2 fr ub g d m h o p j n jG mH _ s W a D c b f hS hF (fun l r e=>by cases e)
 |node l r q u=>
  intro s c b f W a D hS hF;refine Cq F cb N nm YS LN LL tb B w0 S yv y1 y2 fr ub g d m h o p j n jG mH _ s W a D c b f hS hF fun l' z e=>?_;cases e;have v:=FT.fF r b.2.1;have w:=b.2.2;have y:(FT.node l r).hi=r.hi:=rfl;exact⟨fun W a D hS hF=>q s c.left b.1 aa W a D hS hF,fun W a D hS hF=>u _ c.right b.2.1 aa W a D hS hF⟩
end
section
open Go.RowKit
section
variable {P:Program} {ops:Array Oper} {rest:List Oper} {o:Oper} {a:Act} {Q:Exit->Act->World->Prop}
theorem F5 {α:Type} {enc:α->List Value} {sz:Nat} {W:World} {ad:Option Addr} {l:List α} {c:Nat} (g:bV enc sz W ad l) (i:l.length<=c) (lo hi:Nat) (j:hi<=l.length):
  bV enc sz W (if c=lo then ad else ad.map (·.add (lo*sz))) ((l.take hi).drop lo):=by
 by_cases h:c=lo
 .exact .inl (by rw[List.drop_eq_nil_iff,dO];omega)
 .rw[aN h];rcases g with rfl|⟨b,off,rfl,e,f⟩
  .exact .inl ax
  .have a:bV enc sz W (some (ag b off)) l:=.inr ⟨b,off,rfl,e,f⟩;have d:((ag b off):Addr).add (lo*sz)=(ag b (off+lo*sz)):=by unfold Addr.add;split<;>simp_all
   simp only[eP,d];exact(a.take hi).drop lo
theorem zo {α:Type} {enc:α->List Value} {sz:Nat} {t e:TypeId} {bytes:Nat} (s:eY P t e sz bytes) {W:World} {ad:Option Addr} {l:List α} {c:Nat} (B:bV enc sz W ad l) (w:l.length<=c) (lo hi:Nat) (q:lo<=hi) (u:hi<=l.length)
  (y:o.guard=none) (x:Operand) (n f:Option Operand) (j:o.op=.slice t x n f none) (m:a.eval x=.slice ad l.length c)
  (g:(n.map a.eval).getD (.int .i64 0)=.int .i64 lo) (b:(f.map a.eval).getD (.int .i64 l.length)=.int .i64 hi)
  (h:∀p,bV enc sz W p ((l.take hi).drop lo)->wpList P ops Q rest (a.put o.dst (.slice p (hi-lo) (c-lo))) W):wpList P ops Q (o::rest) a W:=by
 obtain⟨ht,⟨i,z,A,F,C,D,G⟩,E⟩:=s;refine wpList_plain y fun K v=>?_;have d:=v _ _ (h _ (F5 B w lo hi u));have hu:∀W',(underlying t).run P W'=.ok (.slice e) W':=fun W'=>qC ht W';have k:∀W',(sizeOf e).run P W'=.ok sz W':=fun W'=>by simp[sizeOf,typeInfo,A,C]
 unfold Oper.wp execOp;have r:hi<=c:=aa;rcases n with _|lw
 .simp only[mh,nC,qA,qM]at g;obtain rfl:lo=0:=aa;rcases f with _|hg
  .simp only[mh,nC,qA,qM]at b;obtain rfl:hi=l.length:=aa;simp only[j,m,mh,Instr.sliceAt,Instr.slice,Instr.sliceBounds,za,hu,k,yV,zb];exact d
  .simp only[eP,ic]at b;simp[j,m,b,Instr.sliceAt,Instr.slice,Instr.sliceBounds,Instr.sliceBound,hu,k,asIntOf,r];simp only[Nat.zero_mul,Cf]at d;exact d
 .simp only[eP,ic]at g;rcases f with _|hg
  .simp only[mh,nC,qA,qM]at b;obtain rfl:hi=l.length:=aa;simp[j,m,g,Instr.sliceAt,Instr.slice,Instr.sliceBounds,Instr.sliceBound,hu,k,asIntOf,q];exact d
  .simp only[eP,ic]at b;simp[j,m,g,b,Instr.sliceAt,Instr.slice,Instr.sliceBounds,Instr.sliceBound,hu,k,asIntOf,q,r];exact d
end
end
section
open Go Go.RowKit
end
end Go.Proofs.YtkjdbndekceffaaGreat
