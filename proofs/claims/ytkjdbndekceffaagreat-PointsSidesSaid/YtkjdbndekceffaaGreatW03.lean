/- Made small by a program. -/
import Derived.Test.YtkjdbndekceffaaGreatW02
set_option linter.unusedSimpArgs false
set_option linter.unusedVariables false
set_option maxRecDepth 100000
set_option maxHeartbeats 16000000
namespace Go.Proofs.YtkjdbndekceffaaGreat
open Tryz
section
open Go.RowKit
def bW {α:Type} (enc:α->List Value) (sz:Nat) (w:World) (a:Option Addr) (l:List α):Prop:=
 l=[]\/∃b off,a=some (ag b off)/\b<w.heap.size/\∀i (h:i<l.length) j,j<sz->w.cell? (ag b (off+i*sz+j))=(enc l[i])[j]?
section
variable {α:Type} {enc:α->List Value} {sz:Nat} {w w':World} {a:Option Addr} {l:List α}
theorem bW.below {B:Nat} (h:bW enc sz w a l) (c:Below B w w') (e:w.heap.size<=B:=by first|exact aB _|(simp;done)|(simp;omega)):bW enc sz w' a l:=by
 rcases h with h|⟨b,off,rfl,d,f⟩
 .exact .inl h
 .exact .inr ⟨b,off,rfl,bX d c.size,fun i hi j g=>by rw[c.cell (p:=(ag b (off+i*sz+j))) (bX d e)];exact f i hi j g⟩
theorem bW.nil:bW enc sz w a ([]:List α):=.inl rfl
theorem bW.get (h:bW enc sz w a l) (c:0<l.length):
  ∃b off,a=some (ag b off)/\b<w.heap.size/\∀i (h:i<l.length) j,j<sz->w.cell? (ag b (off+i*sz+j))=(enc l[i])[j]? :=by
 rcases h with rfl|h
 .simp at c
 .exact h
theorem bW.take (h:bW enc sz w a l) (k:Nat):bW enc sz w a (l.take k):=by
 rcases h with rfl|⟨b,off,rfl,c,d⟩
 .exact .inl aA
 .exact .inr ⟨b,off,rfl,c,fun i hi j e=>by rw[xW];exact d i (by simp at hi;omega) j e⟩
theorem bW.drop {b off:Nat} (h:bW enc sz w (some (ag b off)) l) (k:Nat):bW enc sz w (some (ag b (off+k*sz))) (l.drop k):=by
 rcases h with h|⟨e,f,h,a,c⟩
 .exact .inl (by rw[h];simp)
 .cases h;exact .inr ⟨b,off+k*sz,rfl,a,fun i hi j d=>by
   rw[List.getElem_drop,show off+k*sz+i*sz+j=off+(k+i)*sz+j by rw[mU];omega];exact c (k+i) (by simp at hi;omega) j d⟩
theorem gq (a:∀x,(enc x).length=sz):∀l:List α,(l.flatMap enc).length=l.length*sz
 |[]=>aA
 |x::l=>by
  rw[lZ,bQ,a,gq a l,ed,mU];omega
theorem flat_get (a:∀x,(enc x).length=sz):∀(l:List α) (i:Nat) (h:i<l.length) (j:Nat),j<sz->(l.flatMap enc)[i*sz+j]? =(enc l[i])[j]?
 |x::l,0,_,j,b=>by
  rw[lZ,lT (by rw[a];omega)];simp
 |x::l,i+1,h,j,b=>by
  rw[lZ,nD (by rw[a,mU];omega),a,show(i+1)*sz+j-sz=i*sz+j by rw[mU];omega];exact flat_get a l i (aQ h) j b
theorem bW.aD (f:∀x,(enc x).length=sz) {base:Nat} {e:TypeId} {v:Value} {n:Nat} (t:0<sz) (h:w.ownsRow base e sz v n (l.flatMap enc)):
  ∃a c,v=.slice a l.length c/\n=l.length/\l.length<=c/\bW enc sz w a l:=by
 have⟨k,h⟩:=h;rw[gq f]at k;have s:n=l.length:=Nat.eq_of_mul_eq_mul_right t k.symm;subst s;rcases h with⟨rfl,o⟩|⟨g,m,u,rfl,y,d,p,z,A,ht⟩
 .have:l=[]:=gV o;subst this;exact⟨none,0,rfl,rfl,aB _,.inl rfl⟩
 .refine⟨_,m,rfl,rfl,p,.inr ⟨g,0,rfl,(aZ.1 d).1,fun i hi j q=>?_⟩⟩;have b:=flat_get f l i hi j q;rw[<-ht,uN]at b;have r:i*sz+j<l.length*sz:=bX (show i*sz+j<(i+1)*sz by rw[mU];omega) (nS _ hi);rw[aO r]at b;unfold World.cell?;simp only[d,kF];simpa using b
theorem bW.lit (b:∀x,(enc x).length=sz) (W:World) (e:TypeId) (l:List α) (n:Nat) (c:n=W.heap.size):bW enc sz (W.alloc (.cells (l.flatMap enc).toArray e)) (some (ag n 0)) l:=by
 refine .inr ⟨_,0,rfl,aG,fun i hi j a=>?_⟩;rw[eB _ _ _ _ c,kF];simpa using flat_get b l i hi j a
end
section
variable {P:Program} {ops:Array Oper} {rest:List Oper} {o:Oper} {a:Act} {Q:Exit->Act->World->Prop}
theorem iT {α:Type} {enc:α->List Value} {sz:Nat} {t e:TypeId} {bytes:Nat} (q:eH P t e sz bytes) (d:∀x,(enc x).length=sz) (E:∀x,∀u∈enc x,u.oneCell'=true) (base:Nat) {v:Value} {n:Nat} {xs:List Value} {W:World} (p:W.ownsRow base e sz v n xs) {ad:Option Addr} {l:List α} (O:bW enc sz W ad l)
  (w:o.guard=none) (s x:Operand) (B:o.op=.call {callee:=.builtin .append,args:=#[s,x],argTypes:=#[t,t]})
  (C:a.eval s=v) (c:Nat) (D:a.eval x=.slice ad l.length c) (F:n+l.length<=maxLen) (L:(n+l.length)*bytes<=140737488355328) (I:base<=W.heap.size)
  (h:∀m w',w'.ownsRow base e sz m (n+l.length) (xs++l.flatMap enc)->W.grownBy w' v.ownBlock->wpList P ops Q rest (a.put o.dst m) w'):wpList P ops Q (o::rest) a W:=by
 rcases O with rfl|⟨b,off,rfl,Y,M⟩
 .refine wpList_plain w fun K G=>?_;have R:=jy (ty:=o.type) q p ad c;have T:a.eval x=.slice ad 0 c:=D;have d:=G _ _ (h v W (aQ p) ⟨rfl,rfl,rfl,aB _,fun _ _ _=>rfl⟩);unfold Oper.wp execOp;simp only[B,resolve,invoke,builtin,yh,yj,xX,Ey,l6,pX,C,T,R];exact d
 .obtain⟨ht,⟨i,z,hi,V,S,J,X⟩,k⟩:=q;refine wpList_append_own _ w s x t B base e i z sz bytes ht hi V S J X k v n xs C p (ag b off) l.length c (l.flatMap enc) D (gq d l) ?_ ?_ F L I ?_
  .intro j u hu;have H:((ag b off):Addr).add j=(ag b (off+j)):=by unfold Addr.add;split<;>simp_all
   rw[H];have N:j<l.length*sz:=by
    have:=(fq.1 hu).1;rw[gq d]at this;exact this
   have A:j/sz<l.length:=(IB k).2 N;have f:=M (j/sz) A (j%sz) (qc _ k);have g:=flat_get d l (j/sz) A (j%sz) (qc _ k);have r:j/sz*sz+j%sz=j:=by rw[yl];exact Nat.div_add_mod j sz
   rw[r]at g;rw[uY,r]at f;rw[f,<-g];exact hu
  .intro u hu;have⟨y,_,U⟩:=xY.1 hu;exact E y u U
  .intro m w' f g _;exact h m w' f g
end
structure aS (w:World) where
 W:World
 h:Below w.heap.size w W
instance SC (w:World):Inhabited (aS w):=⟨⟨w,aJ _ _⟩⟩
theorem bH {P:Program} {id:Nat} {Q:Exit->Act->World->Prop} {a:Act} {w:World} {l:List Oper} (c:P.follows .mixedOrders=true) (b:Region.lexB .any l.toArray=true)
  (h:wpQuiet P l.toArray (fun w'=>∃p:aS w,w'=p.W) (fun a'=>∀w',(∃p:aS w,w'=p.W)->Q .normal a' w') l a):(Code.region id l.toArray true).wp P Q a w:=
 wp_region_quiet (C:=fun w'=>∃p:aS w,w'=p.W) c b ⟨⟨w.drew,(aJ _ _).drew⟩,rfl⟩ (aQ h)
theorem dM {P:Program} {f:FuncId} {args:Array Value} {w:World} {p:aS w} {v:Value}
  (h:Calls P f args p.W fun e w'=>e=.returned v/\Below p.W.heap.size p.W w'):Calls P f args p.W fun e c=>e=.returned v/\∃q:aS w,c=q.W:=
 h.mono fun _ w' ⟨b,a⟩=>⟨b,⟨w',p.h.trans (a.mono p.h.size)⟩,rfl⟩
theorem ah {w:World} {ad:Addr} {v:Value} (h:w.cell? ad=some v):∀p:aS w,p.W.cell? ad=some v:=fun p=>by
 rw[p.h.cell (gX w _ h)];exact h
def Ki (W:World) (v v':Value):Prop:=v'.ownBlock=v.ownBlock\/v'.ownBlock=some W.heap.size
theorem jq {P:Program} {t ty e:TypeId} {size bytes:Nat} (E:eH P t e size bytes) (base:Nat) {v:Value} {n:Nat} {xs:List Value} {w:World} (o:w.ownsRow base e size v n xs)
  (a:Addr) (m c:Nat) (b:List Value) (h:b.length=m*size) (l:∀j u,b[j]? =some u->w.cell? (a.add j)=some u) (y:∀u∈b,u.oneCell'=true)
  (A:n+m<=maxLen) (r:(n+m)*bytes<=140737488355328) (I:base<=w.heap.size):
  ∃k w',(Builtin.append_ #[t,t] ty #[v,.slice (some a) m c]).run P w=.ok k w'/\w'.ownsRow base e size k (n+m) (xs++b)/\w.grownBy w' v.ownBlock/\Ki w v k:=by
 obtain⟨ht,⟨i,z,hi,s,D,B,Q⟩,O⟩:=E;have⟨k,w',p,F,G,H⟩:=run_append_own (P:=P) w base t ty e i z size bytes ht hi s D B Q O v n xs o a m c b h l y A r I;refine⟨k,w',p,F,G,?_⟩;subst D;subst B;have U:n+m<=9223372036854775807:=by simp only[maxLen]at A;omega
 rcases o.2 with⟨rfl,rfl⟩|⟨g,q,x,rfl,R,L,T,S,J,V⟩
 .by_cases M:m=0
  .rw[H.2 ⟨rfl,M⟩];exact .inl rfl
  .have d:=run_append_nil (P:=P) w t ty e i z ht hi s a m c b h l aa aa (by simp only[kF]at r;omega);rw[p]at d;injection d with f _;rw[f];exact .inr rfl
 .by_cases C:n+m<=q
  .have K:n*i.size+b.length<=x.size:=by rw[h,J,<-mU];exact nS _ C
   have d:=run_append_room (P:=P) w t ty e i ht hi g n q x L a m c b h l y C K;rw[p]at d;injection d with f _;rw[f];exact .inl rfl
  .have N:∀j u,xs[j]? =some u->w.cell? (((ag g 0):Addr).add j)=some u:=o.cells (g:=g) rfl;have d:=run_append_grow (P:=P) w t ty e i z ht hi s (ag g 0) n q xs o.1 N a m c b h l aa aa (growslice_fits aa r);rw[p]at d;injection d with f _;rw[f];exact .inr rfl
theorem gJ {w:World} {o:Obj} {v a:Value} (h:Ki (w.alloc o) v a):a.ownBlock=v.ownBlock\/∃b,a.ownBlock=some b/\w.heap.size<=b:=by
 rcases h with h|h
 .exact .inl h
 .exact .inr ⟨_,h,aA⟩
section
variable {P:Program} {ops:Array Oper} {rest:List Oper} {o:Oper} {a:Act} {Q:Exit->Act->World->Prop}
theorem cu {t e:TypeId} {size bytes:Nat} (f:eH P t e size bytes) (base:Nat) {v:Value} {n:Nat} {xs:List Value} {W:World} (A:W.ownsRow base e size v n xs) (b:List Value) (F:b.length=size) (g:∀u∈b,u.oneCell'=true)
  (w:o.guard=none) (s x:Operand) (z:o.op=.call {callee:=.builtin .append,args:=#[s,x],argTypes:=#[t,t]})
  (C:a.eval s=v) (d:TypeId) (D:a.eval x=az W.heap.size 1 1) (m:n+1<=maxLen) (r:(n+1)*bytes<=140737488355328) (E:base<=W.heap.size)
  (h:∀c w',w'.ownsRow base e size c (n+1) (xs++b)->W.grownBy w' v.ownBlock->Ki (W.alloc (.cells b.toArray d)) v c->wpList P ops Q rest (a.put o.dst c) w'):wpList P ops Q (o::rest) a (W.alloc (.cells b.toArray d)):=by
 refine wpList_plain w fun K p=>?_;have⟨c,w',B,i,k,l⟩:=jq (ty:=o.type) f base (A.alloc (.cells b.toArray d)) (ag W.heap.size 0) 1 1 b aa (by
  intro j u hu;have q:((ag W.heap.size 0):Addr).add j=(ag W.heap.size j):=by unfold Addr.add;split<;>simp_all
  rw[q,eB _ _ _ _ (by rfl)];simpa using hu) g m r aG
 have y:=p _ _ (h c w' i (dR (qR W _ none) k) l);unfold Oper.wp execOp;simp only[z,resolve,invoke,builtin,yh,yj,xX,Ey,l6,pX,C,D,B];exact y
theorem nJ {α:Type} {enc:α->List Value} {sz:Nat} {t e:TypeId} {bytes:Nat} (k:eH P t e sz bytes) (d:∀x,(enc x).length=sz) (D:∀x,∀u∈enc x,u.oneCell'=true) (base:Nat) {v:Value} {n:Nat} {xs:List Value} {W:World} (m:W.ownsRow base e sz v n xs) {ad:Option Addr} {l:List α} (N:bW enc sz W ad l)
  (L:o.guard=none) (s x:Operand) (A:o.op=.call {callee:=.builtin .append,args:=#[s,x],argTypes:=#[t,t]})
  (B:a.eval s=v) (c:Nat) (C:a.eval x=.slice ad l.length c) (F:n+l.length<=maxLen) (I:(n+l.length)*bytes<=140737488355328) (H:base<=W.heap.size)
  (h:∀f w',w'.ownsRow base e sz f (n+l.length) (xs++l.flatMap enc)->W.grownBy w' v.ownBlock->Ki W v f->wpList P ops Q rest (a.put o.dst f) w'):wpList P ops Q (o::rest) a W:=by
 refine wpList_plain L fun K w=>?_;rcases N with rfl|⟨b,off,rfl,S,J⟩
 .have p:=jy (ty:=o.type) k m ad c;have O:a.eval x=.slice ad 0 c:=C;have d:=w _ _ (h v W (aQ m) ⟨rfl,rfl,rfl,aB _,fun _ _ _=>rfl⟩ (.inl rfl));unfold Oper.wp execOp;simp only[A,resolve,invoke,builtin,yh,yj,xX,Ey,l6,pX,B,O,p];exact d
 .obtain⟨f,w',p,g,i,E⟩:=jq (ty:=o.type) k base m (ag b off) l.length c (l.flatMap enc) (gq d l) (by
   intro j u hu;have G:((ag b off):Addr).add j=(ag b (off+j)):=by unfold Addr.add;split<;>simp_all
   rw[G];have M:j<l.length*sz:=by
    have:=(fq.1 hu).1;rw[gq d]at this;exact this
   have q:0<sz:=k.hsz;have z:j/sz<l.length:=(IB q).2 M;have g:=J (j/sz) z (j%sz) (qc _ q);have i:=flat_get d l (j/sz) z (j%sz) (qc _ q);have r:j/sz*sz+j%sz=j:=by rw[yl];exact Nat.div_add_mod j sz
   rw[r]at i;rw[uY,r]at g;rw[g,<-i];exact hu) (by
   intro u hu;have⟨y,_,R⟩:=xY.1 hu;exact D y u R) F I H
  have d:=w _ _ (h f w' g i E);unfold Oper.wp execOp;simp only[A,resolve,invoke,builtin,yh,yj,xX,Ey,l6,pX,B,C,p];exact d
end
def Qx {α:Type} (S:List α) (k:Nat) (x:α):List α:=S.take k++x::S.drop k
section
variable {α:Type} (S:List α) (k:Nat) (x:α)
theorem NI (h:k<=S.length):(Qx S k x).length=S.length+1:=by simp[Qx];omega
theorem Uj (a:0<k) (h:k<=S.length):(Qx S k x)[k-1]'(by rw[NI S k x h];omega)=S[k-1]:=by
 unfold Qx;rw[qO aG];simp
theorem Lr (a:0<k) (h:k<=S.length):S.drop (k-1)=S[k-1]::S.drop k:=by
 have:=lU (show k-1<S.length by omega);rw[show k-1+1=k by omega]at this;exact this
end
theorem aU {w:World} {base:Nat} {e:TypeId} {size:Nat} {v:Value} {n:Nat} {xs:List Value} (h:w.ownsRow base e size v n xs) (k:0<n):∃g c,v=az g n c/\base<=g/\g<w.heap.size/\n<=c/\c<=maxLen:=by
 rcases h.2 with⟨_,l⟩|⟨g,a,j,rfl,b,d,f,i,_⟩
 .omega
 .exact⟨g,a,rfl,b,(aZ.1 d).1,f,i⟩
theorem aX {w w':World} {base:Nat} {e:TypeId} {size n:Nat} {v:Value} {xs:List Value} (h:w.ownsRow base e size v n xs) (i:∀a,v.ownBlock=some a->w'.heap[a]? =w.heap[a]?):w'.ownsRow base e size v n xs:=by
 have⟨d,f⟩:=h;refine⟨d,?_⟩;rcases f with h|⟨g,b,c,rfl,j,k,r⟩
 .exact .inl h
 .exact .inr ⟨g,b,c,rfl,j,(i g rfl).trans k,r⟩
theorem aC {w:World} {a:Addr} {v:Value} {b:Nat} (h:a.block≠b):(w.setCell a v).heap[b]? =w.heap[b]? :=Below.heap_setCell w a v b (iR h)
theorem ma {w:World} {base g n c m:Nat} {e:TypeId} {size:Nat} {xs:List Value} (h:w.ownsRow base e size (az g n c) n xs) (p:m<=n):w.ownsRow base e size (az g m c) m (xs.take (m*size)):=by
 have⟨f,i⟩:=h;have o:m*size<=n*size:=nS _ p;refine⟨by rw[eQ,f];omega,?_⟩;rcases i with⟨h,_⟩|⟨u,s,b,j,k,l,v,r,q,ht⟩
 .cases h
 .injection j with a t d;injection a with a;injection a with a _ _;subst a d;refine .inr ⟨g,c,b,rfl,k,l,aa,r,q,?_⟩;have:=congrArg (List.take (m*size)) ht;rw[Bb,Nat.min_eq_left o]at this;exact this
theorem qf {α:Type} {enc:α->List Value} {sz:Nat} (a:∀x,(enc x).length=sz):∀(l:List α) (m:Nat),(l.flatMap enc).take (m*sz)=(l.take m).flatMap enc
 |[],m=>aA
 |x::l,0=>aA
 |x::l,m+1=>by
  rw[lZ,pE,lZ,mU,Nat.one_mul,Nat.add_comm,<-a x,List.take_length_add_append,a x,qf a l m]
structure ay (S:Nat->Prop) (W w':World):Prop where
 os:w'.os=W.os
 tape:w'.tape=W.tape
 output:w'.output=W.output
 size:W.heap.size<=w'.heap.size
 block:∀k,k<W.heap.size->¬S k->w'.heap[k]? =W.heap[k]?
theorem ay.refl (S:Nat->Prop) (W:World):ay S W W:=⟨rfl,rfl,rfl,aB _,fun _ _ _=>rfl⟩
theorem ay.trans {S:Nat->Prop} {W w1 w2:World} (h:ay S W w1) (a:ay S w1 w2):ay S W w2:=
 ⟨a.os.trans h.os,a.tape.trans h.tape,a.output.trans h.output,bB h.size a.size,fun k b c=>(a.block k (bX b h.size) c).trans (h.block k b c)⟩
theorem ay.below {S:Nat->Prop} {W w1 w2:World} (h:ay S W w1) (a:Below w1.heap.size w1 w2):ay S W w2:=
 ⟨a.os.trans h.os,a.tape.trans h.tape,a.output.trans h.output,bB h.size a.size,fun k b c=>(a.block k (bX b h.size)).trans (h.block k b c)⟩
theorem ay.grown {S:Nat->Prop} {W w1 w2:World} {r:Option Nat} (h:ay S W w1) (a:w1.grownBy w2 r) (d:∀k,r=some k->S k\/W.heap.size<=k):ay S W w2:=
 ⟨a.os.trans h.os,a.tape.trans h.tape,a.output.trans h.output,bB h.size a.size,fun k b c=>(a.block k (bX b h.size) (fun e=>by rcases d k e.symm with h9|h9;exact c h9;omega)).trans (h.block k b c)⟩
theorem ay.set {S:Nat->Prop} {W w1:World} (h:ay S W w1) {a:Addr} (v:Value) (c:S a.block\/W.heap.size<=a.block):ay S W (w1.setCell a v):=
 ⟨h.os,h.tape,h.output,aQ h.size,fun k d b=>(aC (fun e=>by rcases c with h9|h9;exact b (e▸h9);omega)).trans (h.block k d b)⟩
theorem ay.drew {S:Nat->Prop} {W w1:World} (h:ay S W w1):ay S W w1.drew:=⟨h.os,h.tape,h.output,h.size,h.block⟩
theorem ay.mono {S S':Nat->Prop} {W w1:World} (h:ay S W w1) (d:∀k,S k->S' k):ay S' W w1:=⟨h.os,h.tape,h.output,h.size,fun k c b=>h.block k c fun a=>b (d k a)⟩
theorem ay.toBelow {S:Nat->Prop} {B:Nat} {W w1:World} (h:ay S W w1) (c:B<=W.heap.size) (b:∀k,S k->B<=k):Below B W w1:=⟨h.os,h.tape,h.output,h.size,fun k d=>h.block k aa fun a=>by have:=b k a;omega⟩
theorem bI {w:World} {base b:Nat} {e:TypeId} {size:Nat} {v:Value} {n:Nat} {xs:List Value} (h:w.ownsRow base e size v n xs) (i:b<=base):w.ownsRow b e size v n xs:=by
 have⟨f,a⟩:=h;refine⟨f,?_⟩;rcases a with a|⟨g,c,d,k,j,r⟩
 .exact .inl a
 .exact .inr ⟨g,c,d,k,bB i j,r⟩
section
variable {P:Program} {ops:Array Oper} {o:Oper} {a:Act} {K:Act->World->Prop} {Q:Exit->Act->World->Prop} {E0:Prop}
theorem bD {t e j:TypeId} {size bytes:Nat} {fr:Nat×Nat} (f:eH P t e size bytes) (base:Nat) {v:Value} {n:Nat} {xs:List Value} {w:World} (B:w.ownsRow base e size v n xs) (b:List Value) (I:b.length=size) (k:∀u∈b,u.oneCell'=true)
  (y:o.guard=none) (s x:Operand) (A:o.op=.call {callee:=.builtin .append,args:=#[s,x],argTypes:=#[t,t]}) (C:a.eval s=v) (c:Nat) (F:a.eval x=az c 1 1) (r:w.heap[c]? =some (Obj.cells b.toArray j fr))
  (l:n+1<=maxLen) (q:(n+1)*bytes<=140737488355328) (m:base<=w.heap.size)
  (h:∀g d w',w'.ownsRow base e size (az g (n+1) d) (n+1) (xs++b)->w.grownBy w' v.ownBlock->(v.ownBlock=some g\/g=w.heap.size)->g<w'.heap.size->K (a.put o.dst (az g (n+1) d)) w'):
  if Region.wanted o (yielded ops a.tmps)=true then Oper.wp P o a w K Q else E0:=by
 obtain⟨ht,⟨i,z,hi,G,D,p,H⟩,E⟩:=f;exact step_append_lies w y s x t A base e i z size bytes ht hi G D p H E v n xs C B (ag c 0) 1 1 b F aa (uK (cs:=b.toArray) r) k ai l q m w.heap.size rfl h
theorem bf {f:FuncId} {w:World} {vals:Array Value} {R:Ending->World->Prop} (g:∀args w,(callFunc f args).run P w=.ok (.enter f args) w) (i:o.guard=none) (args:Array Operand) (n:Array TypeId) (k:o.op=.call {callee:=.value (.func f),args:=args,argTypes:=n}) (c:vals=(args.toList.map a.eval).toArray)
  (C:Calls P f vals w R) (h:∀e w',R e w'->∃v,e=.returned v/\K (a.put o.dst v) w'):
  if Region.wanted o (yielded ops a.tmps)=true then Oper.wp P o a w K Q else E0:=by
 have m:Region.wanted o (yielded ops a.tmps)=true:=by simp[Region.wanted,i]
 rw[aO m];unfold Oper.wp;have b:args.map a.eval=vals:=by rw[c,<-Ez]
 have d:(execOp a.eval o).run P w=.ok (.enter f vals) w:=by
  simp[execOp,k,resolve,invoke,b,Act.eval,Deferred.ofValue,g]
 rw[d,Oper.upon_enter];refine C.mono fun e w' l=>?_;obtain⟨v,rfl,j⟩:=h e w' l;exact j
end
theorem ay.alloc {S:Nat->Prop} {W w1:World} (h:ay S W w1) (o:Obj):ay S W (w1.alloc o):=h.below ((aJ _ _).alloc (aB _) _)
theorem aR {S:Nat->Prop} {W W':World} {base:Nat} {e:TypeId} {sz:Nat} {v:Value} {n:Nat} {xs:List Value} (h:W.ownsRow base e sz v n xs) (K:ay S W W') (hS:∀a,v.ownBlock=some a->¬S a):W'.ownsRow base e sz v n xs:=
 aX h fun a e=>K.block a (h.lt a e).2 (hS a e)
theorem bq {S:Nat->Prop} {W W':World} (K:ay S W W') {b:Nat} {o:Obj} (h:W.heap[b]? =some o) (hS:¬S b):W'.heap[b]? =some o:=(K.block b (aZ.1 h).1 hS).trans h
theorem cz {S:Nat->Prop} {W W':World} (K:ay S W W') {b:Nat} (a:b<W.heap.size) (hS:¬S b):(∀o,W'.cell? (ag b o)=W.cell? (ag b o))/\(∀o,W'.frozen? (ag b o)=W.frozen? (ag b o)):=
 ⟨fun o=>dC (K.block b a hS),fun o=>pz (K.block b a hS)⟩
theorem bV (w:World) (o:Obj):(w.alloc o).heap[w.heap.size]? =some o:=uJ w o
theorem F4 (w:World) (o a:Obj):((w.alloc o).alloc a).heap[w.heap.size]? =some o:=(bR _ _ _ aA).trans (bV w o)
theorem CV (w:World) (o a:Obj):((w.alloc o).alloc a).heap[w.heap.size+1]? =some a:=by
 have:=bV (w.alloc o) a;rwa [show(w.alloc o).heap.size=w.heap.size+1 by simp]at this
theorem kY (w:World) (o:Obj):(w.alloc o).drew.heap[w.heap.size]? =some o:=bV w o
theorem Dn (w:World) (o a:Obj):((w.alloc o).alloc a).drew.heap[w.heap.size]? =some o:=F4 w o a
theorem Dp (w:World) (o a:Obj):((w.alloc o).alloc a).drew.heap[w.heap.size+1]? =some a:=CV w o a
section
variable {W:World} {base:Nat}
theorem bn {e t:TypeId} {sz k X:Nat} {v:Value} {xs:List Value} {cs:Array Value} {fr:Nat×Nat} (h:W.ownsRow base e sz v k xs) (d:W.heap[X]? =some (Obj.cells cs t fr)) (f:t≠e):∀b,v.ownBlock=some b->X≠b:=by
 rintro b c rfl;rcases h.2 with⟨rfl,_⟩|⟨g,i,j,rfl,_,a,_⟩
 .cases c
 .simp only[Value.ownBlock,jl]at c;subst c;rw[d]at a;injection a with a;injection a with _ a _;exact f a
theorem dW {X b:Nat} {cs d:Array Value} {t c:TypeId} {fr e:Nat×Nat} (f:W.heap[X]? =some (Obj.cells cs t fr)) (a:W.heap[b]? =some (Obj.cells d c e)) (h:t≠c):X≠b:=by
 rintro rfl;rw[f]at a;injection a with a;injection a with _ a _;exact h a
theorem bA {f i:Nat} {e c:TypeId} {sz n k k':Nat} {v d:Value} {xs o:List Value} (h:W.ownsRow f e sz v k xs) (h':W.ownsRow i c n d k' o) (m:e≠c):∀a,v.ownBlock=some a->d.ownBlock≠some a:=by
 intro a j b;rcases h'.2 with⟨rfl,_⟩|⟨g,p,q,rfl,_,l,_⟩
 .cases b
 .simp only[Value.ownBlock,jl]at b;subst b;exact bn h l (iR m) _ j rfl
theorem ay.strip {S:Nat->Prop} {w1:World} (h:ay (fun k=>S k\/W.heap.size<=k) W w1):ay S W w1:=⟨h.os,h.tape,h.output,h.size,fun k a b=>h.block k a fun h9=>by rcases h9 with h9|h9;exact b h9;omega⟩
end
end
section
open Go.RowKit Go.Sort Go.Shelf Go.Lib Go.Maps
def eu (l:List Int):List Int:=l.mergeSort fun x y=>decide (x<=y)
theorem jm (l:List Int):(eu l).length=l.length:=(ru l _).length_eq
theorem zW {w:World} {base n:Nat} {v:Value} {l:List Int} (h:w.ownsRow base 27 1 v n (l.map (Value.int .u32))) (d:n<=1000000):
  aK 64 #[v] w fun e w'=>e=.returned (.tuple #[])/\w'.ownsRow base 27 1 v n ((eu l).map (Value.int .u32))/\ay (fun k=>v.ownBlock=some k) w w':=by
 have c:l.length=n:=by have:=h.1;simpa using this
 have⟨u,j⟩:=h;rcases j with⟨rfl,i⟩|⟨g,f,s,rfl,m,a,x,p,z,ht⟩
 .subst i;refine(F3 none 0 w).mono ?_;rintro e w' ⟨rfl,rfl⟩;have:l=[]:=gV c;subst this;exact⟨rfl,by simpa[eu]using dA w' base 27 1,ay.refl _ _⟩
 .subst c;rw[iQ]at ht;have o:g<w.heap.size:=(aZ.1 a).1;refine(SB g 0 f l w (holds_of_block a ht) o aa).mono ?_;rintro e w' ⟨rfl,q,os,rfl⟩;obtain⟨t,-,-,-,b⟩:=rV (l':=eu l) m a aa p aa (jm l) q os;rw[jm]at b;refine⟨rfl,b,rfl,rfl,rfl,?_,fun k y d=>?_⟩
  .show w.heap.size<=((w.heap.modify g _)++os).size;simp
  .have r:g≠k:=fun e=>d (by rw[e];rfl);show((w.heap.modify g _)++os)[k]? =_;rw[xK aG,xN,aN r]
end
end Go.Proofs.YtkjdbndekceffaaGreat
set_option autoImplicit false
namespace Go.Proofs.YtkjdbndekceffaaGreat
open Tryz
section
open Go
inductive FT where
 |leaf (a:Nat)
 |node (l r:FT)
namespace FT
def lo:FT->Nat
 |leaf a=>a
 |node l _=>l.lo
def hi:FT->Nat
 |leaf a=>a+1
 |node _ r=>r.hi
def size:FT->Nat
 |leaf _=>1
 |node l r=>l.size+r.size+1
def ht:FT->Nat
 |leaf _=>0
 |node l r=>max l.ht r.ht+1
def wf:FT->Prop
 |leaf _=>True
 |node l r=>l.wf/\r.wf/\l.hi=r.lo
theorem size_pos (t:FT):0<t.size:=by cases t<;>simp[size]
theorem eZ:∀(t:FT),t.wf->t.lo<t.hi
 |leaf a,_=>by simp[lo,hi]
 |node l r,h=>by
  have b:=eZ l h.1;have c:=eZ r h.2.1;have d:=h.2.2;simp only[lo,hi];omega
theorem size_eq:∀(t:FT),t.wf->t.size+1=2*(t.hi-t.lo)
 |leaf a,_=>by simp only[size,lo,hi];omega
 |node l r,h=>by
  have b:=size_eq l h.1;have c:=size_eq r h.2.1;have d:=h.2.2;have e:=eZ l h.1;have f:=eZ r h.2.1;simp only[size,lo,hi];omega
end FT
def dP (a n:Nat):FT:=
 if h:n<=1 then .leaf a else .node (dP a (n-n/2)) (dP (a+(n-n/2)) (n/2))
 termination_by n
 decreasing_by all_goals omega
theorem zX (a n:Nat) (h:n<=1):dP a n=.leaf a:=by rw[dP,dif_pos h]
theorem EH (a n:Nat) (h:1<n):dP a n=.node (dP a (n-n/2)) (dP (a+(n-n/2)) (n/2)):=by rw[dP,dif_neg aa]
theorem bJ (a n:Nat) (h:0<n):(dP a n).wf/\(dP a n).lo=a/\(dP a n).hi=a+n:=by
 induction n using Nat.strongRecOn generalizing a with
 |ind n ih=>
  by_cases b:n<=1
  .rw[zX a n b];exact⟨trivial,rfl,by simp only[FT.hi];omega⟩
  .rw[EH a n aa];have⟨w1,c,e⟩:=ih (n-n/2) aa a aa;have⟨w2,d,f⟩:=ih (n/2) aa (a+(n-n/2)) aa;exact⟨⟨w1,w2,by rw[e,d]⟩,c,by simp only[FT.hi];rw[f];omega⟩
theorem fu (a n:Nat) (h:0<n):(dP a n).size=2*n-1:=by
 have⟨w,l,r⟩:=bJ a n h;have:=FT.size_eq _ w;omega
theorem vE (a n k:Nat) (h:n<=2^k):(dP a n).ht<=k:=by
 induction k generalizing a n with
 |zero=>rw[zX a n (aQ h)];exact aB _
 |succ k ih=>
  by_cases b:n<=1
  .rw[zX a n b];exact aY _
  .rw[EH a n aa];rw[pY]at h;have c:=ih a (n-n/2) aa;have d:=ih (a+(n-n/2)) (n/2) aa;simp only[FT.ht];omega
structure Nd where
 kind:Int
 l:Int
 r:Int
 fr:Int
 Kj:Int
 item:Int
namespace FT
def nodes:FT->Nat->List Nd
 |leaf a,_=>[⟨1,-1,-1,a,(a:Int)+1,a⟩]
 |node l r,s=>l.nodes s++r.nodes (s+l.size)++[⟨2,((s+l.size:Nat):Int)-1,((s+l.size+r.size:Nat):Int)-1,l.lo,r.hi,0⟩]
theorem iF:∀(t:FT) (s:Nat),(t.nodes s).length=t.size
 |leaf a,_=>rfl
 |node l r,s=>by
  simp only[nodes,size,bQ,iF l,iF r,ed,fF]
def At (N:List Nd) (t:FT) (s:Nat):Prop:=∃A B,N=A++t.nodes s++B/\A.length=s
theorem At.left {N:List Nd} {l r:FT} {s:Nat} (h:At N (node l r) s):At N l s:=by
 have⟨A,B,e,a⟩:=h;exact⟨A,r.nodes (s+l.size)++([⟨2,((s+l.size:Nat):Int)-1,((s+l.size+r.size:Nat):Int)-1,l.lo,r.hi,0⟩]++B),by rw[e,nodes];simp only[dY],a⟩
theorem At.right {N:List Nd} {l r:FT} {s:Nat} (h:At N (node l r) s):At N r (s+l.size):=by
 have⟨A,B,e,a⟩:=h;exact⟨A++l.nodes s,[⟨2,((s+l.size:Nat):Int)-1,((s+l.size+r.size:Nat):Int)-1,l.lo,r.hi,0⟩]++B,by rw[e,nodes];simp only[dY],by rw[bQ,iF,a]⟩
def root (t:FT) (s:Nat):Nat:=s+t.size-1
def top:FT->Nat->Nd
 |leaf a,_=>⟨1,-1,-1,a,(a:Int)+1,a⟩
 |node l r,s=>⟨2,((s+l.size:Nat):Int)-1,((s+l.size+r.size:Nat):Int)-1,l.lo,r.hi,0⟩
theorem EI (t:FT) (s:Nat):(t.top s).fr=t.lo:=by cases t<;>rfl
theorem vF (t:FT) (s:Nat):(t.top s).Kj=t.hi:=by cases t<;>simp[top,hi]
theorem IW:∀(t:FT) (s:Nat),∃P,t.nodes s=P++[t.top s]/\P.length+1=t.size
 |leaf a,s=>⟨[],rfl,rfl⟩
 |node l r,s=>⟨l.nodes s++r.nodes (s+l.size),rfl,by simp only[bQ,iF,size]⟩
theorem At.get {N:List Nd} {t:FT} {s:Nat} (h:At N t s):N[t.root s]? =some (t.top s):=by
 have⟨A,B,e,a⟩:=h;have⟨P,hP,b⟩:=IW t s;unfold root;rw[e,hP,dY,dY,nD aa,nD aa];have:s+t.size-1-A.length-P.length=0:=aa;rw[this];rfl
theorem At.lt {N:List Nd} {t:FT} {s:Nat} (h:At N t s):t.root s<N.length:=(fq.1 h.get).1
def canon:FT->Nat->Nat->Nat->List Nat×Nat
 |t@(leaf _),s,a,b=>if t.hi<=a\/b<=t.lo then([],1)else([t.root s],1)
 |t@(node l r),s,a,b=>if t.hi<=a\/b<=t.lo then([],1)else if a<=t.lo/\t.hi<=b then([t.root s],1)else((l.canon s a b).1++(r.canon (s+l.size) a b).1,(l.canon s a b).2+(r.canon (s+l.size) a b).2+1)
theorem iG {t:FT} {s a b:Nat} (h:t.hi<=a\/b<=t.lo):t.canon s a b=([],1):=by
 cases t<;>(rw[canon,aO h])
theorem rW {t:FT} {s a b:Nat} (c:¬(t.hi<=a\/b<=t.lo)) (h:a<=t.lo/\t.hi<=b):t.canon s a b=([t.root s],1):=by
 cases t with
 |leaf x=>rw[canon,aN c]
 |node l r=>rw[canon,aN c,aO h]
theorem mV {l r:FT} {s a b:Nat} (c:¬((node l r).hi<=a\/b<=(node l r).lo)) (h:¬(a<=(node l r).lo/\(node l r).hi<=b)):(node l r).canon s a b=((l.canon s a b).1++(r.canon (s+l.size) a b).1,(l.canon s a b).2+(r.canon (s+l.size) a b).2+1):=by
 rw[canon,aN c,aN h]
theorem Dq {t:FT} {s a b:Nat} (h:a<=t.lo/\t.hi<=b):(t.canon s a b).2=1:=by
 by_cases c:t.hi<=a\/b<=t.lo
 .rw[iG c]
 .rw[rW c h]
theorem Dr (t:FT) (n:t.wf) (s a b:Nat) (h:a<=t.lo\/t.hi<=b):(t.canon s a b).2<=2*t.ht+1:=by
 induction t generalizing s with
 |leaf x=>
  rw[canon];split<;>simp[ht]
 |node l r f g=>
  by_cases c:(node l r).hi<=a\/b<=(node l r).lo
  .rw[iG c];simp
  .by_cases d:a<=(node l r).lo/\(node l r).hi<=b
   .rw[rW c d];simp
   .rw[mV c d];simp only[ht];have⟨w1,w2,e⟩:=n;have o:=eZ l w1;have p:=eZ r w2;simp only[lo,hi]at h c d;rcases h with h|h
    .have m:=g w2 (s+l.size) (.inl aa);have k:=f w1 s (.inl h);by_cases j:l.hi<=b
     .have:=Dq (t:=l) (s:=s) (a:=a) (b:=b) ⟨h,j⟩;omega
     .have:=iG (t:=r) (s:=s+l.size) (a:=a) (b:=b) (.inr aa);rw[this];show(l.canon s a b).2+1+1<=_;omega
    .have m:=g w2 (s+l.size) (.inr h);have k:=f w1 s (.inr aa);by_cases i:a<=r.lo
     .have:=Dq (t:=r) (s:=s+l.size) (a:=a) (b:=b) ⟨i,h⟩;omega
     .have:=iG (t:=l) (s:=s) (a:=a) (b:=b) (.inl aa);rw[this];show 1+(r.canon (s+l.size) a b).2+1<=_;omega
theorem Bg (t:FT) (h:t.wf) (s a b:Nat):(t.canon s a b).2<=4*t.ht+1:=by
 induction t generalizing s with
 |leaf x=>
  rw[canon];split<;>simp[ht]
 |node l r i j=>
  by_cases c:(node l r).hi<=a\/b<=(node l r).lo
  .rw[iG c];simp
  .by_cases d:a<=(node l r).lo/\(node l r).hi<=b
   .rw[rW c d];simp
   .rw[mV c d];simp only[ht];have⟨w1,w2,e⟩:=h;have n:=eZ l w1;have o:=eZ r w2;simp only[lo,hi]at c d;by_cases g:b<=r.lo
    .have:=iG (t:=r) (s:=s+l.size) (a:=a) (b:=b) (.inr g);rw[this];have:=i w1 s;show(l.canon s a b).2+1+1<=_;omega
    .by_cases f:l.hi<=a
     .have:=iG (t:=l) (s:=s) (a:=a) (b:=b) (.inl f);rw[this];have:=j w2 (s+l.size);show 1+(r.canon (s+l.size) a b).2+1<=_;omega
     .have k:=Dr l w1 s a b (.inr aa);have m:=Dr r w2 (s+l.size) a b (.inl aa);show(l.canon s a b).2+(r.canon (s+l.size) a b).2+1<=_;omega
def path:FT->Nat->Nat->List Nat
 |leaf _,s,_=>[s]
 |node l r,s,x=>(node l r).root s::(if x<l.hi then l.path s x else r.path (s+l.size) x)
theorem oI:∀(t:FT) (s x:Nat),(t.path s x).length<=t.ht+1
 |leaf _,_,_=>aB _
 |node l r,s,x=>by
  have a:=oI l s x;have b:=oI r (s+l.size) x;simp only[path,ht,ed];split<;>omega
theorem sU (t:FT) (s x:Nat):∃P,t.path s x=t.root s::P:=by
 cases t with
 |leaf a=>exact⟨[],by simp[path,root,size]⟩
 |node l r=>exact⟨_,rfl⟩
end FT
end
end Go.Proofs.YtkjdbndekceffaaGreat
set_option autoImplicit false
namespace Go.Proofs.YtkjdbndekceffaaGreat
open Tryz
section
open Go
def nl (YS:List Nat) (t:FT):List Nat:=YS.filter fun i=>decide (t.lo<=i/\i<t.hi)
def EJ (yv:Nat->Int) (y1 y2:Int) (L:List Nat):List Nat:=L.filter fun i=>decide (y1<=yv i/\yv i<=y2)
def below (yv:Nat->Int) (y:Int) (L:List Nat):Nat:=L.countP fun i=>decide (yv i<y)
def upto (yv:Nat->Int) (y:Int) (L:List Nat):Nat:=L.countP fun i=>decide (yv i<=y)
theorem sV (YS:List Nat) (l r:FT) (a:(FT.node l r).wf):nl YS l=(nl YS (.node l r)).filter fun i=>decide (i<l.hi):=by
 unfold nl;rw[rC];have d:=FT.eZ r a.2.1;have e:=a.2.2;refine mJ fun i _=>?_;have b:(FT.node l r).lo=l.lo:=rfl;have c:(FT.node l r).hi=r.hi:=rfl;rw[nH,b,c,oH,dH,dH,dH];exact⟨fun h=>⟨aa,aa⟩,fun h=>aa⟩
theorem oJ (YS:List Nat) (l r:FT) (a:(FT.node l r).wf):nl YS r=(nl YS (.node l r)).filter fun i=>!decide (i<l.hi):=by
 unfold nl;rw[rC];have d:=FT.eZ l a.1;have e:=a.2.2;refine mJ fun i _=>?_;have b:(FT.node l r).lo=l.lo:=rfl;have c:(FT.node l r).hi=r.hi:=rfl;rw[nH,b,c,oH,dH,dH,oG,gY];exact⟨fun h=>⟨aa,aa⟩,fun h=>aa⟩
theorem rX {p:Nat->Bool}:∀(L:List Nat),L.Pairwise (fun i k=>p k=true->p i=true)->L.take (L.countP p)=L.filter p
 |[],_=>rfl
 |i::L,h=>by
  rw[lX]at h;cases hp:p i with
  |true=>
   rw[Iy hp,pE,Iz hp,rX L h.2]
  |false=>
   have b:∀k∈L,p k=false:=fun k a=>by
    cases e:p k with
    |false=>rfl
    |true=>have:=h.1 k a e;rw[hp]at this;cases this
   have c:L.countP p=0:=En.2 fun k a=>by rw[b k a];decide
   have d:L.filter p=[]:=uG.2 fun k a=>by rw[b k a];decide
   rw[List.countP_cons_of_neg (by rw[hp];decide),c,Am (by rw[hp];decide),d];rfl
theorem IX {yv:Nat->Int} {L:List Nat} (a:L.Pairwise fun i k=>yv i<=yv k) (y:Int):L.take (below yv y L)=L.filter fun i=>decide (yv i<y):=
 rX L (a.imp fun h b=>by simp only[dH]at*;omega)
theorem Dt {yv:Nat->Int} {L:List Nat} (a:L.Pairwise fun i k=>yv i<=yv k) (y:Int):L.take (upto yv y L)=L.filter fun i=>decide (yv i<=y):=
 rX L (a.imp fun h b=>by simp only[dH]at*;omega)
theorem F5 {p:Nat->Bool} (L:List Nat) (h:L.Pairwise fun i k=>p k=true->p i=true):L.drop (L.countP p)=L.filter fun i=>!p i:=by
 induction L with
 |nil=>rfl
 |cons i L ih=>
  rw[lX]at h;cases hp:p i with
  |true=>
   rw[Iy hp,uL,Am (by rw[hp];decide),ih h.2]
  |false=>
   have a:∀k∈L,p k=false:=fun k hk=>by
    cases c:p k with
    |false=>rfl
    |true=>have:=h.1 k hk c;rw[hp]at this;cases this
   have b:L.countP p=0:=En.2 fun k hk=>by rw[a k hk];decide
   rw[List.countP_cons_of_neg (by rw[hp];decide),b,kD,lW.2];intro k hk;rcases ic.1 hk with rfl|hk
   .rw[hp];rfl
   .rw[a k hk];rfl
theorem Du {yv:Nat->Int} {L:List Nat} (a:L.Pairwise fun i k=>yv i<=yv k) (y1 y2:Int) (h:y1<=y2):(L.take (upto yv y2 L)).drop (below yv y1 L)=EJ yv y1 y2 L:=by
 rw[Dt a];have e:below yv y1 L=below yv y1 (L.filter fun i=>decide (yv i<=y2)):=by
  unfold below;rw[Az];refine AQ fun i _=>?_;simp only[oH,dH];omega
 rw[e];unfold below;rw[F5 _ ((a.filter _).imp fun h b=>by simp only[dH]at*;omega),rC];unfold EJ;refine mJ fun i _=>?_;simp only[<-decide_not,<-Bool.decide_and,mP];omega
theorem below_le {yv:Nat->Int} {L:List Nat} {y1 y2:Int} (h:y1<=y2):below yv y1 L<=upto yv y2 L:=by
 unfold below upto;exact List.countP_mono_left fun i _ a=>by simp only[dH]at*;omega
theorem wz {yv:Nat->Int} {L:List Nat} {y:Int}:upto yv y L<=L.length:=IC
theorem Dv {yv:Nat->Int} {L:List Nat} {y:Int}:below yv y L<=L.length:=IC
theorem Qy {yv:Nat->Int} {L:List Nat} (a:L.Pairwise fun i k=>yv i<=yv k) (y1 y2:Int) (h:y1<=y2):(EJ yv y1 y2 L).length+below yv y1 L=upto yv y2 L:=by
 rw[<-Du a y1 y2 h,mQ,eQ];have b:=below_le (yv:=yv) (L:=L) h;have c:=wz (yv:=yv) (L:=L) (y:=y2);omega
def lf (m:Nat) (L:List Nat):List Int:=(List.range (L.length+1)).map fun j=>(((L.take j).countP fun i=>decide (i<m):Nat):Int)
theorem rY (m:Nat) (L:List Nat):(lf m L).length=L.length+1:=by simp[lf]
theorem qg (m:Nat) (L:List Nat) (j:Nat) (h:j<(lf m L).length):(lf m L)[j]=(((L.take j).countP fun i=>decide (i<m):Nat):Int):=by simp[lf]
theorem EK {YS:List Nat} {yv:Nat->Int} (l r:FT) (a:(FT.node l r).wf) (b:YS.Pairwise fun i k=>yv i<=yv k) (y:Int):
  ((nl YS (.node l r)).take (below yv y (nl YS (.node l r)))).countP (fun i=>decide (i<l.hi))=below yv y (nl YS l)/\below yv y (nl YS l)+below yv y (nl YS r)=below yv y (nl YS (.node l r)):=by
 have c:(nl YS (.node l r)).Pairwise fun i k=>yv i<=yv k:=b.filter _;rw[IX c,sV YS l r a,oJ YS l r a];generalize nl YS (.node l r)=L;unfold below;constructor
 .rw[Az,Az];refine AQ fun i _=>?_;simp only[oH];exact And.comm
 .induction L with
  |nil=>rfl
  |cons i L ih=>
   simp only[l5,uT];by_cases h:i<l.hi<;>simp only[h,decide_true,decide_false,Bc,Bool.not_false,gG,jw,qV,uT]<;>omega
theorem F6 {YS:List Nat} {yv:Nat->Int} (l r:FT) (a:(FT.node l r).wf) (b:YS.Pairwise fun i k=>yv i<=yv k) (y:Int):
  ((nl YS (.node l r)).take (upto yv y (nl YS (.node l r)))).countP (fun i=>decide (i<l.hi))=upto yv y (nl YS l)/\upto yv y (nl YS l)+upto yv y (nl YS r)=upto yv y (nl YS (.node l r)):=by
 have c:(nl YS (.node l r)).Pairwise fun i k=>yv i<=yv k:=b.filter _;rw[Dt c,sV YS l r a,oJ YS l r a];generalize nl YS (.node l r)=L;unfold upto;constructor
 .rw[Az,Az];refine AQ fun i _=>?_;simp only[oH];exact And.comm
 .induction L with
  |nil=>rfl
  |cons i L ih=>
   simp only[l5,uT];by_cases h:i<l.hi<;>simp only[h,decide_true,decide_false,Bc,Bool.not_false,gG,jw,qV,uT]<;>omega
def down (YS:List Nat) (yv:Nat->Int) (y1 y2:Int) (fr tu:Nat):FT->List Nat×Nat
 |t@(.leaf _)=>if upto yv y2 (nl YS t)<=below yv y1 (nl YS t)\/t.hi<=fr\/tu<=t.lo then([],1)else(EJ yv y1 y2 (nl YS t),1)
 |t@(.node l r)=>if upto yv y2 (nl YS t)<=below yv y1 (nl YS t)\/t.hi<=fr\/tu<=t.lo then([],1)else if fr<=t.lo/\t.hi<=tu then(EJ yv y1 y2 (nl YS t),1)else((down YS yv y1 y2 fr tu l).1++(down YS yv y1 y2 fr tu r).1,1+(down YS yv y1 y2 fr tu l).2+(down YS yv y1 y2 fr tu r).2)
section
variable {YS:List Nat} {yv:Nat->Int} {y1 y2:Int} {fr tu:Nat}
theorem wB {t:FT} (h:upto yv y2 (nl YS t)<=below yv y1 (nl YS t)\/t.hi<=fr\/tu<=t.lo):down YS yv y1 y2 fr tu t=([],1):=by
 cases t<;>(rw[down,aO h])
theorem EL {t:FT} (h:¬(upto yv y2 (nl YS t)<=below yv y1 (nl YS t)\/t.hi<=fr\/tu<=t.lo)) (b:fr<=t.lo/\t.hi<=tu):down YS yv y1 y2 fr tu t=(EJ yv y1 y2 (nl YS t),1):=by
 cases t with
 |leaf a=>rw[down,aN h]
 |node l r=>rw[down,aN h,aO b]
theorem yx {l r:FT} (h:¬(upto yv y2 (nl YS (.node l r))<=below yv y1 (nl YS (.node l r))\/(FT.node l r).hi<=fr\/tu<=(FT.node l r).lo)) (a:¬(fr<=(FT.node l r).lo/\(FT.node l r).hi<=tu)):down YS yv y1 y2 fr tu (.node l r)=((down YS yv y1 y2 fr tu l).1++(down YS yv y1 y2 fr tu r).1,1+(down YS yv y1 y2 fr tu l).2+(down YS yv y1 y2 fr tu r).2):=by
 rw[down,aN h,aN a]
theorem Ls (t:FT) (e:t.wf) (s:Nat):(down YS yv y1 y2 fr tu t).2<=(t.canon s fr tu).2:=by
 induction t generalizing s with
 |leaf a=>
  rw[down,FT.canon];split<;>split<;>simp
 |node l r f g=>
  have d:1<=((FT.node l r).canon s fr tu).2:=by
   rw[FT.canon];split
   .exact aB _
   .split
    .exact aB _
    .exact Nat.le_add_left _ _
  by_cases b:upto yv y2 (nl YS (.node l r))<=below yv y1 (nl YS (.node l r))\/(FT.node l r).hi<=fr\/tu<=(FT.node l r).lo
  .rw[wB b];exact d
  .by_cases c:fr<=(FT.node l r).lo/\(FT.node l r).hi<=tu
   .rw[EL b c];exact d
   .rw[yx b c,FT.mV (fun h=>b (.inr h)) c];have i:=f e.1 s;have j:=g e.2.1 (s+l.size);show 1+_+_<=_+_+1;omega
theorem wC (t:FT) (o:t.wf) (q:YS.Pairwise fun i k=>yv i<=yv k) (s:y1<=y2) (i:Nat):i∈(down YS yv y1 y2 fr tu t).1↔i∈nl YS t/\fr<=i/\i<tu/\y1<=yv i/\yv i<=y2:=by
 have p:∀t:FT,upto yv y2 (nl YS t)<=below yv y1 (nl YS t)->∀i∈nl YS t,¬(y1<=yv i/\yv i<=y2):=fun t h i hi b=>by
  have f:=Qy (q.filter (fun i=>decide (t.lo<=i/\i<t.hi))) y1 y2 s;have d:(EJ yv y1 y2 (nl YS t)).length=0:=by unfold nl at h |-;omega
  have n:i∈EJ yv y1 y2 (nl YS t):=bG.2 ⟨hi,aQ b⟩;rw[gV d]at n;cases n
 have g:∀t:FT,∀i∈nl YS t,t.lo<=i/\i<t.hi:=fun t i hi=>by simpa using(bG.1 hi).2
 induction t with
 |leaf a=>
  by_cases e:upto yv y2 (nl YS (.leaf a))<=below yv y1 (nl YS (.leaf a))\/(FT.leaf a).hi<=fr\/tu<=(FT.leaf a).lo
  .rw[wB e];refine⟨fun h=>absurd h iC,fun⟨c,b,f,d⟩=>?_⟩;have n:=g _ i c;rcases e with h|h|h
   .exact absurd d (p _ h i c)
   .omega
   .omega
  .rw[down,aN e];show i∈EJ yv y1 y2 _↔_;unfold EJ;rw[bG,dH];refine⟨fun⟨c,b⟩=>⟨c,?_,?_,b⟩,fun⟨c,b,f,d⟩=>⟨c,d⟩⟩
   .have:=g _ i c;simp only[FT.lo,FT.hi]at this e;omega
   .have:=g _ i c;simp only[FT.lo,FT.hi]at this e;omega
 |node l r u v=>
  by_cases e:upto yv y2 (nl YS (.node l r))<=below yv y1 (nl YS (.node l r))\/(FT.node l r).hi<=fr\/tu<=(FT.node l r).lo
  .rw[wB e];refine⟨fun h=>absurd h iC,fun⟨c,b,f,d⟩=>?_⟩;have n:=g _ i c;rcases e with h|h|h
   .exact absurd d (p _ h i c)
   .omega
   .omega
  .by_cases c:fr<=(FT.node l r).lo/\(FT.node l r).hi<=tu
   .rw[EL e c];show i∈EJ yv y1 y2 _↔_;unfold EJ;rw[bG,dH];refine⟨fun⟨b,f⟩=>⟨b,?_,?_,f⟩,fun⟨b,_,_,d⟩=>⟨b,d⟩⟩
    .have:=g _ i b;omega
    .have:=g _ i b;omega
   .rw[yx e c];show i∈_++_↔_;have j:=u o.1;have m:=v o.2.1;rw[sV YS l r o,bG,dH]at j;rw[oJ YS l r o,bG,oG,gY]at m;constructor
    .intro h;rcases bP.1 h with h|h
     .exact⟨(j.1 h).1.1,(j.1 h).2⟩
     .exact⟨(m.1 h).1.1,(m.1 h).2⟩
    .rintro⟨b,f⟩;by_cases d:i<l.hi
     .exact bP.2 (.inl (j.2 ⟨⟨b,d⟩,f⟩))
     .exact bP.2 (.inr (m.2 ⟨⟨b,d⟩,f⟩))
theorem Bh (t:FT) (b:t.wf) (d:YS.Nodup) (f:YS.Pairwise fun i k=>yv i<=yv k) (g:y1<=y2):(down YS yv y1 y2 fr tu t).1.Nodup:=by
 have c:∀(L:List Nat) (p:Nat->Bool),L.Nodup->(L.filter p).Nodup:=fun L p h=>lV _ h
 induction t with
 |leaf a=>
  rw[down];split
  .exact pR
  .exact c _ _ (c _ _ d)
 |node l r o q=>
  rw[down];split
  .exact pR
  .split
   .exact c _ _ (c _ _ d)
   .refine pI.2 ⟨o b.1,q b.2.1,fun i hi k n e=>?_⟩;subst e;have j:=((wC l b.1 f g i).1 hi).1;have m:=((wC r b.2.1 f g i).1 n).1;have s:l.lo<=i/\i<l.hi:=by simpa using(bG.1 j).2
    have u:r.lo<=i/\i<r.hi:=by simpa using(bG.1 m).2
    have:=b.2.2;omega
end
end
section
abbrev Pt:=Int×Int×Int
def kG (p q:Pt):Prop:=p.1<q.1\/p.1=q.1/\p.2.2<q.2.2
def sW (p q:Pt):Prop:=p.2.1<q.2.1\/p.2.1=q.2.1/\p.2.2<q.2.2
def Bi (q p:Pt):Bool:=decide (p.1<=q.1)&&decide (p.2.1<=q.2.1)&&(decide (q.1≠p.1)||decide (q.2.1≠p.2.1))
def uo (l:List Pt) (p:Pt):Bool:=l.any fun q=>Bi q p
instance:DecidableRel kG:=fun p q=>by unfold kG;exact inferInstance
instance:DecidableRel sW:=fun p q=>by unfold sW;exact inferInstance
theorem wD (q p:Pt):Bi q p=true↔p.1<=q.1/\p.2.1<=q.2.1/\(q.1≠p.1\/q.2.1≠p.2.1):=by
 simp[Bi,and_assoc]
theorem qh (q p:Pt):Bi q p=false↔¬(p.1<=q.1/\p.2.1<=q.2.1/\(q.1≠p.1\/q.2.1≠p.2.1)):=by
 rw[<-wD];simp
theorem qi (l:List Pt) (p:Pt):uo l p=true↔∃q∈l,Bi q p=true:=by simp[uo]
theorem qj (l:List Pt) (p:Pt):uo l p=false↔∀q∈l,Bi q p=false:=by simp[uo]
theorem oK {p q r:Pt} (h:kG p q) (a:kG q r):kG p r:=by unfold kG at*;omega
theorem sZ (p:Pt):¬kG p p:=by unfold kG;omega
theorem Dw {p q:Pt} (h:kG p q) (a:kG q p):False:=by unfold kG at*;omega
theorem tq {p q r:Pt} (h:sW p q) (a:sW q r):sW p r:=by unfold sW at*;omega
theorem wE (p:Pt):¬sW p p:=by unfold sW;omega
theorem Dx {p q:Pt} (h:sW p q) (a:sW q p):False:=by unfold sW at*;omega
theorem tC {p q r:Pt} (h:Bi p q=true) (a:Bi q r=true):Bi p r=true:=by
 rw[wD]at*;omega
theorem Kk (p:Pt):Bi p p=false:=by rw[qh];omega
theorem lM {α:Type} {R:α->α->Prop} (c:∀p,¬R p p) {l:List α} (h:l.Pairwise R):l.Nodup:=by
 show l.Pairwise (·≠·);exact h.imp fun{a b} d e=>by subst e;exact c a d
theorem ql {α:Type} {R:α->α->Prop} (e:∀p,¬R p p) (has:∀{p q},R p q->R q p->False) {a b:List α} (c:a.Pairwise R) (d:b.Pairwise R) (h:∀p,p∈a↔p∈b):a=b:=by
 have hp:a.Perm b:=(zn (lM e c) (lM e d)).2 h;exact Iu (fun _ _ _ _ f g=>(has f g).elim) c d hp
theorem Lt {α:Type} {p q:α->Bool} {l:List α} (h:∀x∈l,p x=true->q x=true) {y:α} (hy:y∈l) (b:q y=true) (c:p y=false):l.countP p<l.countP q:=by
 induction l with
 |nil=>cases hy
 |cons x l ih=>
  have f:l.countP p<=l.countP q:=List.countP_mono_left fun z a=>h z (by simp[a]);rw[uT,uT];rcases ic.1 hy with rfl|hy
  .simp[b,c];omega
  .have:=ih (fun z a=>h z (by simp[a])) hy;have e:=h x aA;cases d:p x
   .simp;split<;>omega
   .simp[e d];omega
theorem F7 (S:List Pt):∀(n:Nat) (q:Pt),q∈S->S.countP (fun r=>Bi r q)<=n->∃t∈S,(t=q\/Bi t q=true)/\uo S t=false
 |0,q,c,h=>by
  refine⟨q,c,.inl rfl,?_⟩;rw[qj];intro r b;have d:S.countP (fun r=>Bi r q)=0:=aa;rw[En]at d;simpa using d r b
 |n+1,q,c,h=>by
  cases e:uo S q
  .exact⟨q,c,.inl rfl,e⟩
  .obtain⟨r,b,a⟩:=(qi S q).1 e;have i:S.countP (fun s=>Bi s r)<S.countP (fun s=>Bi s q):=
    Lt (fun s _ g=>tC g a) b a (Kk r)
   have⟨t,ht,h1,f⟩:=F7 S n r b aa;refine⟨t,ht,.inr ?_,f⟩;rcases h1 with rfl|h1
   .exact a
   .exact tC h1 a
theorem SE (S:List Pt) (q:Pt) (a:q∈S):∃t∈S,(t=q\/Bi t q=true)/\uo S t=false:=F7 S _ q a (aB _)
def F8 (S:List Pt):List Pt:=S.filter fun p=>!uo S p
theorem Qz (S:List Pt) (p:Pt):p∈F8 S↔p∈S/\uo S p=false:=by simp[F8]
theorem IY {S:List Pt} (h:S.Pairwise kG):(F8 S).Pairwise kG:=h.sublist Eo
def nK (l T:List Pt):Prop:=T.Pairwise kG/\∀p,p∈T↔p∈l/\uo l p=false
theorem nK.unique {l A B:List Pt} (a:nK l A) (b:nK l B):A=B:=
 ql sZ Dw a.1 b.1 fun p=>by rw[a.2,b.2]
theorem Dy {l m:List Pt} (h:∀p,p∈l↔p∈m) (p:Pt):uo l p=uo m p:=by
 rw[nH,qi,qi];constructor
 .rintro⟨q,b,a⟩;exact⟨q,(h q).1 b,a⟩
 .rintro⟨q,b,a⟩;exact⟨q,(h q).2 b,a⟩
theorem nK.congr {l m T:List Pt} (h:∀p,p∈l↔p∈m) (a:nK l T):nK m T:=
 ⟨a.1,fun p=>by rw[a.2,h,Dy h]⟩
theorem Dz {S:List Pt} (h:S.Pairwise kG):nK S (F8 S):=⟨IY h,Qz S⟩
theorem wF {l T:List Pt} (c:nK l T) (p:Pt):uo T p=uo l p:=by
 rw[nH,qi,qi];constructor
 .rintro⟨q,b,a⟩;exact⟨q,((c.2 q).1 b).1,a⟩
 .rintro⟨q,b,a⟩;have⟨t,ht,h1,d⟩:=SE l q b;refine⟨t,(c.2 t).2 ⟨ht,d⟩,?_⟩;rcases h1 with rfl|h1
  .exact a
  .exact tC h1 a
def stp (p:Pt):List Pt->List Pt
 |[]=>[p]
 |t::T=>if p.2.1<t.2.1\/p.2.1=t.2.1/\p.1<t.1 then t::T else if p.1=t.1/\t.2.1<p.2.1 then p::(t::T).dropWhile (fun q=>decide (q.1=p.1))else p::t::T
def rZ (S:List Pt):List Pt:=S.foldr stp []
theorem mW (c:Int):∀(T:List Pt),T.Pairwise (fun p q=>p.1<=q.1)->(∀q∈T,c<=q.1)->T.dropWhile (fun q=>decide (q.1=c))=T.filter fun q=>decide (q.1≠c)
 |[],_,_=>rfl
 |t::T,h,b=>by
  rw[lX]at h;by_cases e:t.1=c
  .rw[List.dropWhile_cons_of_pos (by simp[e]),Am (by simp[e])];exact mW c T h.2 fun q a=>b q (by simp[a])
  .rw[List.dropWhile_cons_of_neg (by simp[e]),Iz (by simp[e])];congr 1;rw[lW.2];intro q a;have d:=h.1 q a;have f:=b t aA;simp;omega
theorem DC (S:List Pt) (h:S.Pairwise kG):rZ S=F8 S:=by
 induction S with
 |nil=>rfl
 |cons p S ih=>
  rw[lX]at h;have⟨hp,hS⟩:=h;have d:=Dz hS;show stp p (rZ S)=F8 (p::S);rw[ih hS];generalize A:F8 S=T at*;have y:∀q∈S,p.1<=q.1:=fun q c=>by have:=hp q c;unfold kG at this;omega
  have v:∀q,uo (p::S) q=(Bi p q||uo S q):=fun q=>rfl;have F:uo (p::S) p=uo S p:=by rw[v,Kk];rfl
  have C:F8 (p::S)=(if uo S p=true then[]else[p])++T.filter fun q=>!Bi p q:=by
   rw[<-A];unfold F8;rw[l5,F,rC];have e:(fun q=>!uo (p::S) q)=fun q=>(!Bi p q&&!uo S q):=by
    funext q;rw[v,Bool.not_or]
   rw[e];cases uo S p<;>simp
  rw[C];cases T with
  |nil=>
   have z:uo S p=false:=by
    rw[<-wF d];rfl
   simp[stp,z]
  |cons t T=>
   have s:=d.1;have o:=((d.2 t).1 aA).1;have x:=((d.2 t).1 aA).2;have I:=y t o;have k:∀q∈t::T,t.1<=q.1/\q.2.1<=t.2.1:=by
    intro q c;rcases ic.1 c with rfl|hq'
    .exact⟨vC _,vC _⟩
    .have D:=(lX.1 s).1 q hq';have m:=(qj _ _).1 x q ((d.2 q).1 c).1;rw[qh]at m;unfold kG at D;have n:=(qj _ _).1 ((d.2 q).1 c).2 t o;rw[qh]at n;omega
   have u:uo S p=true↔(p.2.1<t.2.1\/p.2.1=t.2.1/\p.1<t.1):=by
    rw[<-wF d,qi];constructor
    .rintro⟨q,c,f⟩;have l:=k q c;rw[wD]at f;by_cases e:p.2.1=t.2.1/\p.1=t.1
     .have m:=(qj _ _).1 x q ((d.2 q).1 c).1;rw[qh]at m;omega
     .omega
    .intro l;exact⟨t,aA,by rw[wD];omega⟩
   by_cases g:p.2.1<t.2.1\/p.2.1=t.2.1/\p.1<t.1
   .have j:uo S p=true:=u.2 g;rw[aO j,fP];have i:stp p (t::T)=t::T:=by simp only[stp];rw[aO g]
    rw[i,lW.2];intro q c;have G:=((d.2 q).1 c).2;cases E:Bi p q
    .rfl
    .obtain⟨r,H,f⟩:=(qi S p).1 j;have:=(qj _ _).1 G r H;rw[tC f E]at this;cases this
   .have j:¬uo S p=true:=fun h=>g (u.1 h);rw[aN j,Ej];by_cases w:p.1=t.1/\t.2.1<p.2.1
    .have i:stp p (t::T)=p::(t::T).dropWhile (fun q=>decide (q.1=p.1)):=by simp only[stp];rw[aN g,aO w]
     rw[i,mW p.1 (t::T) (s.imp fun{a b} B=>by unfold kG at B;omega) (fun q c=>by have:=k q c;omega)];congr 1;refine mJ fun q c=>?_;have l:=k q c;by_cases e:q.1=p.1
     .have f:Bi p q=true:=by rw[wD];omega
      simp[e,f]
     .have f:Bi p q=false:=by rw[qh];have:=y q ((d.2 q).1 c).1;omega
      simp[e,f]
    .have i:stp p (t::T)=p::t::T:=by simp only[stp];rw[aN g,aN w]
     rw[i,lW.2];intro q c;have l:=k q c;have n:=(qj _ _).1 ((d.2 q).1 c).2 t o;rw[qh]at n;have f:Bi p q=false:=by rw[qh];omega
     simp[f]
def CW (p q:Pt):Prop:=p.1=q.1/\p.2.1=q.2.1/\p.2.2<q.2.2\/p.1<q.1/\q.2.1<p.2.1
instance:DecidableRel CW:=fun p q=>by unfold CW;exact inferInstance
theorem Lu {p q r:Pt} (h:CW p q) (a:CW q r):CW p r:=by unfold CW at*;omega
theorem oL {α:Type} {R:α->α->Prop} (ht:∀a b c,R a b->R b c->R a c):∀l:List α,(∀i (h:i+1<l.length),R l[i] l[i+1])->l.Pairwise R
 |[],_=>.nil
 |[x],_=>List.pairwise_singleton _ _
 |x::y::l,h=>by
  have ih:=oL ht (y::l) fun i hi=>by
   have:=h (i+1) (aQ hi);simpa using this
  rw[lX];refine⟨fun z hz=>?_,ih⟩;have d:R x y:=by simpa using h 0 aA
  rcases ic.1 hz with rfl|hz
  .exact d
  .exact ht _ _ _ d ((lX.1 ih).1 z hz)
theorem eD {α:Type} {R:α->α->Prop} {l:List α} (h:l.Pairwise R) {p q:α} (hp:p∈l) (b:q∈l):p=q\/R p q\/R q p:=by
 obtain⟨i,hi,rfl⟩:=jk hp;obtain⟨j,a,rfl⟩:=jk b;rcases Nat.lt_trichotomy i j with h1|h1|h1
 .exact .inr (.inl (gU.1 h i j hi a h1))
 .subst h1;exact .inl rfl
 .exact .inr (.inr (gU.1 h j i a hi h1))
def qm (l:List Pt):Bool:=decide (∀i,i<l.length-1->CW (l.getD i (0,0,0)) (l.getD (i+1) (0,0,0)))
theorem nL (l:List Pt):qm l=true↔∀i (h:i+1<l.length),CW l[i] l[i+1]:=by
 unfold qm;rw[decide_eq_true_iff];constructor
 .intro h i hi;have:=h i aa;simpa[hi,show i<l.length by omega]using this
 .intro h i hi;have:=h i aa;simpa[show i+1<l.length by omega,show i<l.length by omega]using this
theorem oM {l:List Pt} (h:qm l=true):l.Pairwise CW:=oL (R:=CW) (fun _ _ _=>Lu) l ((nL l).1 h)
theorem F9 (l:List Pt):qm l=true↔nK l l:=by
 constructor
 .intro h;have hp:=oM h;refine⟨hp.imp fun{a b} f=>by unfold CW at f;unfold kG;omega,fun p=>⟨fun c=>⟨c,?_⟩,fun h=>h.1⟩⟩;rw[qj];intro q g;rw[qh];rcases eD hp c g with rfl|h1|h1
  .omega
  .unfold CW at h1;omega
  .unfold CW at h1;omega
 .intro h;rw[nL];intro i hi;have h1:=gU.1 h.1 i (i+1) aa hi aa;have d:=(qj _ _).1 ((h.2 l[i]).1 (bF _)).2 l[i+1] (bF _);have e:=(qj _ _).1 ((h.2 l[i+1]).1 (bF _)).2 l[i] (bF _);rw[qh]at d e;unfold kG at h1;unfold CW;omega
def ids (l:List Pt):List Int:=l.map fun p=>p.2.2
def lF (l:List Pt):Bool:=decide (ids l).Nodup
def SF (p q:Pt):Bool:=!decide (kG q p)
def eX (l:List Pt):List Pt:=l.mergeSort SF
theorem dQ (l:List Pt):(eX l).Perm l:=ru l SF
theorem wG (l:List Pt) (p:Pt):p∈eX l↔p∈l:=(dQ l).mem_iff
theorem QA {l:List Pt} (h:(ids l).Nodup) {p q:Pt} (hp:p∈l) (b:q∈l) (e:p.2.2=q.2.2):p=q:=by
 have a:l.Pairwise fun p q=>p.2.2≠q.2.2:=dx.1 h;rcases eD a hp b with h1|h1|h1
 .exact h1
 .exact absurd e h1
 .exact absurd e.symm h1
theorem fT {l:List Pt} (h:(ids l).Nodup):(eX l).Pairwise kG:=by
 have d:(eX l).Pairwise fun p q=>SF p q=true:=ry (le:=SF) (fun p q r j k=>by simp only[SF,oG,gY]at*;unfold kG at*;omega) (fun p q=>by simp only[SF,uW,oG,gY];unfold kG;omega) l;have c:(ids (eX l)).Nodup:=((dQ l).map _).nodup_iff.2 h;have e:(eX l).Pairwise fun p q=>p.2.2≠q.2.2:=by
  unfold ids at c;exact dx.1 c
 refine(d.and e).imp fun{a b} g=>?_;have⟨f,i⟩:=g;simp only[SF,oG,gY]at f;unfold kG at*;omega
def bN (l:List Pt):List Pt:=F8 (eX l)
theorem kZ {l:List Pt} (h:(ids l).Nodup):nK l (bN l):=(Dz (fT h)).congr (wG l)
theorem Kl {l S:List Pt} (h:(ids l).Nodup) (hS:S.Pairwise kG) (a:∀p,p∈S↔p∈l):S=eX l:=
 ql sZ Dw hS (fT h) fun p=>by rw[a,wG]
def bsrch (p:Nat->Bool):Nat->Nat->Nat->Nat->Nat×Nat
 |0,lo,_,k=>(lo,k)
 |f+1,lo,hi,k=>if lo<hi then(if p (lo+(hi-lo)/2)then bsrch p f lo (lo+(hi-lo)/2) (k+1)else bsrch p f (lo+(hi-lo)/2+1) hi (k+1))else(lo,k)
theorem IZ (p:Nat->Bool):∀(f g lo hi k:Nat),hi-lo<=f->hi-lo<=g->bsrch p f lo hi k=bsrch p g lo hi k:=by
 intro f
 induction f with
 |zero=>intro g lo hi k a b;cases g with
  |zero=>rfl
  |succ g=>simp[bsrch,show¬lo<hi by omega]
 |succ f ih=>intro g lo hi k a b;cases g with
  |zero=>simp[bsrch,show¬lo<hi by omega]
  |succ g=>
   simp only[bsrch];by_cases h:lo<hi
   .rw[aO h,aO h];rw[ih g _ _ _ aa aa,ih g _ _ _ aa aa]
   .rw[aN h,aN h]
theorem EM (p:Nat->Bool):∀(f lo hi k:Nat),hi-lo<=f->(bsrch p f lo hi k).2<=k+(hi-lo)/\(lo<=hi->lo<=(bsrch p f lo hi k).1/\(bsrch p f lo hi k).1<=hi):=by
 intro f
 induction f with
 |zero=>intro lo hi k a;simp[bsrch]
 |succ f ih=>
  intro lo hi k a;simp only[bsrch];by_cases h:lo<hi
  .rw[aO h];split
   .have:=ih lo (lo+(hi-lo)/2) (k+1) aa;omega
   .have:=ih (lo+(hi-lo)/2+1) hi (k+1) aa;omega
  .rw[aN h];simp
def aV (l:List Int) (x:Int):Nat×Nat:=bsrch (fun i=>decide (x<=l.getD i 0)) l.length 0 l.length 0
def aT (l:List Int) (x:Int):Nat×Nat:=bsrch (fun i=>decide (x<l.getD i 0)) l.length 0 l.length 0
end
section
open Go
abbrev bS (R:List Pt) (i:Nat):Pt:=R.getD i (0,0,0)
def jJ (R:List Pt) (i:Nat):Int:=(bS R i).2.2
def lG (R:List Pt) (i:Nat):Int:=(bS R i).2.1
theorem yz {l:List Nat} {n:Nat} (h:l.Nodup) (c:∀k∈l,k<n):l.length<=n:=by
 induction n generalizing l with
 |zero=>
  cases l with
  |nil=>exact aB _
  |cons x l=>exact absurd (c x nV) (kC _)
 |succ n ih=>
  have f:=ih (l:=l.erase n) (h.erase n) fun k e=>by
   have b:=(List.Nodup.mem_erase_iff h).1 e;have d:=c k b.2;have g:=b.1;omega
  have b:=List.length_erase_le (a:=n) (l:=l);have d:l.length<=(l.erase n).length+1:=by
   rw[List.length_erase];split<;>omega
  omega
structure cB (R:List Pt) (gone:List Bool) (YS:List Nat):Prop where
 Bj:R.Pairwise kG
 ids:(ids R).Nodup
 Uv:gone.length=R.length
 nodup:YS.Nodup
 live:∀i,i∈YS↔gone[i]? =some false
 Uk:YS.Pairwise fun i k=>sW (bS R i) (bS R k)
theorem cB.lt {R:List Pt} {gone:List Bool} {YS:List Nat} (h:cB R gone YS) {i:Nat} (hi:i∈YS):i<R.length:=by
 have:=(fq.1 ((h.live i).1 hi)).1;have:=h.Uv;omega
theorem cB.le {R:List Pt} {gone:List Bool} {YS:List Nat} (h:cB R gone YS):YS.Pairwise fun i k=>lG R i<=lG R k:=
 h.Uk.imp fun h=>by unfold sW at h;unfold lG;omega
theorem cB.len {R:List Pt} {gone:List Bool} {YS:List Nat} (h:cB R gone YS):YS.length<=R.length:=by
 exact yz h.nodup fun k a=>h.lt a
theorem cB.top {R:List Pt} {gone:List Bool} {YS:List Nat} (h:cB R gone YS) (c:0<R.length):nl YS (dP 0 R.length)=YS:=by
 obtain⟨-,a,b⟩:=bJ 0 R.length c;unfold nl;refine lW.2 fun i hi=>?_;have:=h.lt hi;rw[a,b];simp;omega
def bT (R:List Pt):List Int:=R.map fun p=>p.1
def jo (R:List Pt) (YS:List Nat):List Int:=YS.map (lG R)
def lN (R:List Pt) (YS:List Nat) (x1 x2 y1 y2:Int):List Nat×Nat:=
 if R=[]\/x2<x1\/y2<y1 then([],0)else
  ((down YS (lG R) y1 y2 (aV (bT R) x1).1 (aT (bT R) x2).1 (dP 0 R.length)).1,
   (aV (bT R) x1).2+(aT (bT R) x2).2+(aV (jo R YS) y1).2+(aT (jo R YS) y2).2+(down YS (lG R) y1 y2 (aV (bT R) x1).1 (aT (bT R) x2).1 (dP 0 R.length)).2)
end
section
open Go.RowKit Go.Shelf
attribute [local go_sem] Oper.semAt_some
def NJ (Bn:Nat) (W W':World):Prop:=∀o,W'.cell? (ag Bn o)=W.cell? (ag Bn o)
theorem NJ.trans {a:Nat} {A B C:World} (h:NJ a A B) (b:NJ a B C):NJ a A C:=fun o=>(b o).trans (h o)
theorem Ga {α:Type} (enc:α->Int) (L R:α) (F:Fence) (n:Nat) (hF:F.fn 364) (t:F.round=none) (K:1<=n) (a:Nat) (w:World) (b:a<w.heap.size) (j:w.cell? (ag a 1)=some (ae (enc L))) (k:w.cell? (ag a 2)=some (ae (enc R))) (I:(enc L !=-1)=true) (J:(enc R !=-1)=true):
  SeqStopsK F n prog 364 #[aj a] (fun v:α=>#[ae (enc v)]) (NJ a) (fun xs=>xs=[L,R]) (fun f=>f=[L]\/f=[L,R]) 2 w:=fun l z A W c _ _ d i=>by
 have H:W.cell? (ag a 1)=some (ae (enc L)):=(c.cell (p:=(ag a 1)) b).trans j;have h:W.cell? (ag a 2)=some (ae (enc R)):=(c.cell (p:=(ag a 2)) b).trans k;refine callsIn_of_wp func364 rfl hF ?_ t;simp only[ntmps364,List.size_toArray,List.length_cons,List.length_nil,Nat.reduceAdd,Nat.reduceSub,Array.replicate_succ,Array.replicate_zero,List.push_toArray,List.append_toArray,List.nil_append,List.cons_append];have⟨f1,t1,C,E,y,q⟩:=d [] L W i aA;dsimp only at y
 gi_wp2
 refine q.mono ?_;rintro e g (⟨rfl,m,s⟩|⟨rfl,u⟩)
 .have d2:=(s 2).trans h;have⟨f2,t2,D,G,M,r⟩:=d [L] R g m aA
  gi_wp2
  refine r.mono ?_;rintro e B (⟨rfl,o,_⟩|⟨rfl,x⟩)
  .gi_wp2
   go_end0
   exact⟨⟨_,rfl⟩,.inl ⟨[L,R],rfl,o⟩⟩
  .gi_wp2
   go_end0
   exact⟨⟨_,rfl⟩,.inr ⟨[L,R],.inr rfl,x⟩⟩
 .gi_wp2
  refine jM (kK rfl _ _ _) rfl ?_;exact⟨⟨_,rfl⟩,.inr ⟨[L],.inl rfl,u⟩⟩
theorem Km {α:Type} (enc:α->Int) (F:Fence) (n:Nat) (hF:F.fn 364) (g:F.round=none) (q:1<=n) (a:Nat) (w:World) (b:a<w.heap.size) (e:w.cell? (ag a 1)=some (ae (-1))) (f:w.cell? (ag a 2)=some (ae (-1))):
  SeqStopsK F n prog 364 #[aj a] (fun v:α=>#[ae (enc v)]) (NJ a) (fun xs=>xs=[]) (fun r=>False) 0 w:=fun l i j W c _ _ o d=>by
 have k:W.cell? (ag a 1)=some (ae (-1)):=(c.cell (p:=(ag a 1)) b).trans e;have m:W.cell? (ag a 2)=some (ae (-1)):=(c.cell (p:=(ag a 2)) b).trans f;refine Bd func364 rfl hF ?_ g;simp only[ntmps364,lI,ed,fF,Nat.reduceAdd,Nat.reduceSub,qP,qQ,lJ,qU,fP,mK]
 gi_wp2
 refine⟨fun _ h=>(by cases h),?_⟩
 gi_wp2
 go_end0
 exact⟨⟨_,rfl⟩,.inl ⟨[],rfl,d⟩⟩
def oN (d:Nd):List Value:=[.int .u8 d.kind,.int .i64 d.l,.int .i64 d.r,.int .i64 d.fr,.int .i64 d.Kj,.int .i64 0,.int .i64 d.item]
abbrev Bl (k l r f t i:Int):Value:=.agg #[.int .u8 k,ae l,ae r,ae f,ae t,ae 0,ae i]
theorem jr (d:Nd):(oN d).length=7:=rfl
theorem Kn (d:Nd):∀u∈oN d,u.oneCell'=true:=by intro u hu;simp[oN]at hu;rcases hu with rfl|rfl|rfl|rfl|rfl|rfl|rfl<;>rfl
theorem SG:eH prog 141 163 7 56:=.mk' (z:=.agg #[.int .u8 0,ae 0,ae 0,ae 0,ae 0,ae 0,ae 0]) underlying141 aM rfl ai
abbrev lg (k l r f t i:Int):Obj:=.cells #[.int .u8 k,ae l,ae r,ae f,ae t,ae 0,ae i] 163
theorem zY (F:Fence) (n:Nat) (hF:F.fn 343) (a:F.round=none) (k l r f t i:Int) (w:World):
  CallsIn F n prog 343 #[Bl k l r f t i] w fun e w'=>e=.returned (.func (.func 364) #[] #[aj w.heap.size])/\w'=w.alloc (lg k l r f t i):=by
 refine Bd func343 rfl hF ?_ a;simp only[ntmps343,lI,ed,fF,Nat.reduceAdd,Nat.reduceSub,qP,qQ,lJ,qU,fP,mK]
 gi_wp2
 go_ret;exact⟨rfl,rfl⟩
def marked {m:Nat} (kid:List Bool) (xs:List {q:Nat // q<m}):List Bool:=xs.foldl (fun l x=>l.set x.1 true) kid
theorem I1 {m:Nat} (a:List Bool) (xs:List {q:Nat // q<m}):(marked a xs).length=a.length:=by
 unfold marked
 induction xs generalizing a with
 |nil=>rfl
 |cons x xs ih=>rw[A7,ih,kJ]
theorem Gb {m:Nat} (a:List Bool) (xs:List {q:Nat // q<m}) (x:{q:Nat // q<m}):marked a (xs++[x])=(marked a xs).set x.1 true:=by unfold marked;rw[List.foldl_append];rfl
theorem zZ {a B:Nat} (h:a<B) (W:World) (l:Nat) (o b:Obj) (d:B<=l):NJ a W (W.putObj l b):=fun q=>dC (World.putObj_heap_other (fun e=>by have c:a=l:=(by first|exact e|exact e.symm);omega))
def SH (w0:World) (bx g:Nat) (kv:Value) (m base:Nat) (kid:List Bool) (pre:List {q:Nat // q<m}) (W:World):Prop:=
 W.heap[bx]? =some (.cells #[kv] 95 (0,0))/\W.ownsRow base 4 1 kv m ((marked kid pre).map Value.bool)/\ay (fun k=>k=g) w0 W
theorem NK {w0:World} {B bx g m base:Nat} {u:Value} {r:List Bool} (n:w0.heap.size<=B):OwnFrom B (SH w0 bx g u m base r):=by
 rintro s W W' z ⟨c,d,l⟩ h j;have i:∀(b:Nat) cs t fr,W.heap[b]? =some (.cells cs t fr)->W'.heap[b]? =W.heap[b]? :=fun b cs t fr f=>h.block b (aZ.1 f).1 fun e=>by
  obtain⟨-,o,a,p⟩:=j b e.symm;rw[f]at a;injection a with a;subst a;cases p
 refine⟨(i _ _ _ _ c).trans c,aX d fun y e=>?_,l.grown h fun k e=>.inr (bB n (j k e).1)⟩;rcases d.2 with⟨rfl,_⟩|⟨x,v,w,rfl,_,q,_⟩
 .cases e
 .simp only[Value.ownBlock,jl]at e;subst e;exact i _ _ _ _ q
theorem Gc (W:World) (v:Value) (t:TypeId):∀j u,[v][j]? =some u->(W.alloc (.cells #[v] t)).cell? (((ag W.heap.size 0):Addr).add j)=some u:=by
 intro j u hu;have a:((ag W.heap.size 0):Addr).add j=(ag W.heap.size j):=by unfold Addr.add;split<;>simp_all
 rw[a,eB _ _ _ _ (by rfl)];simpa using hu
def NL (w:World) (base m:Nat) (kv:Value) (kid:List Bool) (e:Ending) (w':World):Prop:=
 ∃v',e=.returned v'/\w'.ownsRow base 4 1 v' (m+1) ((kid++[false]).map Value.bool)/\(v'.ownBlock=kv.ownBlock\/∃b,v'.ownBlock=some b/\w.heap.size<=b)/\ay (fun k=>kv.ownBlock=some k) w w'
theorem I4 (F:Fence) (n:Nat) (hF:F.fn 320) (X:F.fn 343) (I:F.fn 364) (y:F.round=none) (aR:3<=n) (k f t r:Int) (i j:Nat) (g m a base:Nat) (b:List Bool) (w:World) (am:b.length=m) (aP:m<=100000) (hi:i<m) (al:j<m)
  (M:w.ownsRow base 4 1 (az g m a) m (b.map Value.bool)) (aN:base<=w.heap.size):
  CallsIn F n prog 320 #[Bl k i j f t r,az g m a] w (NL w base m (az g m a) ((b.set i true).set j true)):=by
 have U:1<=n:=aa;have R:=af M;have aO:g<w.heap.size:=(M.lt g rfl).2;refine Ar func320 rfl hF ?_ y;simp only[ntmps320,lI,ed,fF,Nat.reduceAdd,Nat.reduceSub,qP,qQ,lJ,qU,fP,mK]
 gi_wp2_with (gi_at_call 343;refine(zY F (n-1) X y _ _ _ _ _ _ _).mono ?_;rintro e w' ⟨rfl,rfl⟩)
 obtain⟨wk,d⟩:∃wk,wk=((w.alloc (lg k i j f t r)).alloc (.cells #[az g m a] 95)).alloc (lg k i j f t r):=⟨_,rfl⟩;have H:Below w.heap.size w wk:=by rw[d];exact(((aJ _ w).alloc (aB _) _).alloc aA _).alloc aG _
 have aU:wk.heap.size=w.heap.size+3:=by rw[d];simp
 have ac:wk.heap[w.heap.size+1]? =some (.cells #[az g m a] 95 (0,0)):=by
  rw[d];exact(bR _ _ _ aA).trans (CV w _ _)
 have ao:wk.cell? (ag (w.heap.size+1+1) 1)=some (ae i):=by
  rw[d,eB _ _ _ _ aA];rfl
 have ap:wk.cell? (ag (w.heap.size+1+1) 2)=some (ae j):=by
  rw[d,eB _ _ _ _ aA];rfl
 rw[<-d];have Y:SH w (w.heap.size+1) g (az g m a) m base b [] wk:=⟨ac,ak R.o H,(ay.refl _ w).below H⟩;have Q:=af Y;refine Ep y U (gf:=364) (lb:=#[aj (w.heap.size+1+1)]) rfl I (bY func364 aM rfl)
  (Ga (α:={q:Nat // q<m}) (fun x=>(x.1:Int)) ⟨i,hi⟩ ⟨j,al⟩ F (n-1) I y aa (w.heap.size+1+1) wk aa ao ap aA aA) NJ.trans (fun W l o aD an _ _ _=>zZ (B:=wk.heap.size) aa W l o aD an) (aJ _ _) (fun _=>rfl)
  (fun s W=>SH w (w.heap.size+1) g (az g m a) m base b s W)
  (fun _ _ _=>False)
  (NK aa)
  (fun _ _ _ _ _ N _ _=>N)
  Q.o
  (fun x=>{tmps:=#[Bl k i j f t r,az g m a,aj w.heap.size,aj (w.heap.size+1),aL,ae x.1,Bl k i j f t r,.func (.func 364) #[] #[aj (w.heap.size+1+1)],ae x.1,undef,undef,undef,undef,undef,undef],defers:=[]}) ?assign ?body ?done ?stop
 case assign=>
  intro l x W K C
  gi_wp2
  exact C
 case body=>
  rintro l s ⟨q,aS⟩ W ⟨u,p,v⟩ _;have ad:W.cell? (ag (w.heap.size+1) 0)=some (az g m a):=aF u;have aQ:(marked b s).length=m:=by rw[I1];exact am
  have z:=p.cellAt q aa;obtain⟨G,ab⟩:∃G,(marked b s)[q]? =some G:=⟨_,bZ aa⟩;rw[iB,ab]at z;simp only[fQ]at z;have aI:=p.frozenAt q;have aT:(q:Int)<(m:Int):=aa;have O:=(p.stored q (.bool true)).1;rw[<-kL]at O;have P:=af u;have T:=af O;have A:=af v
  gi_wp2
  refine⟨xQ _ _ _,fun o=>dC (aC aG),(aC aG).trans P.o,?_,A.o.set _ (.inl rfl)⟩;rw[Gb];exact T.o
 case done=>
  rintro D aV W aK rfl ⟨u,p,v⟩ C;have ad:W.cell? (ag (w.heap.size+1) 0)=some (az g m a):=aF u;have⟨ax,aH,ah,ar,au,av,aw⟩:=yw.R5;have N:=v.size;have S:=af (p.alloc (.cells #[.bool false] 4));have A:=af (v.alloc (.cells #[.bool false] 4));have E:=af C
  gi_wp2_with (gi_at_builtin;refine wpListIn_append_own_at _ rfl _ _ 95 rfl base 4 ax aH 1 1 underlying95 ah ar au av aw ai _ _ _ rfl S.o (ag W.heap.size 0) 1 1 [.bool false] rfl rfl (Gc _ _ _) (by simp[Value.oneCell']) dJ aa aG ?_;intro aE w1 aq L _ Z)
  have V:D<W.heap.size:=(aZ.1 E.o).1;have J:w1.heap[D]? =some (.deferred (some [])):=(L.block D aG (fun e=>by have h9:D=g:=(by injection e);omega)).trans ((bR _ _ _ V).trans E.o);refine⟨aA,.inl ⟨_,_,rfl,AX J,?_⟩⟩;refine⟨_,results_tmp rfl _ _ _,aE,rfl,ownsRow_putObj (by rw[bL];exact aq) _ J rfl,?_,?_⟩
  .rcases Z with h9|h9
   .exact .inl h9
   .exact .inr ⟨_,h9,aG⟩
  .exact(((A.o.mono (fun k h=>by rw[h];rfl)).grown L (fun k e=>.inl e)).grown (A8 w1 D _) (fun k e=>by cases e;exact .inr aa))
 case stop=>
  rintro D c s W _ _ h _;exact h.elim
def NM (w0:World) (bx:Nat) (kv:Value) (m base:Nat) (kid:List Bool) (pre:List {q:Nat // q<m}) (W:World):Prop:=
 W.heap[bx]? =some (.cells #[kv] 95 (0,0))/\W.ownsRow base 4 1 kv m ((marked kid pre).map Value.bool)/\ay (fun k=>kv.ownBlock=some k) w0 W
theorem Lv {w0:World} {B bx m base:Nat} {r:Value} {q:List Bool} (l:w0.heap.size<=B):OwnFrom B (NM w0 bx r m base q):=by
 rintro s W W' y ⟨c,d,j⟩ g i;have h:∀(b:Nat) cs t fr,W.heap[b]? =some (.cells cs t fr)->W'.heap[b]? =W.heap[b]? :=fun b cs t fr f=>g.block b (aZ.1 f).1 fun e=>by
  obtain⟨-,o,a,n⟩:=i b e.symm;rw[f]at a;injection a with a;subst a;cases n
 refine⟨(h _ _ _ _ c).trans c,aX d fun x e=>?_,j.grown g fun k e=>.inr (bB l (i k e).1)⟩;rcases d.2 with⟨rfl,_⟩|⟨w,u,v,rfl,_,p,_⟩
 .cases e
 .simp only[Value.ownBlock,jl]at e;subst e;exact h _ _ _ _ p
theorem Lx (F:Fence) (n:Nat) (hF:F.fn 320) (O:F.fn 343) (v:F.fn 364) (j:F.round=none) (aw:3<=n) (k f t g:Int) (b:Option Addr) (m a base:Nat) (i:List Bool) (w:World) (au:i.length=m) (av:m<=100000)
  (C:w.ownsRow base 4 1 (.slice b m a) m (i.map Value.bool)) (aq:base<=w.heap.size):
  CallsIn F n prog 320 #[Bl k (-1) (-1) f t g,.slice b m a] w (NL w base m (.slice b m a) i):=by
 have M:1<=n:=aa;have I:=af C;have L:=af C;refine Ar func320 rfl hF ?_ j;simp only[ntmps320,lI,ed,fF,Nat.reduceAdd,Nat.reduceSub,qP,qQ,lJ,qU,fP,mK]
 gi_wp2_with (gi_at_call 343;refine(zY F (n-1) O j _ _ _ _ _ _ _).mono ?_;rintro e w' ⟨rfl,rfl⟩)
 obtain⟨wk,d⟩:∃wk,wk=((w.alloc (lg k (-1) (-1) f t g)).alloc (.cells #[.slice b m a] 95)).alloc (lg k (-1) (-1) f t g):=⟨_,rfl⟩;have u:Below w.heap.size w wk:=by rw[d];exact(((aJ _ w).alloc (aB _) _).alloc aA _).alloc aG _
 have ax:wk.heap.size=w.heap.size+3:=by rw[d];simp
 have S:wk.heap[w.heap.size+1]? =some (.cells #[.slice b m a] 95 (0,0)):=by
  rw[d];exact(bR _ _ _ aA).trans (CV w _ _)
 have V:wk.cell? (ag (w.heap.size+1+1) 1)=some (ae (-1)):=by
  rw[d,eB _ _ _ _ aA];rfl
 have X:wk.cell? (ag (w.heap.size+1+1) 2)=some (ae (-1)):=by
  rw[d,eB _ _ _ _ aA];rfl
 rw[<-d];have P:NM w (w.heap.size+1) (.slice b m a) m base i [] wk:=⟨S,ak I.o u,(ay.refl _ w).below u⟩;have G:=af P;refine Ep j M (gf:=364) (lb:=#[aj (w.heap.size+1+1)]) rfl v (bY func364 aM rfl)
  (Km (α:={q:Nat // q<m}) (fun x=>(x.1:Int)) F (n-1) v j aa (w.heap.size+1+1) wk aa V X) NJ.trans (fun W l o am U _ _ _=>zZ (B:=wk.heap.size) aa W l o am U) (aJ _ _) (fun _=>rfl)
  (fun r W=>NM w (w.heap.size+1) (.slice b m a) m base i r W)
  (fun _ _ _=>False)
  (Lv aa)
  (fun _ _ _ _ _ E _ _=>E)
  G.o
  (fun x=>{tmps:=#[Bl k (-1) (-1) f t g,.slice b m a,aj w.heap.size,aj (w.heap.size+1),aL,ae x.1,Bl k (-1) (-1) f t g,.func (.func 364) #[] #[aj (w.heap.size+1+1)],ae x.1,undef,undef,undef,undef,undef,undef],defers:=[]}) ?assign ?body ?done ?stop
 case assign=>
  intro l x W K p
  gi_wp2
  exact p
 case body=>
  intro l r x W _ h;exact absurd h (kC _)
 case done=>
  rintro D az W ap rfl ⟨R,Z,A⟩ p;have ar:W.cell? (ag (w.heap.size+1) 0)=some (.slice b m a):=aF R;have⟨al,ao,T,ab,ac,ad,ah⟩:=yw.R5;have E:=A.size;have J:=af (Z.alloc (.cells #[.bool false] 4));have H:=af (A.alloc (.cells #[.bool false] 4));have s:=af p
  gi_wp2_with (gi_at_builtin;refine wpListIn_append_own_at _ rfl _ _ 95 rfl base 4 al ao 1 1 underlying95 T ab ac ad ah ai _ _ _ rfl J.o (ag W.heap.size 0) 1 1 [.bool false] rfl rfl (Gc _ _ _) (by simp[Value.oneCell']) dJ aa aG ?_;intro an w1 Y z _ Q)
  have N:D<W.heap.size:=(aZ.1 s.o).1;have y:w1.heap[D]? =some (.deferred (some [])):=(z.block D aG (fun e=>by have h9:=(L.o.lt D e.symm).2;omega)).trans ((bR _ _ _ N).trans s.o);refine⟨aA,.inl ⟨_,_,rfl,AX y,?_⟩⟩;refine⟨_,results_tmp rfl _ _ _,an,rfl,ownsRow_putObj (by rw[bL];exact Y) _ y rfl,?_,?_⟩
  .rcases Q with h9|h9
   .exact .inl h9
   .exact .inr ⟨_,h9,aG⟩
  .exact(((H.o).grown z (fun k e=>.inl e)).grown (A8 w1 D _) (fun k e=>by cases e;exact .inr aa))
 case stop=>
  rintro D c r W _ _ h _;exact h.elim
theorem QB (k f t c:Int) (i j:Nat) (g m a base:Nat) (b:List Bool) (w:World) (h:b.length=m) (l:m<=100000) (hi:i<m) (e:j<m)
  (o:w.ownsRow base 4 1 (az g m a) m (b.map Value.bool)) (d:base<=w.heap.size):
  aK 320 #[Bl k i j f t c,az g m a] w (NL w base m (az g m a) ((b.set i true).set j true)):=by
 refine(ym (n:=3)).1 ?_;exact I4 _ 3 trivial trivial trivial rfl ai k f t c i j g m a base b w h l hi e o d
theorem SI (k f t d:Int) (b:Option Addr) (m a base:Nat) (c:List Bool) (w:World) (g:c.length=m) (h:m<=100000)
  (i:w.ownsRow base 4 1 (.slice b m a) m (c.map Value.bool)) (e:base<=w.heap.size):
  aK 320 #[Bl k (-1) (-1) f t d,.slice b m a] w (NL w base m (.slice b m a) c):=by
 refine(ym (n:=3)).1 ?_;exact Lx _ 3 trivial trivial trivial rfl ai k f t d b m a base c w g h i e
end
section
open Go Go.RowKit
section
variable {P:Program} {ops:Array Oper} {Q:Exit->Act->World->Prop} {md:Region.Mode} {C:World->Prop} {T:List Nat}
def dD (P:Program) (md:Region.Mode) (ops:Array Oper) (Q:Exit->Act->World->Prop) (C:World->Prop) (T:List Nat):Nat->Array Bool->Act->World->Prop
 |0,listed,a,w=>Region.ready md ops listed=[]/\Q .normal a w
 |fuel+1,listed,a,w=>
  (Region.ready md ops listed=[]->Q .normal a w)/\
  ∀i∈Region.ready md ops listed,wpOp P ops Q i (fun a' w'=>(C w->i∉T->C w')/\dD P md ops Q C T fuel (listed.setIfInBounds i true) a' w') a w
theorem vH:∀(fuel:Nat) (b:Array Bool) (a:Act) (w:World),dD P md ops Q C T fuel b a w->wpAny P md ops Q fuel b a w
 |0,_,_,_,h=>h
 |fuel+1,_,_,_,h=>⟨h.1,fun i hi=>wpOp_mono (fun a' w' h'=>vH fuel _ a' w' h'.2) (h.2 i hi)⟩
def mf (md:Region.Mode) (ops:Array Oper) (listed:Array Bool):Prop:=
 ∀j oj,ops[j]? =some oj->listed.getD j false=true->∀e∈oj.after,Region.binds md e=true->listed.getD e.on false=true
theorem mf.set {i:Nat} {a:Array Bool} (inv:mf md ops a) (hi:i∈Region.ready md ops a):mf md ops (a.setIfInBounds i true):=by
 have⟨_,m,l,k⟩:=mem_ready.1 hi;intro j h f g e c b;by_cases d:i=j
 .subst d;have:h=m:=EC (f.symm.trans l);subst this;exact getD_set_true (k e c b)
 .rw[getD_set_ne false d]at g;exact getD_set_true (inv j h f g e c b)
def downs (md:Region.Mode) (ops:Array Oper) (i:Nat):Nat->List Nat
 |0=>[]
 |n+1=>if Region.waitsFor md ops n i||(downs md ops i n).any (fun k=>Region.waitsFor md ops n k)then n::downs md ops i n else downs md ops i n
theorem qo {d:Array Bool} {i:Nat} (inv:mf md ops d):∀(n t:Nat),t∈downs md ops i n->(∀a,ops[t]? =some a->∀e∈a.after,Region.binds md e=true->d.getD e.on false=true)->d.getD i false=true
 |0,t,h,_=>by cases h
 |n+1,t,h,hd=>by
  unfold downs at h;split at h
  .rename_i hc;rcases ic.1 h with h|h
   .rw[h]at hd;rcases(uW _ _).mp hc with hc|hc
    .obtain⟨a,g,e,c,b,f⟩:=Region.waitsFor_spec hc;exact f▸hd a g e c b
    .obtain⟨k,j,hc⟩:=List.any_eq_true.1 hc;have⟨a,g,e,c,b,f⟩:=Region.waitsFor_spec hc;have l:d.getD k false=true:=f▸hd a g e c b;exact qo inv n k j fun o m e c b=>inv k o m l e c b
   .exact qo inv n t h hd
  .exact qo inv n t h hd
theorem EN {i:Nat} {n:Oper} {v:Value} {b:Bool} (hi:ops[i]? =some n) (G:∀(j:Nat) (o:Oper) cs b,ops[j]? =some o->o.op≠.select cs b)
  (K:∀c a w,Q (.panic c) (a.put n.dst v) w->Q (.panic c) a w) (L:b=true->∀t∈T,t∈downs md ops i ops.size):
  ∀(fuel:Nat) (d:Array Bool) (a:Act) (w:World),mf md ops d->
   (∀j l,ops[j]? =some l->j≠i->d.getD j true=false->(∀e∈l.after,Region.binds md e=true->e.on≠i)->n.apart ops l=true)->
   i∈Region.ready md ops d->YieldsIf P ops (fun w=>b=true->C w) n v a->(b=true->C w)->
   dD P md ops Q C T fuel (d.setIfInBounds i true) (a.put n.dst v) w->dD P md ops Q C T (fuel+1) d a w:=by
 intro fuel
 induction fuel with
 |zero=>
  intro d a w inv _ m x hS H;refine⟨fun h=>(by rw[h]at m;cases m),fun j p=>?_⟩;by_cases g:j=i
  .subst g;exact x.wpOp hi hS ⟨fun h _=>h,H⟩
  .have:=ready_mono p g;rw[H.1]at this;cases this
 |succ fuel ih=>
  intro d a w inv B m x hS H;refine⟨fun h=>(by rw[h]at m;cases m),fun j p=>?_⟩;by_cases g:j=i
  .subst g;exact x.wpOp hi hS ⟨fun h _=>h,H⟩
  .have r:=H.2 j (ready_mono p g);have⟨F,l,u,A⟩:=mem_ready.1 p;have D:=getD_both (mem_ready.1 m).1;have z:b=true->j∉T:=fun f z=>by
    have:=qo inv ops.size j (L f j z) (fun W V e y f=>by
     have:W=l:=EC (V.symm.trans u);subst this;exact A e y f)
    rw[D]at this;cases this
   have U:∀e∈l.after,Region.binds md e=true->e.on≠i:=fun e y f M=>by
    have r:=A e y f;rw[M,D]at r;cases r
   have J:=wpOp_putIf u (B j l u g F U) (fun cs b=>G i n cs b hi) (fun cs b=>G j l cs b u) K x r;have N:∀k q,ops[k]? =some q->k≠i->(d.setIfInBounds j true).getD k true=false->
     (∀e∈q.after,Region.binds md e=true->e.on≠i)->n.apart ops q=true:=fun k q O R I S=>by
    refine B k q O R ?_ S;by_cases E:j=k
    .subst E;exact F
    .rw[getD_set_ne true E]at I;exact I
   refine wpOp_mono (fun a' w' s=>⟨s.2.1,ih (d.setIfInBounds j true) a' w' (inv.set p) N (ready_mono m (iR g)) s.1 (fun f=>s.2.1 (hS f) (z f)) ?_⟩) J;rw[Array.setIfInBounds_comm _ _ g];exact s.2.2
def Oper.fw (P:Program) (o:Oper) (a:Act) (C:World->Prop) (b:Bool) (next:Act->Prop):Prop:=∃v,(∀w,(b=true->C w)->(execOp a.eval o).run P w=.ok (.value v) w)/\next (a.put o.dst v)
def wpHd (P:Program) (ops:Array Oper) (C:World->Prop) (L:Act->Prop):List (Oper×Bool)->Act->Prop
 |[],a=>L a
 |o::rest,a=>if Region.wanted o.1 (yielded ops a.tmps)then Oper.fw P o.1 a C o.2 (wpHd P ops C L rest)else wpHd P ops C L rest (a.put o.1.dst undef)
theorem oO {L:Act->Prop} {a:Act} (h:L a):wpHd P ops C L [] a:=h
theorem iY {L:Act->Prop} {a:Act} {o:Oper} {b:Bool} {rest:List (Oper×Bool)}
  (h:∀K:Act->Prop,(∀a,wpHd P ops C L rest a->K a)->if Region.wanted o (yielded ops a.tmps)then Oper.fw P o a C b K else K (a.put o.dst undef)):wpHd P ops C L ((o,b)::rest) a:=
 h _ (fun _ h=>h)
def headOK (md:Region.Mode) (ops:Array Oper) (T:List Nat):List (Nat×Bool)->Array Bool->Bool
 |[],_=>true
 |i::l,listed=>(Region.ready md ops listed).contains i.1&&Region.free md ops listed i.1&&(!i.2||T.all (fun t=>(downs md ops i.1 ops.size).contains t))&&headOK md ops T l (listed.setIfInBounds i.1 true)
def jP:List (Nat×Bool)->Array Bool->Array Bool
 |[],listed=>listed
 |i::l,listed=>jP l (listed.setIfInBounds i.1 true)
def pick (ops:Array Oper) (hd:List Nat):List Oper:=hd.filterMap fun i=>ops[i]?
def jQ (ops:Array Oper) (hd:List (Nat×Bool)):List (Oper×Bool):=hd.filterMap fun i=>ops[i.1]?.map fun o=>(o,i.2)
theorem r9 (q:Region.noSelect ops=true) (o:∀c a d v w,Q (.panic c) (Act.put a d v) w->Q (.panic c) a w) {fuel:Nat} {w:World} (n:C w):
  ∀(hd:List (Nat×Bool)) (e:Array Bool) (a:Act),mf md ops e->headOK md ops T hd e=true->wpHd P ops C (fun a'=>dD P md ops Q C T fuel (jP hd e) a' w) (jQ ops hd) a->dD P md ops Q C T (fuel+hd.length) e a w
 |[],e,a,_,_,h=>h
 |(i,b)::l,e,a,inv,m,h=>by
  simp only[headOK,oH]at m;obtain⟨⟨⟨z,y⟩,p⟩,s⟩:=m;have k:i∈Region.ready md ops e:=aQ z;have⟨_,g,hi,_⟩:=mem_ready.1 k;have u:b=true->∀t∈T,t∈downs md ops i ops.size:=fun x t ht=>by
   subst x;simp only[Bc,Bool.false_or]at p;have:=uU.1 p t ht;simpa using this
  have hp:jQ ops ((i,b)::l)=(g,b)::jQ ops l:=by simp[jQ,hi]
  rw[hp]at h;have ih:=fun a'=>r9 (fuel:=fuel) q o n l (e.setIfInBounds i true) a' (inv.set k) s;have key:∀v,YieldsIf P ops (fun w=>b=true->C w) g v a->wpHd P ops C (fun a'=>dD P md ops Q C T fuel (jP l (e.setIfInBounds i true)) a' w) (jQ ops l) (a.put g.dst v)->dD P md ops Q C T (fuel+((i,b)::l).length) e a w:=fun v A j=>
   EN hi (Region.noSelect_spec q) (fun c a w h=>o c a _ _ w h) u _ e a w inv (Region.free_spec hi y) k A (fun _=>n) (ih _ j)
  by_cases f:Region.wanted g (yielded ops a.tmps)=true
  .simp only[wpHd,f,gG]at h;have⟨v,r,j⟩:=h;exact key v (.inl ⟨f,r⟩) j
  .simp only[wpHd,f]at h;exact key undef (.inr ⟨aQ f,rfl⟩) h
theorem jR {id:Nat} {a:Act} {w:World} {l:List Oper} (C:World->Prop) (T:List Nat) (hd:List (Nat×Bool)) (k:P.follows .mixedOrders=true) (o:Region.noSelect l.toArray=true) (i:∀c a d v w,Q (.panic c) (Act.put a d v) w->Q (.panic c) a w) (g:C w.drew)
  (n:Nat) (m:n+hd.length=l.length) (f:headOK .any l.toArray T hd (Array.replicate l.length false)=true)
  (h:wpHd P l.toArray C (fun a'=>dD P .any l.toArray Q C T n (jP hd (Array.replicate l.length false)) a' w.drew) (jQ l.toArray hd) a):(Code.region id l.toArray true).wp P Q a w:=by
 refine wp_region_any k (vH (C:=C) (T:=T) _ _ _ _ ?_);have b:=r9 (md:=.any) (ops:=l.toArray) (T:=T) o i g hd (Array.replicate l.length false) a (fun j p _ e=>by rw[getD_replicate_false]at e;cases e) f h;rw[m]at b;simpa using b
def fG (P:Program) (md:Region.Mode) (ops:Array Oper) (Q:Exit->Act->World->Prop) (C:World->Prop) (T:List Nat) (fuel:Nat) (listed:Array Bool) (a:Act) (w:World) (rs:List Nat):Prop:=
 ∀i∈rs,wpOp P ops Q i (fun a' w'=>(C w->i∉T->C w')/\dD P md ops Q C T fuel (listed.setIfInBounds i true) a' w') a w
theorem fG.nil {fuel:Nat} {b:Array Bool} {a:Act} {w:World}:fG P md ops Q C T fuel b a w []:=fun _ h=>by cases h
theorem fG.cons {fuel:Nat} {b:Array Bool} {a:Act} {w:World} {i:Nat} {o:Oper} {d:List Nat} (k:ops[i]? =some o)
  (h:∀K:Act->World->Prop,(∀a' w',(C w->i∉T->C w')->dD P md ops Q C T fuel (b.setIfInBounds i true) a' w'->K a' w')->if Region.wanted o (yielded ops a.tmps)=true then Oper.wp P o a w K Q else K (a.put o.dst undef) w)
  (l:fG P md ops Q C T fuel b a w d):fG P md ops Q C T fuel b a w (i::d):=fun j hj=>by
 rcases ic.1 hj with e|hj
 .rw[e];have:=h (fun a' w'=>(C w->i∉T->C w')/\dD P md ops Q C T fuel (b.setIfInBounds i true) a' w') (fun a' w' f g=>⟨f,g⟩);unfold wpOp;simp only[k];split
  .rename_i c;simp only[c,gG]at this;exact .inl this
  .rename_i c;simp only[c]at this;exact this
 .exact l j hj
theorem qp {fuel:Nat} {b:Array Bool} {a:Act} {w:World} (c:List Nat) (d:Region.ready md ops b=c) (f:c≠[]) (h:fG P md ops Q C T fuel b a w c):dD P md ops Q C T (fuel+1) b a w:=
 ⟨fun e=>absurd (d▸e) f,d▸h⟩
theorem lh {b:Array Bool} {a:Act} {w:World} (c:Region.ready md ops b=[]) (h:Q .normal a w):dD P md ops Q C T 0 b a w:=⟨c,h⟩
def lineOK (md:Region.Mode) (ops:Array Oper) (T:List Nat):List Nat->Array Bool->Bool
 |[],listed=>(Region.ready md ops listed).isEmpty
 |i::l,listed=>decide (Region.ready md ops listed=[i])&&T.contains i&&lineOK md ops T l (listed.setIfInBounds i true)
theorem zq:∀(L:List Nat) (b:Array Bool) (a:Act) (w:World),lineOK md ops T L b=true->wpList P ops Q (pick ops L) a w->dD P md ops Q C T L.length b a w
 |[],b,a,w,c,h=>⟨by simpa[lineOK]using c,h⟩
 |i::l,b,a,w,c,h=>by
  simp only[lineOK,oH,dH]at c;obtain⟨⟨d,m⟩,k⟩:=c;have p:i∈Region.ready md ops b:=by rw[d];simp
  have n:i∈T:=aQ m;have⟨_,r,hi,_⟩:=mem_ready.1 p;have hp:pick ops (i::l)=r::pick ops l:=by simp[pick,hi]
  rw[hp]at h;refine⟨fun e=>(by rw[d]at e;cases e),fun j f=>?_⟩;rw[d]at f;have o:j=i:=aQ f;rw[o];have q:wpOp P ops Q i (wpList P ops Q (pick ops l)) a w:=by unfold wpOp;simp only[hi];exact h
  exact wpOp_mono (fun a' w' h'=>⟨fun _ g=>absurd n g,zq l _ a' w' k h'⟩) q
def z8 (md:Region.Mode) (ops:Array Oper) (listed:Array Bool):Bool:=
 (List.range ops.size).all fun j=>!listed.getD j false||((ops[j]?.map fun o=>o.after.toList.all fun e=>!Region.binds md e||listed.getD e.on false).getD true)
theorem mf.of {d:Array Bool} (h:z8 md ops d=true):mf md ops d:=by
 intro j l c k e g f;have i:j<ops.size:=(aZ.1 c).1;have a:=uU.1 h j (uX.2 i);rw[k,c]at a;simp only[Bc,Bool.false_or,fQ,gI]at a;have b:=uU.1 a e (aQ g);rw[f]at b;simpa using b
theorem zt {fuel n:Nat} {w:World} {b:Array Bool} {a:Act} (hd:List (Nat×Bool)) (k:Region.noSelect ops=true) (g:∀c a d v w,Q (.panic c) (Act.put a d v) w->Q (.panic c) a w) (f:C w) (i:z8 md ops b=true)
  (e:headOK md ops T hd b=true) (j:n=fuel+hd.length) (h:wpHd P ops C (fun a'=>dD P md ops Q C T fuel (jP hd b) a' w) (jQ ops hd) a):dD P md ops Q C T n b a w:=by
 subst j;exact r9 k g f hd b a (mf.of i) e h
theorem lQ {id:Nat} {a:Act} {w:World} {l:List Oper} (C:World->Prop) (T:List Nat) (hd:List (Nat×Bool)) (e:C w.drew) (n:Nat) (h:wpHd P l.toArray C (fun a'=>dD P .any l.toArray Q C T n (jP hd (Array.replicate l.length false)) a' w.drew) (jQ l.toArray hd) a)
  (g:P.follows .mixedOrders=true:=by kernel_rfl) (j:Region.noSelect l.toArray=true:=by kernel_rfl) (f:∀c a d v w,Q (.panic c) (Act.put a d v) w->Q (.panic c) a w:=by intro _ _ d _ _ h;cases d<;>exact h) (i:n+hd.length=l.length:=by rfl) (b:headOK .any l.toArray T hd (Array.replicate l.length false)=true:=by kernel_rfl):(Code.region id l.toArray true).wp P Q a w:=
 jR C T hd g j f e n i b h
theorem Nu {id:Nat} {a:Act} {w:World} {l:List Oper} (hd:List (Nat×Bool)) (n:Nat) (h:wpHd P l.toArray (fun W=>∃p:aS w,W=p.W) (fun a'=>dD P .any l.toArray Q (fun W=>∃p:aS w,W=p.W) [] n (jP hd (Array.replicate l.length false)) a' w.drew) (jQ l.toArray hd) a)
  (f:P.follows .mixedOrders=true:=by kernel_rfl) (i:Region.noSelect l.toArray=true:=by kernel_rfl) (e:∀c a d v w,Q (.panic c) (Act.put a d v) w->Q (.panic c) a w:=by intro _ _ d _ _ h;cases d<;>exact h) (g:n+hd.length=l.length:=by rfl) (b:headOK .any l.toArray [] hd (Array.replicate l.length false)=true:=by kernel_rfl):(Code.region id l.toArray true).wp P Q a w:=
 jR (fun W=>∃p:aS w,W=p.W) [] hd f i e ⟨⟨_,(aJ _ _).drew⟩,rfl⟩ n g b h
theorem aH {fuel:Nat} {b:Array Bool} {a:Act} {w:World} {o:Oper} (i:Nat) (c:ops[i]? =some o)
  (h:∀K:Act->World->Prop,(∀a' w',(C w->i∉T->C w')->dD P md ops Q C T fuel (b.setIfInBounds i true) a' w'->K a' w')->if Region.wanted o (yielded ops a.tmps)=true then Oper.wp P o a w K Q else K (a.put o.dst undef) w)
  (d:Region.ready md ops b=[i]:=by kernel_rfl):dD P md ops Q C T (fuel+1) b a w:=qp [i] d (by simp) (fG.cons c h fG.nil)
theorem QC {fuel n:Nat} {w:World} {b:Array Bool} {a:Act} (hd:List (Nat×Bool)) (f:C w) (j:n=fuel+hd.length) (h:wpHd P ops C (fun a'=>dD P md ops Q C T fuel (jP hd b) a' w) (jQ ops hd) a)
  (k:Region.noSelect ops=true:=by kernel_rfl) (g:∀c a d v w,Q (.panic c) (Act.put a d v) w->Q (.panic c) a w:=by intro _ _ d _ _ h;cases d<;>exact h) (i:z8 md ops b=true:=by kernel_rfl) (e:headOK md ops T hd b=true:=by kernel_rfl):dD P md ops Q C T n b a w:=zt hd k g f i e j h
theorem ax {id:Nat} {a:Act} {w:World} {l:List Oper} {G:Prop} (C:World->Prop) (T:List Nat) (hd:List (Nat×Bool)) (f:C w.drew) (n:Nat) (g:G) (h:ND G->wpHd P l.toArray C (fun a'=>dD P .any l.toArray Q C T n (jP hd (Array.replicate l.length false)) a' w.drew) (jQ l.toArray hd) a:=by(intro g;simp only[_root_.Go.Proofs.YtkjdbndekceffaaGreat.jQ,uM,uO,uI,dz,fI,fQ];(repeat(refine _root_.Go.Proofs.YtkjdbndekceffaaGreat.iY (fun K b=>?_);go_simp;first|(refine b _ ?_;clear b K)|(apply Exists.intro;refine⟨fun _=>?_,b _ ?_⟩;rfl;clear b K)));refine _root_.Go.Proofs.YtkjdbndekceffaaGreat.oO ?_;exact g.o))
  (j:P.follows .mixedOrders=true:=by kernel_rfl) (m:Region.noSelect l.toArray=true:=by kernel_rfl) (i:∀c a d v w,Q (.panic c) (Act.put a d v) w->Q (.panic c) a w:=by intro _ _ d _ _ h;cases d<;>exact h) (k:n+hd.length=l.length:=by rfl) (e:headOK .any l.toArray T hd (Array.replicate l.length false)=true:=by kernel_rfl):(Code.region id l.toArray true).wp P Q a w:=
 jR C T hd j m i f n k e (h ⟨g⟩)
theorem kM {id:Nat} {a:Act} {w:World} {l:List Oper} {G:Prop} (hd:List (Nat×Bool)) (n:Nat) (g:G) (h:ND G->wpHd P l.toArray (fun W=>∃p:aS w,W=p.W) (fun a'=>dD P .any l.toArray Q (fun W=>∃p:aS w,W=p.W) [] n (jP hd (Array.replicate l.length false)) a' w.drew) (jQ l.toArray hd) a:=by(intro g;simp only[_root_.Go.Proofs.YtkjdbndekceffaaGreat.jQ,uM,uO,uI,dz,fI,fQ];(repeat(refine _root_.Go.Proofs.YtkjdbndekceffaaGreat.iY (fun K b=>?_);go_simp;first|(refine b _ ?_;clear b K)|(apply Exists.intro;refine⟨fun _=>?_,b _ ?_⟩;rfl;clear b K)));refine _root_.Go.Proofs.YtkjdbndekceffaaGreat.oO ?_;exact g.o))
  (i:P.follows .mixedOrders=true:=by kernel_rfl) (k:Region.noSelect l.toArray=true:=by kernel_rfl) (f:∀c a d v w,Q (.panic c) (Act.put a d v) w->Q (.panic c) a w:=by intro _ _ d _ _ h;cases d<;>exact h) (j:n+hd.length=l.length:=by rfl) (e:headOK .any l.toArray [] hd (Array.replicate l.length false)=true:=by kernel_rfl):(Code.region id l.toArray true).wp P Q a w:=
 jR (fun W=>∃p:aS w,W=p.W) [] hd i k f ⟨⟨_,(aJ _ _).drew⟩,rfl⟩ n j e (h ⟨g⟩)
theorem bz {fuel n:Nat} {w:World} {e:Array Bool} {a:Act} {G:Prop} (hd:List (Nat×Bool)) (i:C w) (l:n=fuel+hd.length) (g:G) (h:ND G->wpHd P ops C (fun a'=>dD P md ops Q C T fuel (jP hd e) a' w) (jQ ops hd) a:=by(intro g;simp only[_root_.Go.Proofs.YtkjdbndekceffaaGreat.jQ,uM,uO,uI,dz,fI,fQ];(repeat(refine _root_.Go.Proofs.YtkjdbndekceffaaGreat.iY (fun K b=>?_);go_simp;first|(refine b _ ?_;clear b K)|(apply Exists.intro;refine⟨fun _=>?_,b _ ?_⟩;rfl;clear b K)));refine _root_.Go.Proofs.YtkjdbndekceffaaGreat.oO ?_;exact g.o))
  (m:Region.noSelect ops=true:=by kernel_rfl) (j:∀c a d v w,Q (.panic c) (Act.put a d v) w->Q (.panic c) a w:=by intro _ _ d _ _ h;cases d<;>exact h) (k:z8 md ops e=true:=by kernel_rfl) (f:headOK md ops T hd e=true:=by kernel_rfl):dD P md ops Q C T n e a w:=zt hd m j i k f l (h ⟨g⟩)
theorem aI {b:Array Bool} {a:Act} {w:World} {G:Prop} (L:List Nat) (g:G) (h:ND G->wpList P ops Q (pick ops L) a w:=by(intro g;simp only[_root_.Go.Proofs.YtkjdbndekceffaaGreat.pick,uM,uO,uI,dz,fI];exact g.o)) (c:lineOK md ops T L b=true:=by kernel_rfl):dD P md ops Q C T L.length b a w:=zq L b a w c (h ⟨g⟩)
theorem iU {fuel:Nat} {b:Array Bool} {a:Act} {w:World} {o c:Oper} (i j:Nat) (e:ops[i]? =some o) (f:ops[j]? =some c)
  (h:∀K:Act->World->Prop,(∀a' w',(C w->i∉T->C w')->dD P md ops Q C T fuel (b.setIfInBounds i true) a' w'->K a' w')->if Region.wanted o (yielded ops a.tmps)=true then Oper.wp P o a w K Q else K (a.put o.dst undef) w)
  (d:∀K:Act->World->Prop,(∀a' w',(C w->j∉T->C w')->dD P md ops Q C T fuel (b.setIfInBounds j true) a' w'->K a' w')->if Region.wanted c (yielded ops a.tmps)=true then Oper.wp P c a w K Q else K (a.put c.dst undef) w)
  (g:Region.ready md ops b=[i,j]:=by kernel_rfl):dD P md ops Q C T (fuel+1) b a w:=qp [i,j] g (by simp) (fG.cons e h (fG.cons f d fG.nil))
end
structure jS (F:World->Prop) where
 W:World
 h:F W
section
variable {P:Program} {ops:Array Oper} {Q:Exit->Act->World->Prop} {md:Region.Mode} {C C':World->Prop} {T T':List Nat}
def R9 (ops:Array Oper) (T:List Nat) (listed:Array Bool):Bool:=(List.range ops.size).all fun j=>listed.getD j false||T.contains j
theorem uq:∀(fuel:Nat) (b:Array Bool) (a:Act) (w:World),R9 ops T b=true->wpAny P md ops Q fuel b a w->dD P md ops Q C T fuel b a w
 |0,_,_,_,_,h=>h
 |fuel+1,b,a,w,d,h=>⟨h.1,fun i hi=>wpOp_mono (fun a' w' h'=>by
  obtain⟨hu,m,k,-⟩:=mem_ready.1 hi;have l:i<ops.size:=(aZ.1 k).1;have f:i∈T:=by
   have c:=uU.1 d i (uX.2 l);rw[getD_both hu]at c;simpa using c
  refine⟨fun _ e=>absurd f e,uq fuel _ a' w' ?_ h'⟩;refine uU.2 fun j g=>?_;have h2:=uU.1 d j g;rcases(uW _ _).mp h2 with h2|h2
  .rw[getD_set_true h2];rfl
  .rw[h2];simp) (h.2 i hi)⟩
theorem ig (C':World->Prop) (T':List Nat) {fuel:Nat} {b:Array Bool} {a:Act} {w:World} (c:R9 ops T b=true) (h:dD P md ops Q C' T' fuel b a w):dD P md ops Q C T fuel b a w:=
 uq fuel b a w c (vH fuel b a w h)
end
theorem Bo {P:Program} {ops:Array Oper} {o:Oper} {a:Act} {K:Act->World->Prop} {Q:Exit->Act->World->Prop} {E0:Prop} {f:FuncId} {w:World} {vals:Array Value} {R:Ending->World->Prop} (g:∀args w,(callFunc f args).run P w=.ok (.enter f args) w) (l:Region.wanted o (yielded ops a.tmps)=true) (args:Array Operand) (m:Array TypeId) (j:o.op=.call {callee:=.value (.func f),args:=args,argTypes:=m}) (c:vals=(args.toList.map a.eval).toArray)
  (C:Calls P f vals w R) (h:∀e w',R e w'->∃v,e=.returned v/\K (a.put o.dst v) w'):
  if Region.wanted o (yielded ops a.tmps)=true then Oper.wp P o a w K Q else E0:=by
 rw[aO l];unfold Oper.wp;have b:args.map a.eval=vals:=by rw[c,<-Ez]
 have d:(execOp a.eval o).run P w=.ok (.enter f vals) w:=by
  simp[execOp,j,resolve,invoke,b,Act.eval,Deferred.ofValue,g]
 rw[d,Oper.upon_enter];refine C.mono fun e w' k=>?_;obtain⟨v,rfl,i⟩:=h e w' k;exact i
end
section
open Go.RowKit Go.Sort Go.Shelf Go.Lib Go.Maps
attribute [local irreducible] wpQuiet
attribute [local go_sem] Oper.fw
structure I5 (w:World) (tb:Nat) (N:List Nd) (nm:Nat->Int) (YS:List Nat) (LN LL:Nat->Value):Prop where
 je:∃gn off cn,w.cell? (ag tb 4)=some (.slice (some (ag gn off)) N.length cn)/\bW oN 7 w (some (ag gn off)) N
 EO:∃gl cl,w.cell? (ag tb 5)=some (az gl N.length cl)/\gl<w.heap.size/\∀k,k<N.length->w.cell? (ag gl (k*2))=some (LN k)/\w.cell? (ag gl (k*2+1))=some (LL k)
 Gd:∀t s,FT.At N t s->∃a c,LN (t.root s)=.slice a (nl YS t).length c/\(nl YS t).length<=c/\Rd (.int .u32) w a ((nl YS t).map nm)
 Bp:∀l r s,FT.At N (.node l r) s->∃a c,LL ((FT.node l r).root s)=.slice a (lf l.hi (nl YS (.node l r))).length c/\Rd (.int .i64) w a (lf l.hi (nl YS (.node l r)))
 DD:∀k,k<N.length->∃a m c,LL k=.slice a m c
theorem I5.below {w w':World} {tb B:Nat} {N:List Nd} {nm:Nat->Int} {YS:List Nat} {LN LL:Nat->Value} (h:I5 w tb N nm YS LN LL) (b:Below B w w') (o:w.heap.size<=B):I5 w' tb N nm YS LN LL:=by
 have b:=b.mono o;obtain⟨⟨n,off,cn,g,y⟩,⟨gl,cl,m,f,i⟩,v,u,x⟩:=h;have ht:=gX w _ g;exact⟨⟨n,off,cn,(b.cell (p:=(ag tb 4)) ht).trans g,y.below b⟩,
  ⟨gl,cl,(b.cell (p:=(ag tb 5)) ht).trans m,bX f b.size,fun k j=>⟨(b.cell (p:=(ag gl (k*2))) f).trans (i k j).1,(b.cell (p:=(ag gl (k*2+1))) f).trans (i k j).2⟩⟩,
  fun t s d=>by obtain⟨a,c,e,q,r⟩:=v t s d;exact⟨a,c,e,q,r.below b⟩,fun l r s d=>by obtain⟨a,c,e,r⟩:=u l r s d;exact⟨a,c,e,r.below b⟩,x⟩
structure Told (F:Nat) (cb:Array Value) (N:List Nd) (YS:List Nat) (LN LL:Nat->Value) (B:Nat) (w0:World) (FL:List Nat) (S:World->List Nat->(Nat->Prop)->Prop):Prop where
 enters:∀args w,(callFunc F args).run prog w=.ok (.enter F args) w
 base:∀W acc D,S W acc D->Below B w0 W
 lt:∀W acc D,S W acc D->∀k,D k->B<=k/\k<W.heap.size
 jT:∀W W' acc D,S W acc D->Below W.heap.size W W'->S W' acc D
 told:∀W acc D t s a b,S W acc D->FT.At N t s->a<=b->b<=(nl YS t).length->acc++((nl YS t).take b).drop a <+: FL->
  aK F (#[.agg #[LN (t.root s),LL (t.root s)],ae (a:Nat),ae (b:Nat)]++cb) W fun e w'=>e=.returned (.tuple #[])/\∃D',S w' (acc++((nl YS t).take b).drop a) D'/\(∀k,D' k->D k\/W.heap.size<=k)/\ay D W w'
structure wH (D:Nat->Prop) (w:World) where
 W:World
 h:ay D w W
def SK (S:World->List Nat->(Nat->Prop)->Prop) (W:World) (D:Nat->Prop) (acc:List Nat) (n:Nat) (e:Ending) (w':World):Prop:=
 e=.returned (ae n)/\∃D',S w' acc D'/\(∀k,D' k->D k\/W.heap.size<=k)/\ay D W w'
theorem Gf:fV 172:=bY func172 aM rfl
theorem mX {w:World} {g off:Nat} {N:List Nd} {i:Nat} {d:Nd} (h:bW oN 7 w (some (ag g off)) N) (hi:N[i]? =some d):
  g<w.heap.size/\w.cell? (ag g (off+i*7))=some (.int .u8 d.kind)/\w.cell? (ag g (off+i*7+1))=some (ae d.l)/\w.cell? (ag g (off+i*7+2))=some (ae d.r)/\w.cell? (ag g (off+i*7+3))=some (ae d.fr)/\w.cell? (ag g (off+i*7+4))=some (ae d.Kj)/\w.cell? (ag g (off+i*7+5))=some (ae 0)/\w.cell? (ag g (off+i*7+6))=some (ae d.item):=by
 have⟨a,hd⟩:=fq.1 hi;rcases h with h|⟨b,o,e,f,j⟩
 .subst h;simp at a
 .cases e;have c:=j i a;rw[hd]at c;exact⟨f,c 0 aa,c 1 aa,c 2 aa,c 3 aa,c 4 aa,c 5 aa,c 6 aa⟩
theorem NN (n:Int) (h:-9223372036854775808<=n/\n<=9223372036854775807):wrap64 n=n:=by unfold wrap64;omega
theorem mr {YS:List Nat} {yv:Nat->Int} {y1 y2:Int} {fr ub:Nat}:∀t:FT,(down YS yv y1 y2 fr ub t).2<=t.size
 |.leaf a=>by
  rw[down];split<;>exact aB _
 |.node l r=>by
  have b:=mr (YS:=YS) (yv:=yv) (y1:=y1) (y2:=y2) (fr:=fr) (ub:=ub) l;have c:=mr (YS:=YS) (yv:=yv) (y1:=y1) (y2:=y2) (fr:=fr) (ub:=ub) r;have d:(FT.node l r).size=l.size+r.size+1:=rfl;rw[down];split
  .show 1<=_;omega
  .split
   .show 1<=_;omega
   .show 1+_+_<=_;omega
theorem Bq (F:Nat) (cb:Array Value) (N:List Nd) (nm:Nat->Int) (YS:List Nat) (LN LL:Nat->Value) (tb B:Nat) (w0:World) (S:World->List Nat->(Nat->Prop)->Prop) (yv:Nat->Int) (y1 y2:Int) (fr ub:Nat)
  (cc:w0.heap.size<=B) (I:List Nat) (ac:Told F cb N YS LN LL B w0 I S) (av:I5 w0 tb N nm YS LN LL) (ba:YS.Pairwise fun i k=>yv i<=yv k) (cI:y1<=y2) (c2:N.length<=1000000) (c3:YS.length<=1000000) (ji:fr<=1000000) (l7:ub<=1000000)
  (t:FT) (s:Nat) (W:World) (f:List Nat) (D:Nat->Prop) (G:FT.At N t s) (aM:t.wf) (cE:t.hi<=1000000) (hS:S W f D) (a4:f++(down YS yv y1 y2 fr ub t).1 <+: I)
  (bS:∀l r,t=.node l r->(∀W f D,S W f D->f++(down YS yv y1 y2 fr ub l).1 <+: I->
    aK 172 #[aj tb,ae (l.root s:Nat),ae (below yv y1 (nl YS l):Nat),ae (upto yv y2 (nl YS l):Nat),.agg #[ae fr,ae ub,.func (.func F) #[] cb]] W (SK S W D (f++(down YS yv y1 y2 fr ub l).1) (down YS yv y1 y2 fr ub l).2))/\
    ∀W f D,S W f D->f++(down YS yv y1 y2 fr ub r).1 <+: I->aK 172 #[aj tb,ae (r.root (s+l.size):Nat),ae (below yv y1 (nl YS r):Nat),ae (upto yv y2 (nl YS r):Nat),.agg #[ae fr,ae ub,.func (.func F) #[] cb]] W (SK S W D (f++(down YS yv y1 y2 fr ub r).1) (down YS yv y1 y2 fr ub r).2)):
  aK 172 #[aj tb,ae (t.root s:Nat),ae (below yv y1 (nl YS t):Nat),ae (upto yv y2 (nl YS t):Nat),.agg #[ae fr,ae ub,.func (.func F) #[] cb]] W (SK S W D (f++(down YS yv y1 y2 fr ub t).1) (down YS yv y1 y2 fr ub t).2):=by
 obtain⟨⟨E,off,cn,au,b2⟩,⟨gl,cl,aY,bP,bE⟩,bR,cD,bT⟩:=av.below (ac.base W f D hS) cc;have bO:=G.get;have a7:=G.lt;obtain⟨bt,bw,a0,-⟩:=bR _ _ G;obtain⟨al,bg,bv,aZ⟩:=bT _ a7;obtain⟨U,ad⟩:=bE _ a7;obtain⟨H,n0,ai,ak,V,X,aP,am⟩:=mX b2 bO;rw[FT.EI]at V;rw[FT.vF]at X;have bQ:=FT.eZ t aM;have bJ:=wz (yv:=yv) (L:=nl YS t) (y:=y2);have bK:=Dv (yv:=yv) (L:=nl YS t) (y:=y1);have cF:(nl YS t).length<=YS.length:=gD _ _;rw[a0]at U;rw[aZ]at ad;obtain⟨a,az⟩:∃a,a=below yv y1 (nl YS t):=⟨_,rfl⟩;obtain⟨b,aC⟩:∃b,b=upto yv y2 (nl YS t):=⟨_,rfl⟩;rw[<-aC]at bJ;rw[<-az]at bK;have cG:∃hi lo:Nat,hi=t.hi/\lo=t.lo:=⟨_,_,rfl,rfl⟩;obtain⟨hi,lo,a1,a2⟩:=cG;rw[<-a1]at X cE bQ;rw[<-a2]at V bQ;obtain⟨K,c⟩:∃K,K=t.root s:=⟨_,rfl⟩;obtain⟨d,hd⟩:∃d,d=t.top s:=⟨_,rfl⟩;rw[<-hd]at n0 ai ak am;rw[<-c]at U ad n0 ai ak V X aP am a7;have J:Hid (a=below yv y1 (nl YS t)/\b=upto yv y2 (nl YS t)/\hi=t.hi/\lo=t.lo/\K=t.root s/\d=t.top s/\(nl YS t).length<=1000000):=⟨az,aC,a1,a2,c,hd,aa⟩;rw[<-az,<-aC,<-c];have c5:a<=1000000/\b<=1000000:=aa;clear az aC a1 a2 c hd bO bJ bK cF;have aV:=af hS;have ca:=af av;have bp:=af bS;have cU:=af (ac.base W f D hS);have bb:=gX W _ au;simp only at bb;have aT:=af aZ;have cf:=af a0;obtain⟨nn,a8⟩:∃nn,nn=(nl YS t).length:=⟨_,rfl⟩;rw[<-a8]at U;have cg:=af a8;clear aZ a0 hS av bS bT bR cD b2 bE a8;obtain⟨R,aw⟩:∃R,R=down YS yv y1 y2 fr ub t:=⟨_,rfl⟩;rw[<-aw];rw[<-aw]at a4;have Y:=af aw;have bm:=af a4;clear a4;clear aw;go_enter func172,ntmps172
 go_upto_region 1 with fail
 obtain⟨w1,Z⟩:∃w1,w1=W.alloc (.cells #[ae fr,ae ub,.func (.func F) #[] cb] 245):=⟨_,rfl⟩;have ch:Hid (w1.heap[W.heap.size]? =some (.cells #[ae fr,ae ub,.func (.func F) #[] cb] 245 (0,0))):=by rw[Z];exact bV W _
 have aR:Hid (Below W.heap.size W w1):=by rw[Z];exact(aJ _ _).alloc (aB _) _
 have bW:W.heap.size<w1.heap.size:=by rw[Z];simp
 rw[<-Z];clear Z
 go_cut [11,12]from 11 (fun cO cP ap=>∃x y:Nat,cO=aj x/\cP=aj y/\Hid (ap.heap[x]? =some (.cells #[.int .u8 d.kind,ae d.l,ae d.r,ae lo,ae hi,ae 0,ae d.item] 163 (0,0)))/\
  Hid (ap.heap[y]? =some (.cells #[.slice bt nn bw,.slice al bg bv] 150 (0,0)))/\Hid (Below w1.heap.size w1 ap)/\w1.heap.size<=x/\w1.heap.size<=y)
 case first=>
  have g:=aR.o;have a3:=ah ((g.cell (p:=(ag tb 4)) bb).trans au);have bD:=ah ((g.cell (p:=(ag tb 5)) bb).trans aY);have dg:=ah ((g.cell (p:=(ag E (off+K*7))) H).trans n0);have dh:=ah ((g.cell (p:=(ag E (off+K*7+1))) H).trans ai);have di:=ah ((g.cell (p:=(ag E (off+K*7+2))) H).trans ak);have dj:=ah ((g.cell (p:=(ag E (off+K*7+3))) H).trans V);have dk:=ah ((g.cell (p:=(ag E (off+K*7+4))) H).trans X);have dl:=ah ((g.cell (p:=(ag E (off+K*7+5))) H).trans aP);have dm:=ah ((g.cell (p:=(ag E (off+K*7+6))) H).trans am);have df:=ah ((g.cell (p:=(ag gl (K*2))) bP).trans U);have j1:=ah ((g.cell (p:=(ag gl (K*2+1))) bP).trans ad);clear g au aY n0 ai ak V X aP am U ad;refine ax (fun W=>∃p:aS w1,W=p.W) [17] [(0,false),(1,false),(2,false),(3,true),(4,false),(5,false),(6,true),(7,false),(8,false),(9,false),(10,true),(11,false),(12,false),(13,true)] ⟨⟨_,(aJ _ _).drew⟩,rfl⟩ 4 ?_;refine iU 14 15 rfl rfl (fun K c=>?_) (fun K c=>?_)
  .go_simp;refine c _ _ (fun _ _=>⟨⟨_,(aJ _ w1).alloc (aB _) _|>.drew⟩,rfl⟩) ?_;clear c K;refine aH 15 rfl fun K c=>?_;go_simp;refine c _ _ (fun _ _=>⟨⟨_,((aJ _ w1).alloc (aB _) _).alloc aA _|>.drew⟩,rfl⟩) ?_;clear c K;refine aH 16 rfl fun K c=>?_;go_simp;refine c _ _ (fun _ _=>⟨⟨_,((aJ _ w1).alloc (aB _) _).alloc aA _|>.drew⟩,rfl⟩) ?_;clear c K;refine aI [17] ?_;go_wp2;go_meet;exact⟨w1.heap.size,w1.heap.size+1,rfl,rfl,Dn _ _ _,Dp _ _ _,((aJ _ w1).alloc (aB _) _).alloc aA _|>.drew,aB _,aa⟩
  .go_simp;refine c _ _ (fun _ _=>⟨⟨_,(aJ _ w1).alloc (aB _) _|>.drew⟩,rfl⟩) ?_;clear c K;refine aH 14 rfl fun K c=>?_;go_simp;refine c _ _ (fun _ _=>⟨⟨_,((aJ _ w1).alloc (aB _) _).alloc aA _|>.drew⟩,rfl⟩) ?_;clear c K;refine aH 16 rfl fun K c=>?_;go_simp;refine c _ _ (fun _ _=>⟨⟨_,((aJ _ w1).alloc (aB _) _).alloc aA _|>.drew⟩,rfl⟩) ?_;clear c K;refine aI [17] ?_;go_wp2;go_meet;exact⟨w1.heap.size+1,w1.heap.size,rfl,rfl,Dp _ _ _,Dn _ _ _,((aJ _ w1).alloc (aB _) _).alloc aA _|>.drew,aa,aB _⟩
 case rest=>
  obtain⟨x,y,rfl,rfl,ci,cj,bj,c8,c9⟩:=hcut;have aL:=(bj.o.block _ bW).trans ch.o;have T:=ci.o;have bc:=cj.o;have bi:wc.cell? (ag W.heap.size 0)=some (ae fr):=aF aL;have b0:wc.cell? (ag W.heap.size 1)=some (ae ub):=aF aL;have b1:wc.cell? (ag W.heap.size 2)=some (.func (.func F) #[] cb):=aF aL;have b4:wc.cell? (ag x 0)=some (.int .u8 d.kind):=aF T;have x1:wc.cell? (ag x 1)=some (ae d.l):=aF T;have x2:wc.cell? (ag x 2)=some (ae d.r):=aF T;have cQ:wc.cell? (ag x 3)=some (ae lo):=aF T;have cR:wc.cell? (ag x 4)=some (ae hi):=aF T;have b5:wc.cell? (ag y 0)=some (.slice bt nn bw):=aF bc;have b6:wc.cell? (ag y 1)=some (.slice al bg bv):=aF bc;have n:Hid (Below W.heap.size W wc):=aR.o.trans (bj.o.mono aR.o.size);have ar:Hid (S wc f D):=ac.jT _ _ _ _ aV.o n.o;have M:=af ac;clear T bc aL au aY n0 ai ak V X aP am U ad ac;have bU:=gX _ _ b4;have cJ:=gX _ _ b5;have a9:=gX _ _ bi;by_cases Q:b<=a\/hi<=fr\/ub<=lo
  .have j:down YS yv y1 y2 fr ub t=([],1):=by
    obtain⟨w,z,O,P,-⟩:=J.o;rw[w,z,O,P]at Q;exact wB Q
   have aU:Hid (SK S W D (f++R.1) R.2 (.returned (ae 1)) wc):=by
    rw[Y.o,j];show SK S W D (f++[]) 1 _ _;rw[iO];exact⟨rfl,D,ar.o,fun k h=>.inl h,(ay.refl _ _).below n.o⟩
   clear j;have done:True:=trivial;by_cases cZ:b<=a
   .have d1:decide ((a:Int)>=(b:Int))=true:=aG;have d2:decide ((b:Int)<=(a:Int))=true:=aG;have d3:decide (b<=a)=true:=aG;go_wp2;go_ret;exact aU.o
   .have d1:decide ((a:Int)>=(b:Int))=false:=aG;have d2:decide ((b:Int)<=(a:Int))=false:=aG;have d3:decide (b<=a)=false:=aG;by_cases c0:hi<=fr
    .have w:decide ((hi:Int)<=(fr:Int))=true:=aG;have z:decide (hi<=fr)=true:=aG;go_wp2;go_ret;exact aU.o
    .have w:decide ((hi:Int)<=(fr:Int))=false:=aG;have z:decide (hi<=fr)=false:=aG;have f1:decide ((lo:Int)>=(ub:Int))=true:=aG;have f2:decide ((ub:Int)<=(lo:Int))=true:=aG;have f3:decide (ub<=lo)=true:=aG;go_wp2;go_ret;exact aU.o
  .have d1:decide ((a:Int)>=(b:Int))=false:=aG;have d2:decide ((b:Int)<=(a:Int))=false:=aG;have d3:decide (b<=a)=false:=aG;have w:decide ((hi:Int)<=(fr:Int))=false:=aG;have z:decide (hi<=fr)=false:=aG;have f1:decide ((lo:Int)>=(ub:Int))=false:=aG;have f2:decide ((ub:Int)<=(lo:Int))=false:=aG;have f3:decide (ub<=lo)=false:=aG;by_cases aD:fr<=lo/\hi<=ub
   .have g1:decide ((lo:Int)>=(fr:Int))=true:=aG;have bA:decide ((fr:Int)<=(lo:Int))=true:=aG;have bC:decide (fr<=lo)=true:=aG;have a3:decide ((hi:Int)<=(ub:Int))=true:=aG;have bD:decide (hi<=ub)=true:=aG;have j:down YS yv y1 y2 fr ub t=(((nl YS t).take b).drop a,1):=by
     obtain⟨w,z,O,P,-⟩:=J.o;rw[w,z,O,P]at Q;rw[O,P]at aD;rw[EL Q aD,w,z];congr 1;exact(Du (ba.filter _) y1 y2 cI).symm
    have aq:=af j;have C:=M.o.told wc f D t s a b ar.o G aa (by rw[J.o.2.1];exact wz) (by have h9:=bm.o;rw[Y.o,j]at h9;exact h9);rw[aT.o,cf.o,<-cg.o]at C;have cW:=M.o.enters;clear j
    go_wp2_with (go_at_fn F;refine C.mono ?_;rintro e w' ⟨rfl,b8,cy,cs,cv⟩)
    have cd:=af cs;go_wp2;go_ret;have e:=aq.o;rw[<-Y.o]at e;rw[e];exact⟨rfl,b8,cy,fun k h=>(cd.o k h).imp id (fun h9=>bB n.o.size h9),((ay.refl (fun k=>D k\/W.heap.size<=k) W).below n.o|>.trans (cv.mono fun k h=>.inl h)).strip⟩
   .have cr:(decide ((lo:Int)>=(fr:Int))=true/\decide ((hi:Int)<=(ub:Int))=false)\/decide ((lo:Int)>=(fr:Int))=false:=aG;obtain⟨l,r,rfl⟩:∃l r,t=.node l r:=by
     cases t with
     |leaf q=>
      obtain⟨-,-,O,P,-⟩:=J.o;simp only[FT.hi]at O;simp only[FT.lo]at P;omega
     |node l r=>exact⟨l,r,rfl⟩
    obtain⟨al',cV,bx,b3⟩:=ca.o.Bp l r s G;rw[aT.o]at bx;injection bx with co cp cq;subst co cp cq;obtain⟨aN,aO,bd,be,cK,id,de⟩:=J.o;have j:down YS yv y1 y2 fr ub (.node l r)=((down YS yv y1 y2 fr ub l).1++(down YS yv y1 y2 fr ub r).1,1+(down YS yv y1 y2 fr ub l).2+(down YS yv y1 y2 fr ub r).2):=by
     rw[aN,aO,bd,be]at Q;rw[bd,be]at aD;exact yx Q aD
    obtain⟨aW,ck⟩:=EK (yv:=yv) l r aM ba y1;obtain⟨aX,cm⟩:=F6 (yv:=yv) l r aM ba y2;rw[<-aN]at aW ck;rw[<-aO]at aX cm;have cA:a<(lf l.hi (nl YS (.node l r))).length:=by rw[rY,aN];have:=Dv (yv:=yv) (L:=nl YS (.node l r)) (y:=y1);omega
    have cC:b<(lf l.hi (nl YS (.node l r))).length:=by rw[rY,aO];have:=wz (yv:=yv) (L:=nl YS (.node l r)) (y:=y2);omega
    obtain⟨u,bu,rfl,c4,a6⟩:=b3.get aa;have an:=a6 a cA;have ao:=a6 b cC;rw[qg,aW]at an;rw[qg,aX]at ao;have bM:d.l=((l.root s:Nat):Int):=by rw[id];show((s+l.size:Nat):Int)-1=_;unfold FT.root;have:=l.size_pos;omega
    have bN:d.r=((r.root (s+l.size):Nat):Int):=by rw[id];show((s+l.size+r.size:Nat):Int)-1=_;unfold FT.root;have:=r.size_pos;omega
    rw[bM]at x1;rw[bN]at x2;have c6:=G.left.lt;have c7:=G.right.lt;have bs:=bp.o l r rfl;have aq:=af j;generalize l.root s=kl at*;generalize r.root (s+l.size)=kr at*;generalize below yv y1 (nl YS l)=bX at*;generalize below yv y1 (nl YS r)=cM at*;generalize upto yv y2 (nl YS l)=lb at*;generalize upto yv y2 (nl YS r)=cN at*;clear a6 aT b3;generalize(lf l.hi (nl YS (.node l r))).length=bg at*;have cX:(a:Int)-(bX:Int)=(cM:Int):=aa;have cY:(b:Int)-(lb:Int)=(cN:Int):=aa;have bq:=af bs;have a5:=M.o.base _ _ _ ar.o;have an:=(a5.cell (p:=(ag u (bu+a))) (show u<B by omega)).trans an;have ao:=(a5.cell (p:=(ag u (bu+b))) (show u<B by omega)).trans ao;have ab:=M.o.lt _ _ _ aV.o;have bZ:¬D x:=fun h=>by have:=(ab x h).2;omega
    have cL:¬D y:=fun h=>by have:=(ab y h).2;omega
    have bh:¬D W.heap.size:=fun h=>by have:=(ab _ h).2;omega
    have bY:¬D u:=fun h=>by have:=(ab u h).1;omega
    have bL:u<wc.heap.size:=by have:=a5.size;omega
    clear j ab bs aW aX aN aO bd be cK id bM bN bp
    go_upto_block 0 with fail
    go_cut []from 27 (fun ap=>ap=wc)
    case first=>
     rcases cr with⟨g1,bA⟩|g1
     .have bC:decide ((fr:Int)<=(lo:Int))=true:=aQ g1;have a3:decide (fr<=lo)=true:=aQ g1;have bD:decide (hi<=ub)=false:=aQ bA;go_wp2;go_meet;rfl
     .have bC:decide ((fr:Int)<=(lo:Int))=false:=aQ g1;have a3:decide (fr<=lo)=false:=aQ g1;go_wp2;go_meet;rfl
    case rest=>
     subst hcut
     go_upto_region 7 with fail
     have m:∀{bk o:Nat} {v:Value},bk<wc.heap.size->¬D bk->wc.cell? (ag bk o)=some v->∀p:wH D wc,p.W.cell? (ag bk o)=some v:=fun cB hd cH p=>((cz p.h cB hd).1 _).trans cH;have m0:=m a9 bh bi;have m1:=m a9 bh b0;have m2:=m a9 bh b1;have m3:=m bU bZ x1;have m4:=m bU bZ x2;have dn:=m cJ cL b6;have dp:=m bL bY an;have dq:=m bL bY ao;clear m bi b0 b1 b4 x1 x2 cQ cR b5 b6 an ao;refine ax (fun W=>∃p:wH D wc,W=p.W) [34,35,36] [(0,false),(1,false),(2,true),(3,false),(4,true),(5,false),(6,false),(7,true),(8,false),(9,true),(10,false),(11,false),(12,true),(13,true),(16,false),(17,false),(18,true),(19,false),(20,false),(21,true),(22,false),(23,false),(24,true),(25,false),(26,false),(27,false),(28,true),(29,false),(30,false),(31,true),(32,false),(33,true)] ⟨⟨_,(ay.refl _ _).drew⟩,rfl⟩ 5 ?_;have bn:Hid ((f++(down YS yv y1 y2 fr ub l).1)++(down YS yv y1 y2 fr ub r).1 <+: I):=by
      have h9:=bm.o;rw[Y.o,aq.o]at h9;show _ <+: _;rw[dY];exact h9
     have ce:Hid (f++(down YS yv y1 y2 fr ub l).1 <+: I):=(List.prefix_append _ _).trans bn.o;have br:S wc.drew f D:=M.o.jT _ _ _ _ ar.o (aJ _ _).drew;refine aH 14 rfl fun K c=>?_;refine bf Gf rfl _ _ rfl (vals:=#[aj tb,ae kl,ae bX,ae lb,.agg #[ae fr,ae ub,.func (.func F) #[] cb]]) rfl (bq.o.1 _ _ _ br ce.o) ?_;rintro e w2 ⟨rfl,cS,bH,bF,bG⟩;have aE:ay D wc w2:=(ay.refl _ wc).drew.trans bG;refine⟨_,rfl,c _ _ (fun _ _=>⟨⟨_,aE⟩,rfl⟩) ?_⟩;clear c K;refine bz [(15,false)] ⟨⟨_,aE⟩,rfl⟩ rfl ?_;refine aI [34,35,36] ?_;have b7:=bq.o.2 _ _ _ bH bn.o;have bo:=af aE;have bl:=af bF;have cT:=af (M.o.lt _ _ _ aV.o);clear aE bF bG bH br
     go_wp2_with (go_at_call 172;refine b7.mono ?_;rintro e w3 ⟨rfl,b9,bI,ct,cw⟩)
     have bW:=mr (YS:=YS) (yv:=yv) (y1:=y1) (y2:=y2) (fr:=fr) (ub:=ub) l;have da:=mr (YS:=YS) (yv:=yv) (y1:=y1) (y2:=y2) (fr:=fr) (ub:=ub) r;have db:=FT.size_eq _ aM;have dc:(FT.node l r).size=l.size+r.size+1:=rfl;have dd:=J.o.2.2.1;have e:=aq.o;rw[<-Y.o]at e;rw[e];have cu:=af ct;have cx:ay (fun k=>D k\/W.heap.size<=k) W w3:=
      (((ay.refl (fun k=>D k\/W.heap.size<=k) W).below n.o).trans (bo.o.mono fun k h=>.inl h)).trans (cw.mono fun k h=>by
       rcases bl.o k h with h9|h9
       .exact .inl h9
       .right;have:=n.o.size;simp at h9;omega)
     rw[dY]at bI;go_ret;refine⟨?_,b9,bI,fun k h=>?_,cx.strip⟩
     .refine congrArg Ending.returned ?_;show ae (wrap64 (wrap64 (1+((down YS yv y1 y2 fr ub l).2:Int))+((down YS yv y1 y2 fr ub r).2:Int)))=_;generalize(down YS yv y1 y2 fr ub l).2=A at*;generalize(down YS yv y1 y2 fr ub r).2=B at*;have av:A<=2000000:=aa;have c1:B<=2000000:=aa;rw[NN (1+(A:Int)) aa,NN _ aa];exact congrArg _ aa
     .rcases cu.o k h with h9|h9
      .rcases bl.o k h9 with h8|h8
       .exact .inl h8
       .right;have:=n.o.size;simp at h8;omega
      .right;have:=bo.o.size;have:=n.o.size;omega
theorem LA (F:Nat) (cb:Array Value) (N:List Nd) (nm:Nat->Int) (YS:List Nat) (LN LL:Nat->Value) (tb B:Nat) (w0:World) (S:World->List Nat->(Nat->Prop)->Prop) (yv:Nat->Int) (y1 y2:Int) (fr ub:Nat)
  (g:w0.heap.size<=B) (d:List Nat) (m:Told F cb N YS LN LL B w0 d S) (h:I5 w0 tb N nm YS LN LL) (o:YS.Pairwise fun i k=>yv i<=yv k) (p:y1<=y2) (j:N.length<=1000000) (n:YS.length<=1000000) (ji:fr<=1000000) (l7:ub<=1000000):
  ∀(t:FT) (s:Nat),FT.At N t s->t.wf->t.hi<=1000000->∀(W:World) (a:List Nat) (D:Nat->Prop),S W a D->a++(down YS yv y1 y2 fr ub t).1 <+: d->
  aK 172 #[aj tb,ae (t.root s:Nat),ae (below yv y1 (nl YS t):Nat),ae (upto yv y2 (nl YS t):Nat),.agg #[ae fr,ae ub,.func (.func F) #[] cb]] W (SK S W D (a++(down YS yv y1 y2 fr ub t).1) (down YS yv y1 y2 fr ub t).2):=by
 intro t
 induction t with
 |leaf x=>exact fun s c b f W a D hS hF=>Bq F cb N nm YS LN LL tb B w0 S yv y1 y2 fr ub g d m h o p j n ji l7 _ s W a D c b f hS hF (fun l r e=>by cases e)
 |node l r q u=>
  intro s c b f W a D hS hF;refine Bq F cb N nm YS LN LL tb B w0 S yv y1 y2 fr ub g d m h o p j n ji l7 _ s W a D c b f hS hF fun l' z e=>?_;cases e;have v:=FT.eZ r b.2.1;have w:=b.2.2;have y:(FT.node l r).hi=r.hi:=rfl;exact⟨fun W a D hS hF=>q s c.left b.1 aa W a D hS hF,fun W a D hS hF=>u _ c.right b.2.1 aa W a D hS hF⟩
end
section
open Go.RowKit
section
variable {P:Program} {ops:Array Oper} {rest:List Oper} {o:Oper} {a:Act} {Q:Exit->Act->World->Prop}
theorem EP {α:Type} {enc:α->List Value} {sz:Nat} {W:World} {ad:Option Addr} {l:List α} {c:Nat} (g:bW enc sz W ad l) (i:l.length<=c) (lo hi:Nat) (j:hi<=l.length):
  bW enc sz W (if c=lo then ad else ad.map (·.add (lo*sz))) ((l.take hi).drop lo):=by
 by_cases h:c=lo
 .exact .inl (by rw[List.drop_eq_nil_iff,eQ];omega)
 .rw[aN h];rcases g with rfl|⟨b,off,rfl,e,f⟩
  .exact .inl aA
  .have a:bW enc sz W (some (ag b off)) l:=.inr ⟨b,off,rfl,e,f⟩;have d:((ag b off):Addr).add (lo*sz)=(ag b (off+lo*sz)):=by unfold Addr.add;split<;>simp_all
   simp only[fQ,d];exact(a.take hi).drop lo
theorem LB {α:Type} {enc:α->List Value} {sz:Nat} {t e:TypeId} {bytes:Nat} (s:eH P t e sz bytes) {W:World} {ad:Option Addr} {l:List α} {c:Nat} (B:bW enc sz W ad l) (w:l.length<=c) (lo hi:Nat) (q:lo<=hi) (u:hi<=l.length)
  (y:o.guard=none) (x:Operand) (n f:Option Operand) (j:o.op=.slice t x n f none) (m:a.eval x=.slice ad l.length c)
  (g:(n.map a.eval).getD (.int .i64 0)=.int .i64 lo) (b:(f.map a.eval).getD (.int .i64 l.length)=.int .i64 hi)
  (h:∀p,bW enc sz W p ((l.take hi).drop lo)->wpList P ops Q rest (a.put o.dst (.slice p (hi-lo) (c-lo))) W):wpList P ops Q (o::rest) a W:=by
 obtain⟨ht,⟨i,z,A,F,C,D,G⟩,E⟩:=s;refine wpList_plain y fun K v=>?_;have d:=v _ _ (h _ (EP B w lo hi u));have hu:∀W',(underlying t).run P W'=.ok (.slice e) W':=fun W'=>pQ ht W';have k:∀W',(sizeOf e).run P W'=.ok sz W':=fun W'=>by simp[sizeOf,typeInfo,A,C]
 unfold Oper.wp execOp;have r:hi<=c:=aa;rcases n with _|lw
 .simp only[lK,mR,pM,qd]at g;obtain rfl:lo=0:=aa;rcases f with _|hg
  .simp only[lK,mR,pM,qd]at b;obtain rfl:hi=l.length:=aa;simp only[j,m,lK,Instr.sliceAt,Instr.slice,Instr.sliceBounds,yh,hu,k,xX,yj];exact d
  .simp only[fQ,gI]at b;simp[j,m,b,Instr.sliceAt,Instr.slice,Instr.sliceBounds,Instr.sliceBound,hu,k,asIntOf,r];simp only[Nat.zero_mul,Nat.sub_zero]at d;exact d
 .simp only[fQ,gI]at g;rcases f with _|hg
  .simp only[lK,mR,pM,qd]at b;obtain rfl:hi=l.length:=aa;simp[j,m,g,Instr.sliceAt,Instr.slice,Instr.sliceBounds,Instr.sliceBound,hu,k,asIntOf,q];exact d
  .simp only[fQ,gI]at b;simp[j,m,g,b,Instr.sliceAt,Instr.slice,Instr.sliceBounds,Instr.sliceBound,hu,k,asIntOf,q,r];exact d
end
end
section
open Go Go.RowKit
end
end Go.Proofs.YtkjdbndekceffaaGreat
