/- Made small by a program. -/
import Derived.Test.YtkjdbndekceffaaGreatW02
set_option linter.unusedSimpArgs false
set_option linter.unusedVariables false
set_option maxRecDepth 100000
set_option maxHeartbeats 16000000
namespace Go.Proofs.YtkjdbndekceffaaGreat
open Tryz
section
open Go.RowKit
def cz {α:Type} (enc:α->List Value) (sz:Nat) (w:World) (a:Option Addr) (l:List α):Prop:=
 l=[]\/∃b off,a=some (ae b off)/\b<w.heap.size/\∀i (h:i<l.length) j,j<sz->w.cell? (ae b (off+i*sz+j))=(enc l[i])[j]?
section
variable {α:Type} {enc:α->List Value} {sz:Nat} {w w':World} {a:Option Addr} {l:List α}
theorem cz.below {B:Nat} (h:cz enc sz w a l) (c:Below B w w') (e:w.heap.size<=B:=by first|exact ay _|(simp;done)|(simp;omega)):cz enc sz w' a l:=by
 rcases h with h|⟨b,off,rfl,d,f⟩
 .exact .inl h
 .exact .inr ⟨b,off,rfl,bB d c.size,fun i hi j g=>by rw[c.cell (p:=(ae b (off+i*sz+j))) (bB d e)];exact f i hi j g⟩
theorem cz.get (h:cz enc sz w a l) (c:0<l.length):
  ∃b off,a=some (ae b off)/\b<w.heap.size/\∀i (h:i<l.length) j,j<sz->w.cell? (ae b (off+i*sz+j))=(enc l[i])[j]? :=by
 rcases h with rfl|h
 .simp at c
 .exact h
theorem cz.take (h:cz enc sz w a l) (k:Nat):cz enc sz w a (l.take k):=by
 rcases h with rfl|⟨b,off,rfl,c,d⟩
 .exact .inl (by simp)
 .exact .inr ⟨b,off,rfl,c,fun i hi j e=>by rw[wT];exact d i (by simp at hi;omega) j e⟩
theorem cz.drop {b off:Nat} (h:cz enc sz w (some (ae b off)) l) (k:Nat):cz enc sz w (some (ae b (off+k*sz))) (l.drop k):=by
 rcases h with h|⟨e,f,h,a,c⟩
 .exact .inl (by rw[h];simp)
 .cases h;exact .inr ⟨b,off+k*sz,rfl,a,fun i hi j d=>by
   rw[List.getElem_drop,show off+k*sz+i*sz+j=off+(k+i)*sz+j by rw[oU];omega];exact c (k+i) (by simp at hi;omega) j d⟩
theorem fQ (a:∀x,(enc x).length=sz):∀l:List α,(l.flatMap enc).length=l.length*sz
 |[]=>by simp
 |x::l=>by
  rw[lq,bq,a,fQ a l,dY,oU];omega
theorem flat_get (a:∀x,(enc x).length=sz):∀(l:List α) (i:Nat) (h:i<l.length) (j:Nat),j<sz->(l.flatMap enc)[i*sz+j]? =(enc l[i])[j]?
 |x::l,0,_,j,b=>by
  rw[lq,kY (by rw[a];omega)];simp
 |x::l,i+1,h,j,b=>by
  rw[lq,mG (by rw[a,oU];omega),a,show(i+1)*sz+j-sz=i*sz+j by rw[oU];omega];exact flat_get a l i (by simpa using h) j b
theorem cz.aC (f:∀x,(enc x).length=sz) {base:Nat} {e:TypeId} {v:Value} {n:Nat} (t:0<sz) (h:w.ownsRow base e sz v n (l.flatMap enc)):
  ∃a c,v=.slice a l.length c/\n=l.length/\l.length<=c/\cz enc sz w a l:=by
 have⟨k,h⟩:=h;rw[fQ f]at k;have s:n=l.length:=Nat.eq_of_mul_eq_mul_right t k.symm;subst s;rcases h with⟨rfl,o⟩|⟨g,m,u,rfl,y,d,p,z,A,ht⟩
 .have:l=[]:=gJ o;subst this;exact⟨none,0,rfl,rfl,ay _,.inl rfl⟩
 .refine⟨_,m,rfl,rfl,p,.inr ⟨g,0,rfl,(aZ.1 d).1,fun i hi j q=>?_⟩⟩;have b:=flat_get f l i hi j q;rw[<-ht,tK]at b;have r:i*sz+j<l.length*sz:=bB (show i*sz+j<(i+1)*sz by rw[oU];omega) (oC _ hi);rw[aK r]at b;unfold World.cell?;simp only[d,jU];simpa using b
theorem cz.lit (b:∀x,(enc x).length=sz) (W:World) (e:TypeId) (l:List α) (n:Nat) (c:n=W.heap.size):cz enc sz (W.alloc (.cells (l.flatMap enc).toArray e)) (some (ae n 0)) l:=by
 refine .inr ⟨_,0,rfl,by simp;omega,fun i hi j a=>?_⟩;rw[ed _ _ _ _ c,jU];simpa using flat_get b l i hi j a
end
section
variable {P:Program} {ops:Array Oper} {rest:List Oper} {o:Oper} {a:Act} {Q:Exit->Act->World->Prop}
theorem iH {α:Type} {enc:α->List Value} {sz:Nat} {t e:TypeId} {bytes:Nat} (q:eH P t e sz bytes) (d:∀x,(enc x).length=sz) (E:∀x,∀u∈enc x,u.oneCell'=true) (base:Nat) {v:Value} {n:Nat} {xs:List Value} {W:World} (p:W.ownsRow base e sz v n xs) {ad:Option Addr} {l:List α} (O:cz enc sz W ad l)
  (w:o.guard=none) (s x:Operand) (B:o.op=.call {callee:=.builtin .append,args:=#[s,x],argTypes:=#[t,t]})
  (C:a.eval s=v) (c:Nat) (D:a.eval x=.slice ad l.length c) (F:n+l.length<=maxLen) (L:(n+l.length)*bytes<=140737488355328) (I:base<=W.heap.size)
  (h:∀m w',w'.ownsRow base e sz m (n+l.length) (xs++l.flatMap enc)->W.grownBy w' v.ownBlock->wpList P ops Q rest (a.put o.dst m) w'):wpList P ops Q (o::rest) a W:=by
 rcases O with rfl|⟨b,off,rfl,Y,M⟩
 .refine wpList_plain w fun K G=>?_;have R:=jc (ty:=o.type) q p ad c;have T:a.eval x=.slice ad 0 c:=D;have d:=G _ _ (h v W (by simpa using p) ⟨rfl,rfl,rfl,ay _,fun _ _ _=>rfl⟩);unfold Oper.wp execOp;simp only[B,resolve,invoke,builtin,xe,xg,wU,Dn,lC,oN,C,T,R];exact d
 .obtain⟨ht,⟨i,z,hi,V,S,J,X⟩,k⟩:=q;refine wpList_append_own _ w s x t B base e i z sz bytes ht hi V S J X k v n xs C p (ae b off) l.length c (l.flatMap enc) D (fQ d l) ?_ ?_ F L I ?_
  .intro j u hu;have H:((ae b off):Addr).add j=(ae b (off+j)):=by unfold Addr.add;split<;>simp_all
   rw[H];have N:j<l.length*sz:=by
    have:=(fC.1 hu).1;rw[fQ d]at this;exact this
   have A:j/sz<l.length:=(GQ k).2 N;have f:=M (j/sz) A (j%sz) (nz _ k);have g:=flat_get d l (j/sz) A (j%sz) (nz _ k);have r:j/sz*sz+j%sz=j:=by rw[xh];exact Nat.div_add_mod j sz
   rw[r]at g;rw[wY,r]at f;rw[f,<-g];exact hu
  .intro u hu;have⟨y,_,U⟩:=wV.1 hu;exact E y u U
  .intro m w' f g _;exact h m w' f g
end
structure aT (w:World) where
 W:World
 h:Below w.heap.size w W
instance Q4 (w:World):Inhabited (aT w):=⟨⟨w,aB _ _⟩⟩
theorem bI {P:Program} {id:Nat} {Q:Exit->Act->World->Prop} {a:Act} {w:World} {l:List Oper} (c:P.follows .mixedOrders=true) (b:Region.lexB .any l.toArray=true)
  (h:wpQuiet P l.toArray (fun w'=>∃p:aT w,w'=p.W) (fun a'=>∀w',(∃p:aT w,w'=p.W)->Q .normal a' w') l a):(Code.region id l.toArray true).wp P Q a w:=
 wp_region_quiet (C:=fun w'=>∃p:aT w,w'=p.W) c b ⟨⟨w.drew,(aB _ _).drew⟩,rfl⟩ (by simpa using h)
theorem dC {P:Program} {f:FuncId} {args:Array Value} {w:World} {p:aT w} {v:Value}
  (h:Calls P f args p.W fun e w'=>e=.returned v/\Below p.W.heap.size p.W w'):Calls P f args p.W fun e c=>e=.returned v/\∃q:aT w,c=q.W:=
 h.mono fun _ w' ⟨b,a⟩=>⟨b,⟨w',p.h.trans (a.mono p.h.size)⟩,rfl⟩
theorem ag {w:World} {ad:Addr} {v:Value} (h:w.cell? ad=some v):∀p:aT w,p.W.cell? ad=some v:=fun p=>by
 rw[p.h.cell (gW w _ h)];exact h
def Jj (W:World) (v v':Value):Prop:=v'.ownBlock=v.ownBlock\/v'.ownBlock=some W.heap.size
theorem iY {P:Program} {t ty e:TypeId} {size bytes:Nat} (E:eH P t e size bytes) (base:Nat) {v:Value} {n:Nat} {xs:List Value} {w:World} (o:w.ownsRow base e size v n xs)
  (a:Addr) (m c:Nat) (b:List Value) (h:b.length=m*size) (l:∀j u,b[j]? =some u->w.cell? (a.add j)=some u) (y:∀u∈b,u.oneCell'=true)
  (A:n+m<=maxLen) (r:(n+m)*bytes<=140737488355328) (I:base<=w.heap.size):
  ∃k w',(Builtin.append_ #[t,t] ty #[v,.slice (some a) m c]).run P w=.ok k w'/\w'.ownsRow base e size k (n+m) (xs++b)/\w.grownBy w' v.ownBlock/\Jj w v k:=by
 obtain⟨ht,⟨i,z,hi,s,D,B,Q⟩,O⟩:=E;have⟨k,w',p,F,G,H⟩:=run_append_own (P:=P) w base t ty e i z size bytes ht hi s D B Q O v n xs o a m c b h l y A r I;refine⟨k,w',p,F,G,?_⟩;subst D;subst B;have U:n+m<=9223372036854775807:=by simp only[maxLen]at A;omega
 rcases o.2 with⟨rfl,rfl⟩|⟨g,q,x,rfl,R,L,T,S,J,V⟩
 .by_cases M:m=0
  .rw[H.2 ⟨rfl,M⟩];exact .inl rfl
  .have d:=run_append_nil (P:=P) w t ty e i z ht hi s a m c b h l (by omega) (by omega) (by simp only[jU]at r;omega);rw[p]at d;injection d with f _;rw[f];exact .inr rfl
 .by_cases C:n+m<=q
  .have K:n*i.size+b.length<=x.size:=by rw[h,J,<-oU];exact oC _ C
   have d:=run_append_room (P:=P) w t ty e i ht hi g n q x L a m c b h l y C K;rw[p]at d;injection d with f _;rw[f];exact .inl rfl
  .have N:∀j u,xs[j]? =some u->w.cell? (((ae g 0):Addr).add j)=some u:=o.cells (g:=g) rfl;have d:=run_append_grow (P:=P) w t ty e i z ht hi s (ae g 0) n q xs o.1 N a m c b h l (by omega) (by omega) (growslice_fits (by omega) r);rw[p]at d;injection d with f _;rw[f];exact .inr rfl
theorem gu {w:World} {o:Obj} {v a:Value} (h:Jj (w.alloc o) v a):a.ownBlock=v.ownBlock\/∃b,a.ownBlock=some b/\w.heap.size<=b:=by
 rcases h with h|h
 .exact .inl h
 .exact .inr ⟨_,h,by simp⟩
section
variable {P:Program} {ops:Array Oper} {rest:List Oper} {o:Oper} {a:Act} {Q:Exit->Act->World->Prop}
theorem bZ {t e:TypeId} {size bytes:Nat} (f:eH P t e size bytes) (base:Nat) {v:Value} {n:Nat} {xs:List Value} {W:World} (A:W.ownsRow base e size v n xs) (b:List Value) (F:b.length=size) (g:∀u∈b,u.oneCell'=true)
  (w:o.guard=none) (s x:Operand) (z:o.op=.call {callee:=.builtin .append,args:=#[s,x],argTypes:=#[t,t]})
  (C:a.eval s=v) (d:TypeId) (D:a.eval x=aj W.heap.size 1 1) (m:n+1<=maxLen) (r:(n+1)*bytes<=140737488355328) (E:base<=W.heap.size)
  (h:∀c w',w'.ownsRow base e size c (n+1) (xs++b)->W.grownBy w' v.ownBlock->Jj (W.alloc (.cells b.toArray d)) v c->wpList P ops Q rest (a.put o.dst c) w'):wpList P ops Q (o::rest) a (W.alloc (.cells b.toArray d)):=by
 refine wpList_plain w fun K p=>?_;have⟨c,w',B,i,k,l⟩:=iY (ty:=o.type) f base (A.alloc (.cells b.toArray d)) (ae W.heap.size 0) 1 1 b (by omega) (by
  intro j u hu;have q:((ae W.heap.size 0):Addr).add j=(ae W.heap.size j):=by unfold Addr.add;split<;>simp_all
  rw[q,ed _ _ _ _ (by rfl)];simpa using hu) g m r (by simp;omega)
 have y:=p _ _ (h c w' i (dN (qc W _ none) k) l);unfold Oper.wp execOp;simp only[z,resolve,invoke,builtin,xe,xg,wU,Dn,lC,oN,C,D,B];exact y
theorem mJ {α:Type} {enc:α->List Value} {sz:Nat} {t e:TypeId} {bytes:Nat} (k:eH P t e sz bytes) (d:∀x,(enc x).length=sz) (D:∀x,∀u∈enc x,u.oneCell'=true) (base:Nat) {v:Value} {n:Nat} {xs:List Value} {W:World} (m:W.ownsRow base e sz v n xs) {ad:Option Addr} {l:List α} (N:cz enc sz W ad l)
  (L:o.guard=none) (s x:Operand) (A:o.op=.call {callee:=.builtin .append,args:=#[s,x],argTypes:=#[t,t]})
  (B:a.eval s=v) (c:Nat) (C:a.eval x=.slice ad l.length c) (F:n+l.length<=maxLen) (I:(n+l.length)*bytes<=140737488355328) (H:base<=W.heap.size)
  (h:∀f w',w'.ownsRow base e sz f (n+l.length) (xs++l.flatMap enc)->W.grownBy w' v.ownBlock->Jj W v f->wpList P ops Q rest (a.put o.dst f) w'):wpList P ops Q (o::rest) a W:=by
 refine wpList_plain L fun K w=>?_;rcases N with rfl|⟨b,off,rfl,S,J⟩
 .have p:=jc (ty:=o.type) k m ad c;have O:a.eval x=.slice ad 0 c:=C;have d:=w _ _ (h v W (by simpa using m) ⟨rfl,rfl,rfl,ay _,fun _ _ _=>rfl⟩ (.inl rfl));unfold Oper.wp execOp;simp only[A,resolve,invoke,builtin,xe,xg,wU,Dn,lC,oN,B,O,p];exact d
 .obtain⟨f,w',p,g,i,E⟩:=iY (ty:=o.type) k base m (ae b off) l.length c (l.flatMap enc) (fQ d l) (by
   intro j u hu;have G:((ae b off):Addr).add j=(ae b (off+j)):=by unfold Addr.add;split<;>simp_all
   rw[G];have M:j<l.length*sz:=by
    have:=(fC.1 hu).1;rw[fQ d]at this;exact this
   have q:0<sz:=k.hsz;have z:j/sz<l.length:=(GQ q).2 M;have g:=J (j/sz) z (j%sz) (nz _ q);have i:=flat_get d l (j/sz) z (j%sz) (nz _ q);have r:j/sz*sz+j%sz=j:=by rw[xh];exact Nat.div_add_mod j sz
   rw[r]at i;rw[wY,r]at g;rw[g,<-i];exact hu) (by
   intro u hu;have⟨y,_,R⟩:=wV.1 hu;exact D y u R) F I H
  have d:=w _ _ (h f w' g i E);unfold Oper.wp execOp;simp only[A,resolve,invoke,builtin,xe,xg,wU,Dn,lC,oN,B,C,p];exact d
end
def O0 {α:Type} (S:List α) (k:Nat) (x:α):List α:=S.take k++x::S.drop k
section
variable {α:Type} (S:List α) (k:Nat) (x:α)
theorem Mt (h:k<=S.length):(O0 S k x).length=S.length+1:=by simp[O0];omega
theorem Sv (a:0<k) (h:k<=S.length):(O0 S k x)[k-1]'(by rw[Mt S k x h];omega)=S[k-1]:=by
 unfold O0;rw[p9 (by simp;omega)];simp
theorem Kn (a:0<k) (h:k<=S.length):S.drop (k-1)=S[k-1]::S.drop k:=by
 have:=kZ (show k-1<S.length by omega);rw[show k-1+1=k by omega]at this;exact this
end
theorem aQ {w:World} {base:Nat} {e:TypeId} {size:Nat} {v:Value} {n:Nat} {xs:List Value} (h:w.ownsRow base e size v n xs) (k:0<n):∃g c,v=aj g n c/\base<=g/\g<w.heap.size/\n<=c/\c<=maxLen:=by
 rcases h.2 with⟨_,l⟩|⟨g,a,j,rfl,b,d,f,i,_⟩
 .omega
 .exact⟨g,a,rfl,b,(aZ.1 d).1,f,i⟩
theorem aV {w w':World} {base:Nat} {e:TypeId} {size n:Nat} {v:Value} {xs:List Value} (h:w.ownsRow base e size v n xs) (i:∀a,v.ownBlock=some a->w'.heap[a]? =w.heap[a]?):w'.ownsRow base e size v n xs:=by
 have⟨d,f⟩:=h;refine⟨d,?_⟩;rcases f with h|⟨g,b,c,rfl,j,k,r⟩
 .exact .inl h
 .exact .inr ⟨g,b,c,rfl,j,(i g rfl).trans k,r⟩
theorem az {w:World} {a:Addr} {v:Value} {b:Nat} (h:a.block≠b):(w.setCell a v).heap[b]? =w.heap[b]? :=Below.heap_setCell w a v b (iG h)
theorem lH {w:World} {base g n c m:Nat} {e:TypeId} {size:Nat} {xs:List Value} (h:w.ownsRow base e size (aj g n c) n xs) (p:m<=n):w.ownsRow base e size (aj g m c) m (xs.take (m*size)):=by
 have⟨f,i⟩:=h;have o:m*size<=n*size:=oC _ p;refine⟨by rw[eB,f];omega,?_⟩;rcases i with⟨h,_⟩|⟨u,s,b,j,k,l,v,r,q,ht⟩
 .cases h
 .injection j with a t d;injection a with a;injection a with a _ _;subst a d;refine .inr ⟨g,c,b,rfl,k,l,by omega,r,q,?_⟩;have:=congrArg (List.take (m*size)) ht;rw[zL,Nat.min_eq_left o]at this;exact this
theorem oZ {α:Type} {enc:α->List Value} {sz:Nat} (a:∀x,(enc x).length=sz):∀(l:List α) (m:Nat),(l.flatMap enc).take (m*sz)=(l.take m).flatMap enc
 |[],m=>by simp
 |x::l,0=>by simp
 |x::l,m+1=>by
  rw[lq,List.take_succ_cons,lq,oU,Nat.one_mul,Nat.add_comm,<-a x,List.take_length_add_append,a x,oZ a l m]
structure au (S:Nat->Prop) (W w':World):Prop where
 os:w'.os=W.os
 tape:w'.tape=W.tape
 output:w'.output=W.output
 size:W.heap.size<=w'.heap.size
 block:∀k,k<W.heap.size->¬S k->w'.heap[k]? =W.heap[k]?
theorem au.refl (S:Nat->Prop) (W:World):au S W W:=⟨rfl,rfl,rfl,ay _,fun _ _ _=>rfl⟩
theorem au.trans {S:Nat->Prop} {W w1 w2:World} (h:au S W w1) (a:au S w1 w2):au S W w2:=
 ⟨a.os.trans h.os,a.tape.trans h.tape,a.output.trans h.output,bJ h.size a.size,fun k b c=>(a.block k (bB b h.size) c).trans (h.block k b c)⟩
theorem au.below {S:Nat->Prop} {W w1 w2:World} (h:au S W w1) (a:Below w1.heap.size w1 w2):au S W w2:=
 ⟨a.os.trans h.os,a.tape.trans h.tape,a.output.trans h.output,bJ h.size a.size,fun k b c=>(a.block k (bB b h.size)).trans (h.block k b c)⟩
theorem au.grown {S:Nat->Prop} {W w1 w2:World} {r:Option Nat} (h:au S W w1) (a:w1.grownBy w2 r) (d:∀k,r=some k->S k\/W.heap.size<=k):au S W w2:=
 ⟨a.os.trans h.os,a.tape.trans h.tape,a.output.trans h.output,bJ h.size a.size,fun k b c=>(a.block k (bB b h.size) (fun e=>by rcases d k e.symm with h9|h9;exact c h9;omega)).trans (h.block k b c)⟩
theorem au.set {S:Nat->Prop} {W w1:World} (h:au S W w1) {a:Addr} (v:Value) (c:S a.block\/W.heap.size<=a.block):au S W (w1.setCell a v):=
 ⟨h.os,h.tape,h.output,by simpa using h.size,fun k d b=>(az (fun e=>by rcases c with h9|h9;exact b (e▸h9);omega)).trans (h.block k d b)⟩
theorem au.drew {S:Nat->Prop} {W w1:World} (h:au S W w1):au S W w1.drew:=⟨h.os,h.tape,h.output,h.size,h.block⟩
theorem au.mono {S S':Nat->Prop} {W w1:World} (h:au S W w1) (d:∀k,S k->S' k):au S' W w1:=⟨h.os,h.tape,h.output,h.size,fun k c b=>h.block k c fun a=>b (d k a)⟩
theorem au.toBelow {S:Nat->Prop} {B:Nat} {W w1:World} (h:au S W w1) (c:B<=W.heap.size) (b:∀k,S k->B<=k):Below B W w1:=⟨h.os,h.tape,h.output,h.size,fun k d=>h.block k (by omega) fun a=>by have:=b k a;omega⟩
theorem bL {w:World} {base b:Nat} {e:TypeId} {size:Nat} {v:Value} {n:Nat} {xs:List Value} (h:w.ownsRow base e size v n xs) (i:b<=base):w.ownsRow b e size v n xs:=by
 have⟨f,a⟩:=h;refine⟨f,?_⟩;rcases a with a|⟨g,c,d,k,j,r⟩
 .exact .inl a
 .exact .inr ⟨g,c,d,k,bJ i j,r⟩
section
variable {P:Program} {ops:Array Oper} {o:Oper} {a:Act} {K:Act->World->Prop} {Q:Exit->Act->World->Prop} {E0:Prop}
theorem bH {t e j:TypeId} {size bytes:Nat} {fr:Nat×Nat} (f:eH P t e size bytes) (base:Nat) {v:Value} {n:Nat} {xs:List Value} {w:World} (B:w.ownsRow base e size v n xs) (b:List Value) (I:b.length=size) (k:∀u∈b,u.oneCell'=true)
  (y:o.guard=none) (s x:Operand) (A:o.op=.call {callee:=.builtin .append,args:=#[s,x],argTypes:=#[t,t]}) (C:a.eval s=v) (c:Nat) (F:a.eval x=aj c 1 1) (r:w.heap[c]? =some (Obj.cells b.toArray j fr))
  (l:n+1<=maxLen) (q:(n+1)*bytes<=140737488355328) (m:base<=w.heap.size)
  (h:∀g d w',w'.ownsRow base e size (aj g (n+1) d) (n+1) (xs++b)->w.grownBy w' v.ownBlock->(v.ownBlock=some g\/g=w.heap.size)->g<w'.heap.size->K (a.put o.dst (aj g (n+1) d)) w'):
  if Region.wanted o (yielded ops a.tmps)=true then Oper.wp P o a w K Q else E0:=by
 obtain⟨ht,⟨i,z,hi,G,D,p,H⟩,E⟩:=f;exact step_append_lies w y s x t A base e i z size bytes ht hi G D p H E v n xs C B (ae c 0) 1 1 b F (by omega) (tH (cs:=b.toArray) r) k (by decide) l q m w.heap.size rfl h
theorem bg {f:FuncId} {w:World} {vals:Array Value} {R:Ending->World->Prop} (g:∀args w,(callFunc f args).run P w=.ok (.enter f args) w) (i:o.guard=none) (args:Array Operand) (n:Array TypeId) (k:o.op=.call {callee:=.value (.func f),args:=args,argTypes:=n}) (c:vals=(args.toList.map a.eval).toArray)
  (C:Calls P f vals w R) (h:∀e w',R e w'->∃v,e=.returned v/\K (a.put o.dst v) w'):
  if Region.wanted o (yielded ops a.tmps)=true then Oper.wp P o a w K Q else E0:=by
 have m:Region.wanted o (yielded ops a.tmps)=true:=by simp[Region.wanted,i]
 rw[aK m];unfold Oper.wp;have b:args.map a.eval=vals:=by rw[c,<-Dp]
 have d:(execOp a.eval o).run P w=.ok (.enter f vals) w:=by
  simp[execOp,k,resolve,invoke,b,Act.eval,Deferred.ofValue,g]
 rw[d,Oper.upon_enter];refine C.mono fun e w' l=>?_;obtain⟨v,rfl,j⟩:=h e w' l;exact j
end
theorem au.alloc {S:Nat->Prop} {W w1:World} (h:au S W w1) (o:Obj):au S W (w1.alloc o):=h.below ((aB _ _).alloc (ay _) _)
theorem aS {S:Nat->Prop} {W W':World} {base:Nat} {e:TypeId} {sz:Nat} {v:Value} {n:Nat} {xs:List Value} (h:W.ownsRow base e sz v n xs) (K:au S W W') (hS:∀a,v.ownBlock=some a->¬S a):W'.ownsRow base e sz v n xs:=
 aV h fun a e=>K.block a (h.lt a e).2 (hS a e)
theorem bF {S:Nat->Prop} {W W':World} (K:au S W W') {b:Nat} {o:Obj} (h:W.heap[b]? =some o) (hS:¬S b):W'.heap[b]? =some o:=(K.block b (aZ.1 h).1 hS).trans h
theorem cu {S:Nat->Prop} {W W':World} (K:au S W W') {b:Nat} (a:b<W.heap.size) (hS:¬S b):(∀o,W'.cell? (ae b o)=W.cell? (ae b o))/\(∀o,W'.frozen? (ae b o)=W.frozen? (ae b o)):=
 ⟨fun o=>dD (K.block b a hS),fun o=>oz (K.block b a hS)⟩
theorem di (w:World) (o:Obj):(w.alloc o).heap[w.heap.size]? =some o:=tC w o
theorem Dz (w:World) (o a:Obj):((w.alloc o).alloc a).heap[w.heap.size]? =some o:=(bY _ _ _ (by simp)).trans (di w o)
theorem xx (w:World) (o a:Obj):((w.alloc o).alloc a).heap[w.heap.size+1]? =some a:=by
 have:=di (w.alloc o) a;rwa [show(w.alloc o).heap.size=w.heap.size+1 by simp]at this
theorem kF (w:World) (o:Obj):(w.alloc o).drew.heap[w.heap.size]? =some o:=di w o
theorem BX (w:World) (o a:Obj):((w.alloc o).alloc a).drew.heap[w.heap.size]? =some o:=Dz w o a
theorem BZ (w:World) (o a:Obj):((w.alloc o).alloc a).drew.heap[w.heap.size+1]? =some a:=xx w o a
section
variable {W:World} {base:Nat}
theorem bz {e t:TypeId} {sz k X:Nat} {v:Value} {xs:List Value} {cs:Array Value} {fr:Nat×Nat} (h:W.ownsRow base e sz v k xs) (d:W.heap[X]? =some (Obj.cells cs t fr)) (f:t≠e):∀b,v.ownBlock=some b->X≠b:=by
 rintro b c rfl;rcases h.2 with⟨rfl,_⟩|⟨g,i,j,rfl,_,a,_⟩
 .cases c
 .simp only[Value.ownBlock,iV]at c;subst c;rw[d]at a;injection a with a;injection a with _ a _;exact f a
theorem dU {X b:Nat} {cs d:Array Value} {t c:TypeId} {fr e:Nat×Nat} (f:W.heap[X]? =some (Obj.cells cs t fr)) (a:W.heap[b]? =some (Obj.cells d c e)) (h:t≠c):X≠b:=by
 rintro rfl;rw[f]at a;injection a with a;injection a with _ a _;exact h a
theorem bD {f i:Nat} {e c:TypeId} {sz n k k':Nat} {v d:Value} {xs o:List Value} (h:W.ownsRow f e sz v k xs) (h':W.ownsRow i c n d k' o) (m:e≠c):∀a,v.ownBlock=some a->d.ownBlock≠some a:=by
 intro a j b;rcases h'.2 with⟨rfl,_⟩|⟨g,p,q,rfl,_,l,_⟩
 .cases b
 .simp only[Value.ownBlock,iV]at b;subst b;exact bz h l (iG m) _ j rfl
theorem au.strip {S:Nat->Prop} {w1:World} (h:au (fun k=>S k\/W.heap.size<=k) W w1):au S W w1:=⟨h.os,h.tape,h.output,h.size,fun k a b=>h.block k a fun h9=>by rcases h9 with h9|h9;exact b h9;omega⟩
end
end
section
open Go.RowKit Go.Sort Go.Shelf Go.Lib Go.Maps
def eD (l:List Int):List Int:=l.mergeSort fun x y=>decide (x<=y)
theorem jC (l:List Int):(eD l).length=l.length:=(qz l _).length_eq
theorem uW {w:World} {base n:Nat} {v:Value} {l:List Int} (h:w.ownsRow base 27 1 v n (l.map (Value.int .u32))) (d:n<=1000000):
  aH 64 #[v] w fun e w'=>e=.returned (.tuple #[])/\w'.ownsRow base 27 1 v n ((eD l).map (Value.int .u32))/\au (fun k=>v.ownBlock=some k) w w':=by
 have c:l.length=n:=by have:=h.1;simpa using this
 have⟨u,j⟩:=h;rcases j with⟨rfl,i⟩|⟨g,f,s,rfl,m,a,x,p,z,ht⟩
 .subst i;refine(EI none 0 w).mono ?_;rintro e w' ⟨rfl,rfl⟩;have:l=[]:=gJ c;subst this;exact⟨rfl,by simpa[eD]using dz w' base 27 1,au.refl _ _⟩
 .subst c;rw[iF]at ht;have o:g<w.heap.size:=(aZ.1 a).1;refine(Q3 g 0 f l w (holds_of_block a ht) o (by omega)).mono ?_;rintro e w' ⟨rfl,q,os,rfl⟩;obtain⟨t,-,-,-,b⟩:=qR (l':=eD l) m a (by omega) p (by omega) (jC l) q os;rw[jC]at b;refine⟨rfl,b,rfl,rfl,rfl,?_,fun k y d=>?_⟩
  .show w.heap.size<=((w.heap.modify g _)++os).size;simp
  .have r:g≠k:=fun e=>d (by rw[e];rfl);show((w.heap.modify g _)++os)[k]? =_;rw[wI (by simp;omega),wM,aI r]
end
end Go.Proofs.YtkjdbndekceffaaGreat
set_option autoImplicit false
namespace Go.Proofs.YtkjdbndekceffaaGreat
open Tryz
section
open Go
inductive FT where
 |leaf (a:Nat)
 |node (l r:FT)
namespace FT
def lo:FT->Nat
 |leaf a=>a
 |node l _=>l.lo
def hi:FT->Nat
 |leaf a=>a+1
 |node _ r=>r.hi
def size:FT->Nat
 |leaf _=>1
 |node l r=>l.size+r.size+1
def ht:FT->Nat
 |leaf _=>0
 |node l r=>max l.ht r.ht+1
def wf:FT->Prop
 |leaf _=>True
 |node l r=>l.wf/\r.wf/\l.hi=r.lo
theorem size_pos (t:FT):0<t.size:=by cases t<;>simp[size]
theorem eQ:∀(t:FT),t.wf->t.lo<t.hi
 |leaf a,_=>by simp[lo,hi]
 |node l r,h=>by
  have b:=eQ l h.1;have c:=eQ r h.2.1;have d:=h.2.2;simp only[lo,hi];omega
theorem size_eq:∀(t:FT),t.wf->t.size+1=2*(t.hi-t.lo)
 |leaf a,_=>by simp only[size,lo,hi];omega
 |node l r,h=>by
  have b:=size_eq l h.1;have c:=size_eq r h.2.1;have d:=h.2.2;have e:=eQ l h.1;have f:=eQ r h.2.1;simp only[size,lo,hi];omega
end FT
def dK (a n:Nat):FT:=
 if h:n<=1 then .leaf a else .node (dK a (n-n/2)) (dK (a+(n-n/2)) (n/2))
 termination_by n
 decreasing_by all_goals omega
theorem yU (a n:Nat) (h:n<=1):dK a n=.leaf a:=by rw[dK,dif_pos h]
theorem DC (a n:Nat) (h:1<n):dK a n=.node (dK a (n-n/2)) (dK (a+(n-n/2)) (n/2)):=by rw[dK,dif_neg (by omega)]
theorem bO (a n:Nat) (h:0<n):(dK a n).wf/\(dK a n).lo=a/\(dK a n).hi=a+n:=by
 induction n using Nat.strongRecOn generalizing a with
 |ind n ih=>
  by_cases b:n<=1
  .rw[yU a n b];exact⟨trivial,rfl,by simp only[FT.hi];omega⟩
  .rw[DC a n (by omega)];have⟨w1,c,e⟩:=ih (n-n/2) (by omega) a (by omega);have⟨w2,d,f⟩:=ih (n/2) (by omega) (a+(n-n/2)) (by omega);exact⟨⟨w1,w2,by rw[e,d]⟩,c,by simp only[FT.hi];rw[f];omega⟩
theorem eZ (a n:Nat) (h:0<n):(dK a n).size=2*n-1:=by
 have⟨w,l,r⟩:=bO a n h;have:=FT.size_eq _ w;omega
theorem uz (a n k:Nat) (h:n<=2^k):(dK a n).ht<=k:=by
 induction k generalizing a n with
 |zero=>rw[yU a n (by simpa using h)];exact ay _
 |succ k ih=>
  by_cases b:n<=1
  .rw[yU a n b];exact bf _
  .rw[DC a n (by omega)];rw[oO]at h;have c:=ih a (n-n/2) (by omega);have d:=ih (a+(n-n/2)) (n/2) (by omega);simp only[FT.ht];omega
structure Nd where
 kind:Int
 l:Int
 r:Int
 fr:Int
 Jk:Int
 item:Int
namespace FT
def nodes:FT->Nat->List Nd
 |leaf a,_=>[⟨1,-1,-1,a,(a:Int)+1,a⟩]
 |node l r,s=>l.nodes s++r.nodes (s+l.size)++[⟨2,((s+l.size:Nat):Int)-1,((s+l.size+r.size:Nat):Int)-1,l.lo,r.hi,0⟩]
theorem ib:∀(t:FT) (s:Nat),(t.nodes s).length=t.size
 |leaf a,_=>rfl
 |node l r,s=>by
  simp only[nodes,size,bq,ib l,ib r,dY,fB]
def At (N:List Nd) (t:FT) (s:Nat):Prop:=∃A B,N=A++t.nodes s++B/\A.length=s
theorem At.left {N:List Nd} {l r:FT} {s:Nat} (h:At N (node l r) s):At N l s:=by
 have⟨A,B,e,a⟩:=h;exact⟨A,r.nodes (s+l.size)++([⟨2,((s+l.size:Nat):Int)-1,((s+l.size+r.size:Nat):Int)-1,l.lo,r.hi,0⟩]++B),by rw[e,nodes];simp only[dW],a⟩
theorem At.right {N:List Nd} {l r:FT} {s:Nat} (h:At N (node l r) s):At N r (s+l.size):=by
 have⟨A,B,e,a⟩:=h;exact⟨A++l.nodes s,[⟨2,((s+l.size:Nat):Int)-1,((s+l.size+r.size:Nat):Int)-1,l.lo,r.hi,0⟩]++B,by rw[e,nodes];simp only[dW],by rw[bq,ib,a]⟩
def root (t:FT) (s:Nat):Nat:=s+t.size-1
def top:FT->Nat->Nd
 |leaf a,_=>⟨1,-1,-1,a,(a:Int)+1,a⟩
 |node l r,s=>⟨2,((s+l.size:Nat):Int)-1,((s+l.size+r.size:Nat):Int)-1,l.lo,r.hi,0⟩
theorem DD (t:FT) (s:Nat):(t.top s).fr=t.lo:=by cases t<;>rfl
theorem uA (t:FT) (s:Nat):(t.top s).Jk=t.hi:=by cases t<;>simp[top,hi]
theorem He:∀(t:FT) (s:Nat),∃P,t.nodes s=P++[t.top s]/\P.length+1=t.size
 |leaf a,s=>⟨[],rfl,rfl⟩
 |node l r,s=>⟨l.nodes s++r.nodes (s+l.size),rfl,by simp only[bq,ib,size]⟩
theorem At.get {N:List Nd} {t:FT} {s:Nat} (h:At N t s):N[t.root s]? =some (t.top s):=by
 have⟨A,B,e,a⟩:=h;have⟨P,hP,b⟩:=He t s;unfold root;rw[e,hP,dW,dW,mG (by omega),mG (by omega)];have:s+t.size-1-A.length-P.length=0:=by omega
 rw[this];rfl
theorem At.lt {N:List Nd} {t:FT} {s:Nat} (h:At N t s):t.root s<N.length:=(fC.1 h.get).1
def canon:FT->Nat->Nat->Nat->List Nat×Nat
 |t@(leaf _),s,a,b=>if t.hi<=a\/b<=t.lo then([],1)else([t.root s],1)
 |t@(node l r),s,a,b=>if t.hi<=a\/b<=t.lo then([],1)else if a<=t.lo/\t.hi<=b then([t.root s],1)else((l.canon s a b).1++(r.canon (s+l.size) a b).1,(l.canon s a b).2+(r.canon (s+l.size) a b).2+1)
theorem ic {t:FT} {s a b:Nat} (h:t.hi<=a\/b<=t.lo):t.canon s a b=([],1):=by
 cases t<;>(rw[canon,aK h])
theorem qU {t:FT} {s a b:Nat} (c:¬(t.hi<=a\/b<=t.lo)) (h:a<=t.lo/\t.hi<=b):t.canon s a b=([t.root s],1):=by
 cases t with
 |leaf x=>rw[canon,aI c]
 |node l r=>rw[canon,aI c,aK h]
theorem l7 {l r:FT} {s a b:Nat} (c:¬((node l r).hi<=a\/b<=(node l r).lo)) (h:¬(a<=(node l r).lo/\(node l r).hi<=b)):(node l r).canon s a b=((l.canon s a b).1++(r.canon (s+l.size) a b).1,(l.canon s a b).2+(r.canon (s+l.size) a b).2+1):=by
 rw[canon,aI c,aI h]
theorem Ca {t:FT} {s a b:Nat} (h:a<=t.lo/\t.hi<=b):(t.canon s a b).2=1:=by
 by_cases c:t.hi<=a\/b<=t.lo
 .rw[ic c]
 .rw[qU c h]
theorem Cc (t:FT) (n:t.wf) (s a b:Nat) (h:a<=t.lo\/t.hi<=b):(t.canon s a b).2<=2*t.ht+1:=by
 induction t generalizing s with
 |leaf x=>
  rw[canon];split<;>simp[ht]
 |node l r f g=>
  by_cases c:(node l r).hi<=a\/b<=(node l r).lo
  .rw[ic c];simp
  .by_cases d:a<=(node l r).lo/\(node l r).hi<=b
   .rw[qU c d];simp
   .rw[l7 c d];simp only[ht];have⟨w1,w2,e⟩:=n;have o:=eQ l w1;have p:=eQ r w2;simp only[lo,hi]at h c d;rcases h with h|h
    .have m:=g w2 (s+l.size) (.inl (by omega));have k:=f w1 s (.inl h);by_cases j:l.hi<=b
     .have:=Ca (t:=l) (s:=s) (a:=a) (b:=b) ⟨h,j⟩;omega
     .have:=ic (t:=r) (s:=s+l.size) (a:=a) (b:=b) (.inr (by omega));rw[this];show(l.canon s a b).2+1+1<=_;omega
    .have m:=g w2 (s+l.size) (.inr h);have k:=f w1 s (.inr (by omega));by_cases i:a<=r.lo
     .have:=Ca (t:=r) (s:=s+l.size) (a:=a) (b:=b) ⟨i,h⟩;omega
     .have:=ic (t:=l) (s:=s) (a:=a) (b:=b) (.inl (by omega));rw[this];show 1+(r.canon (s+l.size) a b).2+1<=_;omega
theorem zQ (t:FT) (h:t.wf) (s a b:Nat):(t.canon s a b).2<=4*t.ht+1:=by
 induction t generalizing s with
 |leaf x=>
  rw[canon];split<;>simp[ht]
 |node l r i j=>
  by_cases c:(node l r).hi<=a\/b<=(node l r).lo
  .rw[ic c];simp
  .by_cases d:a<=(node l r).lo/\(node l r).hi<=b
   .rw[qU c d];simp
   .rw[l7 c d];simp only[ht];have⟨w1,w2,e⟩:=h;have n:=eQ l w1;have o:=eQ r w2;simp only[lo,hi]at c d;by_cases g:b<=r.lo
    .have:=ic (t:=r) (s:=s+l.size) (a:=a) (b:=b) (.inr g);rw[this];have:=i w1 s;show(l.canon s a b).2+1+1<=_;omega
    .by_cases f:l.hi<=a
     .have:=ic (t:=l) (s:=s) (a:=a) (b:=b) (.inl f);rw[this];have:=j w2 (s+l.size);show 1+(r.canon (s+l.size) a b).2+1<=_;omega
     .have k:=Cc l w1 s a b (.inr (by omega));have m:=Cc r w2 (s+l.size) a b (.inl (by omega));show(l.canon s a b).2+(r.canon (s+l.size) a b).2+1<=_;omega
def path:FT->Nat->Nat->List Nat
 |leaf _,s,_=>[s]
 |node l r,s,x=>(node l r).root s::(if x<l.hi then l.path s x else r.path (s+l.size) x)
theorem nP:∀(t:FT) (s x:Nat),(t.path s x).length<=t.ht+1
 |leaf _,_,_=>ay _
 |node l r,s,x=>by
  have a:=nP l s x;have b:=nP r (s+l.size) x;simp only[path,ht,dY];split<;>omega
theorem rO (t:FT) (s x:Nat):∃P,t.path s x=t.root s::P:=by
 cases t with
 |leaf a=>exact⟨[],by simp[path,root,size]⟩
 |node l r=>exact⟨_,rfl⟩
end FT
end
end Go.Proofs.YtkjdbndekceffaaGreat
set_option autoImplicit false
namespace Go.Proofs.YtkjdbndekceffaaGreat
open Tryz
section
open Go
def nl (YS:List Nat) (t:FT):List Nat:=YS.filter fun i=>decide (t.lo<=i/\i<t.hi)
def DF (yv:Nat->Int) (y1 y2:Int) (L:List Nat):List Nat:=L.filter fun i=>decide (y1<=yv i/\yv i<=y2)
def below (yv:Nat->Int) (y:Int) (L:List Nat):Nat:=L.countP fun i=>decide (yv i<y)
def upto (yv:Nat->Int) (y:Int) (L:List Nat):Nat:=L.countP fun i=>decide (yv i<=y)
theorem rP (YS:List Nat) (l r:FT) (a:(FT.node l r).wf):nl YS l=(nl YS (.node l r)).filter fun i=>decide (i<l.hi):=by
 unfold nl;rw[qF];have d:=FT.eQ r a.2.1;have e:=a.2.2;refine lZ fun i _=>?_;have b:(FT.node l r).lo=l.lo:=rfl;have c:(FT.node l r).hi=r.hi:=rfl;rw[ni,b,c,l5,bW,bW,bW];exact⟨fun h=>⟨by omega,by omega⟩,fun h=>by omega⟩
theorem nQ (YS:List Nat) (l r:FT) (a:(FT.node l r).wf):nl YS r=(nl YS (.node l r)).filter fun i=>!decide (i<l.hi):=by
 unfold nl;rw[qF];have d:=FT.eQ l a.1;have e:=a.2.2;refine lZ fun i _=>?_;have b:(FT.node l r).lo=l.lo:=rfl;have c:(FT.node l r).hi=r.hi:=rfl;rw[ni,b,c,l5,bW,bW,nO,iA];exact⟨fun h=>⟨by omega,by omega⟩,fun h=>by omega⟩
theorem qV {p:Nat->Bool}:∀(L:List Nat),L.Pairwise (fun i k=>p k=true->p i=true)->L.take (L.countP p)=L.filter p
 |[],_=>rfl
 |i::L,h=>by
  rw[lh]at h;cases hp:p i with
  |true=>
   rw[GM hp,List.take_succ_cons,GN hp,qV L h.2]
  |false=>
   have b:∀k∈L,p k=false:=fun k a=>by
    cases e:p k with
    |false=>rfl
    |true=>have:=h.1 k a e;rw[hp]at this;cases this
   have c:L.countP p=0:=Db.2 fun k a=>by rw[b k a];decide
   have d:L.filter p=[]:=wK.2 fun k a=>by rw[b k a];decide
   rw[List.countP_cons_of_neg (by rw[hp];decide),c,zg (by rw[hp];decide),d];rfl
theorem Hf {yv:Nat->Int} {L:List Nat} (a:L.Pairwise fun i k=>yv i<=yv k) (y:Int):L.take (below yv y L)=L.filter fun i=>decide (yv i<y):=
 qV L (a.imp fun h b=>by simp only[bW]at*;omega)
theorem Ce {yv:Nat->Int} {L:List Nat} (a:L.Pairwise fun i k=>yv i<=yv k) (y:Int):L.take (upto yv y L)=L.filter fun i=>decide (yv i<=y):=
 qV L (a.imp fun h b=>by simp only[bW]at*;omega)
theorem EJ {p:Nat->Bool} (L:List Nat) (h:L.Pairwise fun i k=>p k=true->p i=true):L.drop (L.countP p)=L.filter fun i=>!p i:=by
 induction L with
 |nil=>rfl
 |cons i L ih=>
  rw[lh]at h;cases hp:p i with
  |true=>
   rw[GM hp,List.drop_succ_cons,zg (by rw[hp];decide),ih h.2]
  |false=>
   have a:∀k∈L,p k=false:=fun k hk=>by
    cases c:p k with
    |false=>rfl
    |true=>have:=h.1 k hk c;rw[hp]at this;cases this
   have b:L.countP p=0:=Db.2 fun k hk=>by rw[a k hk];decide
   rw[List.countP_cons_of_neg (by rw[hp];decide),b,nk,mH.2];intro k hk;rcases gP.1 hk with rfl|hk
   .rw[hp];rfl
   .rw[a k hk];rfl
theorem Cf {yv:Nat->Int} {L:List Nat} (a:L.Pairwise fun i k=>yv i<=yv k) (y1 y2:Int) (h:y1<=y2):(L.take (upto yv y2 L)).drop (below yv y1 L)=DF yv y1 y2 L:=by
 rw[Ce a];have e:below yv y1 L=below yv y1 (L.filter fun i=>decide (yv i<=y2)):=by
  unfold below;rw[zo];refine zy fun i _=>?_;simp only[l5,bW];omega
 rw[e];unfold below;rw[EJ _ ((a.filter _).imp fun h b=>by simp only[bW]at*;omega),qF];unfold DF;refine lZ fun i _=>?_;simp only[<-decide_not,<-Bool.decide_and,tV];omega
theorem below_le {yv:Nat->Int} {L:List Nat} {y1 y2:Int} (h:y1<=y2):below yv y1 L<=upto yv y2 L:=by
 unfold below upto;exact List.countP_mono_left fun i _ a=>by simp only[bW]at*;omega
theorem uX {yv:Nat->Int} {L:List Nat} {y:Int}:upto yv y L<=L.length:=GR
theorem Cg {yv:Nat->Int} {L:List Nat} {y:Int}:below yv y L<=L.length:=GR
theorem O1 {yv:Nat->Int} {L:List Nat} (a:L.Pairwise fun i k=>yv i<=yv k) (y1 y2:Int) (h:y1<=y2):(DF yv y1 y2 L).length+below yv y1 L=upto yv y2 L:=by
 rw[<-Cf a y1 y2 h,kS,eB];have b:=below_le (yv:=yv) (L:=L) h;have c:=uX (yv:=yv) (L:=L) (y:=y2);omega
def lf (m:Nat) (L:List Nat):List Int:=(List.range (L.length+1)).map fun j=>(((L.take j).countP fun i=>decide (i<m):Nat):Int)
theorem qW (m:Nat) (L:List Nat):(lf m L).length=L.length+1:=by simp[lf]
theorem o5 (m:Nat) (L:List Nat) (j:Nat) (h:j<(lf m L).length):(lf m L)[j]=(((L.take j).countP fun i=>decide (i<m):Nat):Int):=by simp[lf]
theorem DI {YS:List Nat} {yv:Nat->Int} (l r:FT) (a:(FT.node l r).wf) (b:YS.Pairwise fun i k=>yv i<=yv k) (y:Int):
  ((nl YS (.node l r)).take (below yv y (nl YS (.node l r)))).countP (fun i=>decide (i<l.hi))=below yv y (nl YS l)/\below yv y (nl YS l)+below yv y (nl YS r)=below yv y (nl YS (.node l r)):=by
 have c:(nl YS (.node l r)).Pairwise fun i k=>yv i<=yv k:=b.filter _;rw[Hf c,rP YS l r a,nQ YS l r a];generalize nl YS (.node l r)=L;unfold below;constructor
 .rw[zo,zo];refine zy fun i _=>?_;simp only[l5];exact And.comm
 .induction L with
  |nil=>rfl
  |cons i L ih=>
   simp only[lu,tX];by_cases h:i<l.hi<;>simp only[h,decide_true,decide_false,zN,Bool.not_false,gD,jA,qg,tX]<;>omega
theorem EK {YS:List Nat} {yv:Nat->Int} (l r:FT) (a:(FT.node l r).wf) (b:YS.Pairwise fun i k=>yv i<=yv k) (y:Int):
  ((nl YS (.node l r)).take (upto yv y (nl YS (.node l r)))).countP (fun i=>decide (i<l.hi))=upto yv y (nl YS l)/\upto yv y (nl YS l)+upto yv y (nl YS r)=upto yv y (nl YS (.node l r)):=by
 have c:(nl YS (.node l r)).Pairwise fun i k=>yv i<=yv k:=b.filter _;rw[Ce c,rP YS l r a,nQ YS l r a];generalize nl YS (.node l r)=L;unfold upto;constructor
 .rw[zo,zo];refine zy fun i _=>?_;simp only[l5];exact And.comm
 .induction L with
  |nil=>rfl
  |cons i L ih=>
   simp only[lu,tX];by_cases h:i<l.hi<;>simp only[h,decide_true,decide_false,zN,Bool.not_false,gD,jA,qg,tX]<;>omega
def down (YS:List Nat) (yv:Nat->Int) (y1 y2:Int) (fr tu:Nat):FT->List Nat×Nat
 |t@(.leaf _)=>if upto yv y2 (nl YS t)<=below yv y1 (nl YS t)\/t.hi<=fr\/tu<=t.lo then([],1)else(DF yv y1 y2 (nl YS t),1)
 |t@(.node l r)=>if upto yv y2 (nl YS t)<=below yv y1 (nl YS t)\/t.hi<=fr\/tu<=t.lo then([],1)else if fr<=t.lo/\t.hi<=tu then(DF yv y1 y2 (nl YS t),1)else((down YS yv y1 y2 fr tu l).1++(down YS yv y1 y2 fr tu r).1,1+(down YS yv y1 y2 fr tu l).2+(down YS yv y1 y2 fr tu r).2)
section
variable {YS:List Nat} {yv:Nat->Int} {y1 y2:Int} {fr tu:Nat}
theorem uY {t:FT} (h:upto yv y2 (nl YS t)<=below yv y1 (nl YS t)\/t.hi<=fr\/tu<=t.lo):down YS yv y1 y2 fr tu t=([],1):=by
 cases t<;>(rw[down,aK h])
theorem DJ {t:FT} (h:¬(upto yv y2 (nl YS t)<=below yv y1 (nl YS t)\/t.hi<=fr\/tu<=t.lo)) (b:fr<=t.lo/\t.hi<=tu):down YS yv y1 y2 fr tu t=(DF yv y1 y2 (nl YS t),1):=by
 cases t with
 |leaf a=>rw[down,aI h]
 |node l r=>rw[down,aI h,aK b]
theorem xy {l r:FT} (h:¬(upto yv y2 (nl YS (.node l r))<=below yv y1 (nl YS (.node l r))\/(FT.node l r).hi<=fr\/tu<=(FT.node l r).lo)) (a:¬(fr<=(FT.node l r).lo/\(FT.node l r).hi<=tu)):down YS yv y1 y2 fr tu (.node l r)=((down YS yv y1 y2 fr tu l).1++(down YS yv y1 y2 fr tu r).1,1+(down YS yv y1 y2 fr tu l).2+(down YS yv y1 y2 fr tu r).2):=by
 rw[down,aI h,aI a]
theorem Ko (t:FT) (e:t.wf) (s:Nat):(down YS yv y1 y2 fr tu t).2<=(t.canon s fr tu).2:=by
 induction t generalizing s with
 |leaf a=>
  rw[down,FT.canon];split<;>split<;>simp
 |node l r f g=>
  have d:1<=((FT.node l r).canon s fr tu).2:=by
   rw[FT.canon];split
   .exact ay _
   .split
    .exact ay _
    .exact Nat.le_add_left _ _
  by_cases b:upto yv y2 (nl YS (.node l r))<=below yv y1 (nl YS (.node l r))\/(FT.node l r).hi<=fr\/tu<=(FT.node l r).lo
  .rw[uY b];exact d
  .by_cases c:fr<=(FT.node l r).lo/\(FT.node l r).hi<=tu
   .rw[DJ b c];exact d
   .rw[xy b c,FT.l7 (fun h=>b (.inr h)) c];have i:=f e.1 s;have j:=g e.2.1 (s+l.size);show 1+_+_<=_+_+1;omega
theorem uZ (t:FT) (o:t.wf) (q:YS.Pairwise fun i k=>yv i<=yv k) (s:y1<=y2) (i:Nat):i∈(down YS yv y1 y2 fr tu t).1↔i∈nl YS t/\fr<=i/\i<tu/\y1<=yv i/\yv i<=y2:=by
 have p:∀t:FT,upto yv y2 (nl YS t)<=below yv y1 (nl YS t)->∀i∈nl YS t,¬(y1<=yv i/\yv i<=y2):=fun t h i hi b=>by
  have f:=O1 (q.filter (fun i=>decide (t.lo<=i/\i<t.hi))) y1 y2 s;have d:(DF yv y1 y2 (nl YS t)).length=0:=by unfold nl at h |-;omega
  have n:i∈DF yv y1 y2 (nl YS t):=bK.2 ⟨hi,by simpa using b⟩;rw[gJ d]at n;cases n
 have g:∀t:FT,∀i∈nl YS t,t.lo<=i/\i<t.hi:=fun t i hi=>by simpa using(bK.1 hi).2
 induction t with
 |leaf a=>
  by_cases e:upto yv y2 (nl YS (.leaf a))<=below yv y1 (nl YS (.leaf a))\/(FT.leaf a).hi<=fr\/tu<=(FT.leaf a).lo
  .rw[uY e];refine⟨fun h=>absurd h gZ,fun⟨c,b,f,d⟩=>?_⟩;have n:=g _ i c;rcases e with h|h|h
   .exact absurd d (p _ h i c)
   .omega
   .omega
  .rw[down,aI e];show i∈DF yv y1 y2 _↔_;unfold DF;rw[bK,bW];refine⟨fun⟨c,b⟩=>⟨c,?_,?_,b⟩,fun⟨c,b,f,d⟩=>⟨c,d⟩⟩
   .have:=g _ i c;simp only[FT.lo,FT.hi]at this e;omega
   .have:=g _ i c;simp only[FT.lo,FT.hi]at this e;omega
 |node l r u v=>
  by_cases e:upto yv y2 (nl YS (.node l r))<=below yv y1 (nl YS (.node l r))\/(FT.node l r).hi<=fr\/tu<=(FT.node l r).lo
  .rw[uY e];refine⟨fun h=>absurd h gZ,fun⟨c,b,f,d⟩=>?_⟩;have n:=g _ i c;rcases e with h|h|h
   .exact absurd d (p _ h i c)
   .omega
   .omega
  .by_cases c:fr<=(FT.node l r).lo/\(FT.node l r).hi<=tu
   .rw[DJ e c];show i∈DF yv y1 y2 _↔_;unfold DF;rw[bK,bW];refine⟨fun⟨b,f⟩=>⟨b,?_,?_,f⟩,fun⟨b,_,_,d⟩=>⟨b,d⟩⟩
    .have:=g _ i b;omega
    .have:=g _ i b;omega
   .rw[xy e c];show i∈_++_↔_;have j:=u o.1;have m:=v o.2.1;rw[rP YS l r o,bK,bW]at j;rw[nQ YS l r o,bK,nO,iA]at m;constructor
    .intro h;rcases bT.1 h with h|h
     .exact⟨(j.1 h).1.1,(j.1 h).2⟩
     .exact⟨(m.1 h).1.1,(m.1 h).2⟩
    .rintro⟨b,f⟩;by_cases d:i<l.hi
     .exact bT.2 (.inl (j.2 ⟨⟨b,d⟩,f⟩))
     .exact bT.2 (.inr (m.2 ⟨⟨b,d⟩,f⟩))
theorem zR (t:FT) (b:t.wf) (d:YS.Nodup) (f:YS.Pairwise fun i k=>yv i<=yv k) (g:y1<=y2):(down YS yv y1 y2 fr tu t).1.Nodup:=by
 have c:∀(L:List Nat) (p:Nat->Bool),L.Nodup->(L.filter p).Nodup:=fun L p h=>lg _ h
 induction t with
 |leaf a=>
  rw[down];split
  .exact oK
  .exact c _ _ (c _ _ d)
 |node l r o q=>
  rw[down];split
  .exact oK
  .split
   .exact c _ _ (c _ _ d)
   .refine oF.2 ⟨o b.1,q b.2.1,fun i hi k n e=>?_⟩;subst e;have j:=((uZ l b.1 f g i).1 hi).1;have m:=((uZ r b.2.1 f g i).1 n).1;have s:l.lo<=i/\i<l.hi:=by simpa using(bK.1 j).2
    have u:r.lo<=i/\i<r.hi:=by simpa using(bK.1 m).2
    have:=b.2.2;omega
end
end
section
abbrev Pt:=Int×Int×Int
def jV (p q:Pt):Prop:=p.1<q.1\/p.1=q.1/\p.2.2<q.2.2
def sG (p q:Pt):Prop:=p.2.1<q.2.1\/p.2.1=q.2.1/\p.2.2<q.2.2
def zS (q p:Pt):Bool:=decide (p.1<=q.1)&&decide (p.2.1<=q.2.1)&&(decide (q.1≠p.1)||decide (q.2.1≠p.2.1))
def sN (l:List Pt) (p:Pt):Bool:=l.any fun q=>zS q p
instance:DecidableRel jV:=fun p q=>by unfold jV;exact inferInstance
instance:DecidableRel sG:=fun p q=>by unfold sG;exact inferInstance
theorem u7 (q p:Pt):zS q p=true↔p.1<=q.1/\p.2.1<=q.2.1/\(q.1≠p.1\/q.2.1≠p.2.1):=by
 simp[zS,and_assoc]
theorem o6 (q p:Pt):zS q p=false↔¬(p.1<=q.1/\p.2.1<=q.2.1/\(q.1≠p.1\/q.2.1≠p.2.1)):=by
 rw[<-u7];simp
theorem o7 (l:List Pt) (p:Pt):sN l p=true↔∃q∈l,zS q p=true:=by simp[sN]
theorem o8 (l:List Pt) (p:Pt):sN l p=false↔∀q∈l,zS q p=false:=by simp[sN]
theorem nR {p q r:Pt} (h:jV p q) (a:jV q r):jV p r:=by unfold jV at*;omega
theorem rQ (p:Pt):¬jV p p:=by unfold jV;omega
theorem Ch {p q:Pt} (h:jV p q) (a:jV q p):False:=by unfold jV at*;omega
theorem rR {p q r:Pt} (h:sG p q) (a:sG q r):sG p r:=by unfold sG at*;omega
theorem ve (p:Pt):¬sG p p:=by unfold sG;omega
theorem Ci {p q:Pt} (h:sG p q) (a:sG q p):False:=by unfold sG at*;omega
theorem rT {p q r:Pt} (h:zS p q=true) (a:zS q r=true):zS p r=true:=by
 rw[u7]at*;omega
theorem Jl (p:Pt):zS p p=false:=by rw[o6];omega
theorem kU {α:Type} {R:α->α->Prop} (c:∀p,¬R p p) {l:List α} (h:l.Pairwise R):l.Nodup:=by
 show l.Pairwise (·≠·);exact h.imp fun{a b} d e=>by subst e;exact c a d
theorem o9 {α:Type} {R:α->α->Prop} (e:∀p,¬R p p) (has:∀{p q},R p q->R q p->False) {a b:List α} (c:a.Pairwise R) (d:b.Pairwise R) (h:∀p,p∈a↔p∈b):a=b:=by
 have hp:a.Perm b:=(yu (kU e c) (kU e d)).2 h;exact GK (fun _ _ _ _ f g=>(has f g).elim) c d hp
theorem Kq {α:Type} {p q:α->Bool} {l:List α} (h:∀x∈l,p x=true->q x=true) {y:α} (hy:y∈l) (b:q y=true) (c:p y=false):l.countP p<l.countP q:=by
 induction l with
 |nil=>cases hy
 |cons x l ih=>
  have f:l.countP p<=l.countP q:=List.countP_mono_left fun z a=>h z (by simp[a]);rw[tX,tX];rcases gP.1 hy with rfl|hy
  .simp[b,c];omega
  .have:=ih (fun z a=>h z (by simp[a])) hy;have e:=h x (by simp);cases d:p x
   .simp;split<;>omega
   .simp[e d];omega
theorem EL (S:List Pt):∀(n:Nat) (q:Pt),q∈S->S.countP (fun r=>zS r q)<=n->∃t∈S,(t=q\/zS t q=true)/\sN S t=false
 |0,q,c,h=>by
  refine⟨q,c,.inl rfl,?_⟩;rw[o8];intro r b;have d:S.countP (fun r=>zS r q)=0:=by omega
  rw[Db]at d;simpa using d r b
 |n+1,q,c,h=>by
  cases e:sN S q
  .exact⟨q,c,.inl rfl,e⟩
  .obtain⟨r,b,a⟩:=(o7 S q).1 e;have i:S.countP (fun s=>zS s r)<S.countP (fun s=>zS s q):=
    Kq (fun s _ g=>rT g a) b a (Jl r)
   have⟨t,ht,h1,f⟩:=EL S n r b (by omega);refine⟨t,ht,.inr ?_,f⟩;rcases h1 with rfl|h1
   .exact a
   .exact rT h1 a
theorem Q5 (S:List Pt) (q:Pt) (a:q∈S):∃t∈S,(t=q\/zS t q=true)/\sN S t=false:=EL S _ q a (ay _)
def EM (S:List Pt):List Pt:=S.filter fun p=>!sN S p
theorem O3 (S:List Pt) (p:Pt):p∈EM S↔p∈S/\sN S p=false:=by simp[EM]
theorem Hg {S:List Pt} (h:S.Pairwise jV):(EM S).Pairwise jV:=h.sublist Dc
def mK (l T:List Pt):Prop:=T.Pairwise jV/\∀p,p∈T↔p∈l/\sN l p=false
theorem mK.unique {l A B:List Pt} (a:mK l A) (b:mK l B):A=B:=
 o9 rQ Ch a.1 b.1 fun p=>by rw[a.2,b.2]
theorem Cj {l m:List Pt} (h:∀p,p∈l↔p∈m) (p:Pt):sN l p=sN m p:=by
 rw[ni,o7,o7];constructor
 .rintro⟨q,b,a⟩;exact⟨q,(h q).1 b,a⟩
 .rintro⟨q,b,a⟩;exact⟨q,(h q).2 b,a⟩
theorem mK.congr {l m T:List Pt} (h:∀p,p∈l↔p∈m) (a:mK l T):mK m T:=
 ⟨a.1,fun p=>by rw[a.2,h,Cj h]⟩
theorem Ck {S:List Pt} (h:S.Pairwise jV):mK S (EM S):=⟨Hg h,O3 S⟩
theorem vg {l T:List Pt} (c:mK l T) (p:Pt):sN T p=sN l p:=by
 rw[ni,o7,o7];constructor
 .rintro⟨q,b,a⟩;exact⟨q,((c.2 q).1 b).1,a⟩
 .rintro⟨q,b,a⟩;have⟨t,ht,h1,d⟩:=Q5 l q b;refine⟨t,(c.2 t).2 ⟨ht,d⟩,?_⟩;rcases h1 with rfl|h1
  .exact a
  .exact rT h1 a
def stp (p:Pt):List Pt->List Pt
 |[]=>[p]
 |t::T=>if p.2.1<t.2.1\/p.2.1=t.2.1/\p.1<t.1 then t::T else if p.1=t.1/\t.2.1<p.2.1 then p::(t::T).dropWhile (fun q=>decide (q.1=p.1))else p::t::T
def qX (S:List Pt):List Pt:=S.foldr stp []
theorem l8 (c:Int):∀(T:List Pt),T.Pairwise (fun p q=>p.1<=q.1)->(∀q∈T,c<=q.1)->T.dropWhile (fun q=>decide (q.1=c))=T.filter fun q=>decide (q.1≠c)
 |[],_,_=>rfl
 |t::T,h,b=>by
  rw[lh]at h;by_cases e:t.1=c
  .rw[List.dropWhile_cons_of_pos (by simp[e]),zg (by simp[e])];exact l8 c T h.2 fun q a=>b q (by simp[a])
  .rw[List.dropWhile_cons_of_neg (by simp[e]),GN (by simp[e])];congr 1;rw[mH.2];intro q a;have d:=h.1 q a;have f:=b t (by simp);simp;omega
theorem Cm (S:List Pt) (h:S.Pairwise jV):qX S=EM S:=by
 induction S with
 |nil=>rfl
 |cons p S ih=>
  rw[lh]at h;have⟨hp,hS⟩:=h;have d:=Ck hS;show stp p (qX S)=EM (p::S);rw[ih hS];generalize A:EM S=T at*;have y:∀q∈S,p.1<=q.1:=fun q c=>by have:=hp q c;unfold jV at this;omega
  have v:∀q,sN (p::S) q=(zS p q||sN S q):=fun q=>rfl;have F:sN (p::S) p=sN S p:=by rw[v,Jl];rfl
  have C:EM (p::S)=(if sN S p=true then[]else[p])++T.filter fun q=>!zS p q:=by
   rw[<-A];unfold EM;rw[lu,F,qF];have e:(fun q=>!sN (p::S) q)=fun q=>(!zS p q&&!sN S q):=by
    funext q;rw[v,Bool.not_or]
   rw[e];cases sN S p<;>simp
  rw[C];cases T with
  |nil=>
   have z:sN S p=false:=by
    rw[<-vg d];rfl
   simp[stp,z]
  |cons t T=>
   have s:=d.1;have o:=((d.2 t).1 (by simp)).1;have x:=((d.2 t).1 (by simp)).2;have I:=y t o;have k:∀q∈t::T,t.1<=q.1/\q.2.1<=t.2.1:=by
    intro q c;rcases gP.1 c with rfl|hq'
    .exact⟨uw _,uw _⟩
    .have D:=(lh.1 s).1 q hq';have m:=(o8 _ _).1 x q ((d.2 q).1 c).1;rw[o6]at m;unfold jV at D;have n:=(o8 _ _).1 ((d.2 q).1 c).2 t o;rw[o6]at n;omega
   have u:sN S p=true↔(p.2.1<t.2.1\/p.2.1=t.2.1/\p.1<t.1):=by
    rw[<-vg d,o7];constructor
    .rintro⟨q,c,f⟩;have l:=k q c;rw[u7]at f;by_cases e:p.2.1=t.2.1/\p.1=t.1
     .have m:=(o8 _ _).1 x q ((d.2 q).1 c).1;rw[o6]at m;omega
     .omega
    .intro l;exact⟨t,by simp,by rw[u7];omega⟩
   by_cases g:p.2.1<t.2.1\/p.2.1=t.2.1/\p.1<t.1
   .have j:sN S p=true:=u.2 g;rw[aK j,fK];have i:stp p (t::T)=t::T:=by simp only[stp];rw[aK g]
    rw[i,mH.2];intro q c;have G:=((d.2 q).1 c).2;cases E:zS p q
    .rfl
    .obtain⟨r,H,f⟩:=(o7 S p).1 j;have:=(o8 _ _).1 G r H;rw[rT f E]at this;cases this
   .have j:¬sN S p=true:=fun h=>g (u.1 h);rw[aI j,C8];by_cases w:p.1=t.1/\t.2.1<p.2.1
    .have i:stp p (t::T)=p::(t::T).dropWhile (fun q=>decide (q.1=p.1)):=by simp only[stp];rw[aI g,aK w]
     rw[i,l8 p.1 (t::T) (s.imp fun{a b} B=>by unfold jV at B;omega) (fun q c=>by have:=k q c;omega)];congr 1;refine lZ fun q c=>?_;have l:=k q c;by_cases e:q.1=p.1
     .have f:zS p q=true:=by rw[u7];omega
      simp[e,f]
     .have f:zS p q=false:=by rw[o6];have:=y q ((d.2 q).1 c).1;omega
      simp[e,f]
    .have i:stp p (t::T)=p::t::T:=by simp only[stp];rw[aI g,aI w]
     rw[i,mH.2];intro q c;have l:=k q c;have n:=(o8 _ _).1 ((d.2 q).1 c).2 t o;rw[o6]at n;have f:zS p q=false:=by rw[o6];omega
     simp[f]
def BA (p q:Pt):Prop:=p.1=q.1/\p.2.1=q.2.1/\p.2.2<q.2.2\/p.1<q.1/\q.2.1<p.2.1
instance:DecidableRel BA:=fun p q=>by unfold BA;exact inferInstance
theorem Kr {p q r:Pt} (h:BA p q) (a:BA q r):BA p r:=by unfold BA at*;omega
theorem nS {α:Type} {R:α->α->Prop} (ht:∀a b c,R a b->R b c->R a c):∀l:List α,(∀i (h:i+1<l.length),R l[i] l[i+1])->l.Pairwise R
 |[],_=>.nil
 |[x],_=>List.pairwise_singleton _ _
 |x::y::l,h=>by
  have ih:=nS ht (y::l) fun i hi=>by
   have:=h (i+1) (by simpa using hi);simpa using this
  rw[lh];refine⟨fun z hz=>?_,ih⟩;have d:R x y:=by simpa using h 0 (by simp)
  rcases gP.1 hz with rfl|hz
  .exact d
  .exact ht _ _ _ d ((lh.1 ih).1 z hz)
theorem fE {α:Type} {R:α->α->Prop} {l:List α} (h:l.Pairwise R) {p q:α} (hp:p∈l) (b:q∈l):p=q\/R p q\/R q p:=by
 obtain⟨i,hi,rfl⟩:=jk hp;obtain⟨j,a,rfl⟩:=jk b;rcases Nat.lt_trichotomy i j with h1|h1|h1
 .exact .inr (.inl (gH.1 h i j hi a h1))
 .subst h1;exact .inl rfl
 .exact .inr (.inr (gH.1 h j i a hi h1))
def pg (l:List Pt):Bool:=decide (∀i,i<l.length-1->BA (l.getD i (0,0,0)) (l.getD (i+1) (0,0,0)))
theorem mM (l:List Pt):pg l=true↔∀i (h:i+1<l.length),BA l[i] l[i+1]:=by
 unfold pg;rw[decide_eq_true_iff];constructor
 .intro h i hi;have:=h i (by omega);simpa[hi,show i<l.length by omega]using this
 .intro h i hi;have:=h i (by omega);simpa[show i+1<l.length by omega,show i<l.length by omega]using this
theorem nT {l:List Pt} (h:pg l=true):l.Pairwise BA:=nS (R:=BA) (fun _ _ _=>Kr) l ((mM l).1 h)
theorem EN (l:List Pt):pg l=true↔mK l l:=by
 constructor
 .intro h;have hp:=nT h;refine⟨hp.imp fun{a b} f=>by unfold BA at f;unfold jV;omega,fun p=>⟨fun c=>⟨c,?_⟩,fun h=>h.1⟩⟩;rw[o8];intro q g;rw[o6];rcases fE hp c g with rfl|h1|h1
  .omega
  .unfold BA at h1;omega
  .unfold BA at h1;omega
 .intro h;rw[mM];intro i hi;have h1:=gH.1 h.1 i (i+1) (by omega) hi (by omega);have d:=(o8 _ _).1 ((h.2 l[i]).1 (bN _)).2 l[i+1] (bN _);have e:=(o8 _ _).1 ((h.2 l[i+1]).1 (bN _)).2 l[i] (bN _);rw[o6]at d e;unfold jV at h1;unfold BA;omega
def ids (l:List Pt):List Int:=l.map fun p=>p.2.2
def kQ (l:List Pt):Bool:=decide (ids l).Nodup
def Q6 (p q:Pt):Bool:=!decide (jV q p)
def eO (l:List Pt):List Pt:=l.mergeSort Q6
theorem dL (l:List Pt):(eO l).Perm l:=qz l Q6
theorem vo (l:List Pt) (p:Pt):p∈eO l↔p∈l:=(dL l).mem_iff
theorem O4 {l:List Pt} (h:(ids l).Nodup) {p q:Pt} (hp:p∈l) (b:q∈l) (e:p.2.2=q.2.2):p=q:=by
 have a:l.Pairwise fun p q=>p.2.2≠q.2.2:=dE.1 h;rcases fE a hp b with h1|h1|h1
 .exact h1
 .exact absurd e h1
 .exact absurd e.symm h1
theorem fM {l:List Pt} (h:(ids l).Nodup):(eO l).Pairwise jV:=by
 have d:(eO l).Pairwise fun p q=>Q6 p q=true:=qA (le:=Q6) (fun p q r j k=>by simp only[Q6,nO,iA]at*;unfold jV at*;omega) (fun p q=>by simp only[Q6,zF,nO,iA];unfold jV;omega) l;have c:(ids (eO l)).Nodup:=((dL l).map _).nodup_iff.2 h;have e:(eO l).Pairwise fun p q=>p.2.2≠q.2.2:=by
  unfold ids at c;exact dE.1 c
 refine(d.and e).imp fun{a b} g=>?_;have⟨f,i⟩:=g;simp only[Q6,nO,iA]at f;unfold jV at*;omega
def bR (l:List Pt):List Pt:=EM (eO l)
theorem kG {l:List Pt} (h:(ids l).Nodup):mK l (bR l):=(Ck (fM h)).congr (vo l)
theorem Jm {l S:List Pt} (h:(ids l).Nodup) (hS:S.Pairwise jV) (a:∀p,p∈S↔p∈l):S=eO l:=
 o9 rQ Ch hS (fM h) fun p=>by rw[a,vo]
def bsrch (p:Nat->Bool):Nat->Nat->Nat->Nat->Nat×Nat
 |0,lo,_,k=>(lo,k)
 |f+1,lo,hi,k=>if lo<hi then(if p (lo+(hi-lo)/2)then bsrch p f lo (lo+(hi-lo)/2) (k+1)else bsrch p f (lo+(hi-lo)/2+1) hi (k+1))else(lo,k)
theorem Hl (p:Nat->Bool):∀(f g lo hi k:Nat),hi-lo<=f->hi-lo<=g->bsrch p f lo hi k=bsrch p g lo hi k:=by
 intro f
 induction f with
 |zero=>intro g lo hi k a b;cases g with
  |zero=>rfl
  |succ g=>simp[bsrch,show¬lo<hi by omega]
 |succ f ih=>intro g lo hi k a b;cases g with
  |zero=>simp[bsrch,show¬lo<hi by omega]
  |succ g=>
   simp only[bsrch];by_cases h:lo<hi
   .rw[aK h,aK h];rw[ih g _ _ _ (by omega) (by omega),ih g _ _ _ (by omega) (by omega)]
   .rw[aI h,aI h]
theorem DK (p:Nat->Bool):∀(f lo hi k:Nat),hi-lo<=f->(bsrch p f lo hi k).2<=k+(hi-lo)/\(lo<=hi->lo<=(bsrch p f lo hi k).1/\(bsrch p f lo hi k).1<=hi):=by
 intro f
 induction f with
 |zero=>intro lo hi k a;simp[bsrch]
 |succ f ih=>
  intro lo hi k a;simp only[bsrch];by_cases h:lo<hi
  .rw[aK h];split
   .have:=ih lo (lo+(hi-lo)/2) (k+1) (by omega);omega
   .have:=ih (lo+(hi-lo)/2+1) hi (k+1) (by omega);omega
  .rw[aI h];simp
def aR (l:List Int) (x:Int):Nat×Nat:=bsrch (fun i=>decide (x<=l.getD i 0)) l.length 0 l.length 0
def aP (l:List Int) (x:Int):Nat×Nat:=bsrch (fun i=>decide (x<l.getD i 0)) l.length 0 l.length 0
end
section
open Go
abbrev bV (R:List Pt) (i:Nat):Pt:=R.getD i (0,0,0)
def jw (R:List Pt) (i:Nat):Int:=(bV R i).2.2
def kR (R:List Pt) (i:Nat):Int:=(bV R i).2.1
theorem xz {l:List Nat} {n:Nat} (h:l.Nodup) (c:∀k∈l,k<n):l.length<=n:=by
 induction n generalizing l with
 |zero=>
  cases l with
  |nil=>exact ay _
  |cons x l=>exact absurd (c x mZ) (jR _)
 |succ n ih=>
  have f:=ih (l:=l.erase n) (h.erase n) fun k e=>by
   have b:=(List.Nodup.mem_erase_iff h).1 e;have d:=c k b.2;have g:=b.1;omega
  have b:=List.length_erase_le (a:=n) (l:=l);have d:l.length<=(l.erase n).length+1:=by
   rw[List.length_erase];split<;>omega
  omega
structure cB (R:List Pt) (gone:List Bool) (YS:List Nat):Prop where
 zT:R.Pairwise jV
 ids:(ids R).Nodup
 SI:gone.length=R.length
 nodup:YS.Nodup
 live:∀i,i∈YS↔gone[i]? =some false
 Sw:YS.Pairwise fun i k=>sG (bV R i) (bV R k)
theorem cB.lt {R:List Pt} {gone:List Bool} {YS:List Nat} (h:cB R gone YS) {i:Nat} (hi:i∈YS):i<R.length:=by
 have:=(fC.1 ((h.live i).1 hi)).1;have:=h.SI;omega
theorem cB.le {R:List Pt} {gone:List Bool} {YS:List Nat} (h:cB R gone YS):YS.Pairwise fun i k=>kR R i<=kR R k:=
 h.Sw.imp fun h=>by unfold sG at h;unfold kR;omega
theorem cB.len {R:List Pt} {gone:List Bool} {YS:List Nat} (h:cB R gone YS):YS.length<=R.length:=by
 exact xz h.nodup fun k a=>h.lt a
theorem cB.top {R:List Pt} {gone:List Bool} {YS:List Nat} (h:cB R gone YS) (c:0<R.length):nl YS (dK 0 R.length)=YS:=by
 obtain⟨-,a,b⟩:=bO 0 R.length c;unfold nl;refine mH.2 fun i hi=>?_;have:=h.lt hi;rw[a,b];simp;omega
def bU (R:List Pt):List Int:=R.map fun p=>p.1
def iW (R:List Pt) (YS:List Nat):List Int:=YS.map (kR R)
def kV (R:List Pt) (YS:List Nat) (x1 x2 y1 y2:Int):List Nat×Nat:=
 if R=[]\/x2<x1\/y2<y1 then([],0)else
  ((down YS (kR R) y1 y2 (aR (bU R) x1).1 (aP (bU R) x2).1 (dK 0 R.length)).1,
   (aR (bU R) x1).2+(aP (bU R) x2).2+(aR (iW R YS) y1).2+(aP (iW R YS) y2).2+(down YS (kR R) y1 y2 (aR (bU R) x1).1 (aP (bU R) x2).1 (dK 0 R.length)).2)
end
section
open Go.RowKit Go.Shelf
attribute [local go_sem] Oper.semAt_some
def Mv (Bn:Nat) (W W':World):Prop:=∀o,W'.cell? (ae Bn o)=W.cell? (ae Bn o)
theorem Mv.trans {a:Nat} {A B C:World} (h:Mv a A B) (b:Mv a B C):Mv a A C:=fun o=>(b o).trans (h o)
theorem EO {α:Type} (enc:α->Int) (L R:α) (F:Fence) (n:Nat) (hF:F.fn 364) (t:F.round=none) (K:1<=n) (a:Nat) (w:World) (b:a<w.heap.size) (j:w.cell? (ae a 1)=some (aa (enc L))) (k:w.cell? (ae a 2)=some (aa (enc R))) (I:(enc L !=-1)=true) (J:(enc R !=-1)=true):
  SeqStopsK F n prog 364 #[ah a] (fun v:α=>#[aa (enc v)]) (Mv a) (fun xs=>xs=[L,R]) (fun f=>f=[L]\/f=[L,R]) 2 w:=fun l z A W c _ _ d i=>by
 have H:W.cell? (ae a 1)=some (aa (enc L)):=(c.cell (p:=(ae a 1)) b).trans j;have h:W.cell? (ae a 2)=some (aa (enc R)):=(c.cell (p:=(ae a 2)) b).trans k;refine callsIn_of_wp func364 rfl hF ?_ t;simp only[ntmps364,List.size_toArray,List.length_cons,List.length_nil,Nat.reduceAdd,Nat.reduceSub,Array.replicate_succ,Array.replicate_zero,List.push_toArray,List.append_toArray,List.nil_append,List.cons_append];have⟨f1,t1,C,E,y,q⟩:=d [] L W i (by simp);dsimp only at y
 gi_wp2
 refine q.mono ?_;rintro e g (⟨rfl,m,s⟩|⟨rfl,u⟩)
 .have d2:=(s 2).trans h;have⟨f2,t2,D,G,M,r⟩:=d [L] R g m (by simp)
  gi_wp2
  refine r.mono ?_;rintro e B (⟨rfl,o,_⟩|⟨rfl,x⟩)
  .gi_wp2
   go_end0
   exact⟨⟨_,rfl⟩,.inl ⟨[L,R],rfl,o⟩⟩
  .gi_wp2
   go_end0
   exact⟨⟨_,rfl⟩,.inr ⟨[L,R],.inr rfl,x⟩⟩
 .gi_wp2
  refine jT (jZ rfl _ _ _) rfl ?_;exact⟨⟨_,rfl⟩,.inr ⟨[L],.inl rfl,u⟩⟩
theorem Jn {α:Type} (enc:α->Int) (F:Fence) (n:Nat) (hF:F.fn 364) (g:F.round=none) (q:1<=n) (a:Nat) (w:World) (b:a<w.heap.size) (e:w.cell? (ae a 1)=some (aa (-1))) (f:w.cell? (ae a 2)=some (aa (-1))):
  SeqStopsK F n prog 364 #[ah a] (fun v:α=>#[aa (enc v)]) (Mv a) (fun xs=>xs=[]) (fun r=>False) 0 w:=fun l i j W c _ _ o d=>by
 have k:W.cell? (ae a 1)=some (aa (-1)):=(c.cell (p:=(ae a 1)) b).trans e;have m:W.cell? (ae a 2)=some (aa (-1)):=(c.cell (p:=(ae a 2)) b).trans f;refine zO func364 rfl hF ?_ g;simp only[ntmps364,qh,dY,fB,Nat.reduceAdd,Nat.reduceSub,qa,qb,qi,qd,fK,lX]
 gi_wp2
 refine⟨fun _ h=>(by cases h),?_⟩
 gi_wp2
 go_end0
 exact⟨⟨_,rfl⟩,.inl ⟨[],rfl,d⟩⟩
def nU (d:Nd):List Value:=[.int .u8 d.kind,.int .i64 d.l,.int .i64 d.r,.int .i64 d.fr,.int .i64 d.Jk,.int .i64 0,.int .i64 d.item]
abbrev zU (k l r f t i:Int):Value:=.agg #[.int .u8 k,aa l,aa r,aa f,aa t,aa 0,aa i]
theorem iZ (d:Nd):(nU d).length=7:=rfl
theorem Jo (d:Nd):∀u∈nU d,u.oneCell'=true:=by intro u hu;simp[nU]at hu;rcases hu with rfl|rfl|rfl|rfl|rfl|rfl|rfl<;>rfl
theorem Q7:eH prog 141 163 7 56:=.mk' (z:=.agg #[.int .u8 0,aa 0,aa 0,aa 0,aa 0,aa 0,aa 0]) underlying141 (by kernel_rfl) rfl (by decide)
abbrev kH (k l r f t i:Int):Obj:=.cells #[.int .u8 k,aa l,aa r,aa f,aa t,aa 0,aa i] 163
theorem yV (F:Fence) (n:Nat) (hF:F.fn 343) (a:F.round=none) (k l r f t i:Int) (w:World):
  CallsIn F n prog 343 #[zU k l r f t i] w fun e w'=>e=.returned (.func (.func 364) #[] #[ah w.heap.size])/\w'=w.alloc (kH k l r f t i):=by
 refine zO func343 rfl hF ?_ a;simp only[ntmps343,qh,dY,fB,Nat.reduceAdd,Nat.reduceSub,qa,qb,qi,qd,fK,lX]
 gi_wp2
 go_ret;exact⟨rfl,rfl⟩
def marked {m:Nat} (kid:List Bool) (xs:List {q:Nat // q<m}):List Bool:=xs.foldl (fun l x=>l.set x.1 true) kid
theorem Hm {m:Nat} (a:List Bool) (xs:List {q:Nat // q<m}):(marked a xs).length=a.length:=by
 unfold marked
 induction xs generalizing a with
 |nil=>rfl
 |cons x xs ih=>rw[zG,ih,jY]
theorem EP {m:Nat} (a:List Bool) (xs:List {q:Nat // q<m}) (x:{q:Nat // q<m}):marked a (xs++[x])=(marked a xs).set x.1 true:=by unfold marked;rw[List.foldl_append];rfl
theorem yX {a B:Nat} (h:a<B) (W:World) (l:Nat) (o b:Obj) (d:B<=l):Mv a W (W.putObj l b):=fun q=>dD (World.putObj_heap_other (fun e=>by have c:a=l:=(by first|exact e|exact e.symm);omega))
def Q8 (w0:World) (bx g:Nat) (kv:Value) (m base:Nat) (kid:List Bool) (pre:List {q:Nat // q<m}) (W:World):Prop:=
 W.heap[bx]? =some (.cells #[kv] 95 (0,0))/\W.ownsRow base 4 1 kv m ((marked kid pre).map Value.bool)/\au (fun k=>k=g) w0 W
theorem Mw {w0:World} {B bx g m base:Nat} {u:Value} {r:List Bool} (n:w0.heap.size<=B):OwnFrom B (Q8 w0 bx g u m base r):=by
 rintro s W W' z ⟨c,d,l⟩ h j;have i:∀(b:Nat) cs t fr,W.heap[b]? =some (.cells cs t fr)->W'.heap[b]? =W.heap[b]? :=fun b cs t fr f=>h.block b (aZ.1 f).1 fun e=>by
  obtain⟨-,o,a,p⟩:=j b e.symm;rw[f]at a;injection a with a;subst a;cases p
 refine⟨(i _ _ _ _ c).trans c,aV d fun y e=>?_,l.grown h fun k e=>.inr (bJ n (j k e).1)⟩;rcases d.2 with⟨rfl,_⟩|⟨x,v,w,rfl,_,q,_⟩
 .cases e
 .simp only[Value.ownBlock,iV]at e;subst e;exact i _ _ _ _ q
theorem ER (W:World) (v:Value) (t:TypeId):∀j u,[v][j]? =some u->(W.alloc (.cells #[v] t)).cell? (((ae W.heap.size 0):Addr).add j)=some u:=by
 intro j u hu;have a:((ae W.heap.size 0):Addr).add j=(ae W.heap.size j):=by unfold Addr.add;split<;>simp_all
 rw[a,ed _ _ _ _ (by rfl)];simpa using hu
def Mx (w:World) (base m:Nat) (kv:Value) (kid:List Bool) (e:Ending) (w':World):Prop:=
 ∃v',e=.returned v'/\w'.ownsRow base 4 1 v' (m+1) ((kid++[false]).map Value.bool)/\(v'.ownBlock=kv.ownBlock\/∃b,v'.ownBlock=some b/\w.heap.size<=b)/\au (fun k=>kv.ownBlock=some k) w w'
theorem Ho (F:Fence) (n:Nat) (hF:F.fn 320) (X:F.fn 343) (I:F.fn 364) (y:F.round=none) (aL:3<=n) (k f t r:Int) (i j:Nat) (g m a base:Nat) (b:List Bool) (w:World) (ak:b.length=m) (aJ:m<=100000) (hi:i<m) (ai:j<m)
  (M:w.ownsRow base 4 1 (aj g m a) m (b.map Value.bool)) (aH:base<=w.heap.size):
  CallsIn F n prog 320 #[zU k i j f t r,aj g m a] w (Mx w base m (aj g m a) ((b.set i true).set j true)):=by
 have U:1<=n:=by omega
 have R:=af M;have aI:g<w.heap.size:=(M.lt g rfl).2;refine zk func320 rfl hF ?_ y;simp only[ntmps320,qh,dY,fB,Nat.reduceAdd,Nat.reduceSub,qa,qb,qi,qd,fK,lX]
 gi_wp2_with (gi_at_call 343;refine(yV F (n-1) X y _ _ _ _ _ _ _).mono ?_;rintro e w' ⟨rfl,rfl⟩)
 obtain⟨wk,d⟩:∃wk,wk=((w.alloc (kH k i j f t r)).alloc (.cells #[aj g m a] 95)).alloc (kH k i j f t r):=⟨_,rfl⟩;have H:Below w.heap.size w wk:=by rw[d];exact(((aB _ w).alloc (ay _) _).alloc (by simp) _).alloc (by simp;omega) _
 have aP:wk.heap.size=w.heap.size+3:=by rw[d];simp
 have ac:wk.heap[w.heap.size+1]? =some (.cells #[aj g m a] 95 (0,0)):=by
  rw[d];exact(bY _ _ _ (by simp)).trans (xx w _ _)
 have am:wk.cell? (ae (w.heap.size+1+1) 1)=some (aa i):=by
  rw[d,ed _ _ _ _ (by simp)];rfl
 have an:wk.cell? (ae (w.heap.size+1+1) 2)=some (aa j):=by
  rw[d,ed _ _ _ _ (by simp)];rfl
 rw[<-d];have Y:Q8 w (w.heap.size+1) g (aj g m a) m base b [] wk:=⟨ac,ax R.o H,(au.refl _ w).below H⟩;have Q:=af Y;refine De y U (gf:=364) (lb:=#[ah (w.heap.size+1+1)]) rfl I (cK func364 (by kernel_rfl) rfl)
  (EO (α:={q:Nat // q<m}) (fun x=>(x.1:Int)) ⟨i,hi⟩ ⟨j,ai⟩ F (n-1) I y (by omega) (w.heap.size+1+1) wk (by omega) am an (by simp) (by simp)) Mv.trans (fun W l o aA al _ _ _=>yX (B:=wk.heap.size) (by omega) W l o aA al) (aB _ _) (fun _=>rfl)
  (fun s W=>Q8 w (w.heap.size+1) g (aj g m a) m base b s W)
  (fun _ _ _=>False)
  (Mw (by omega))
  (fun _ _ _ _ _ N _ _=>N)
  Q.o
  (fun x=>{tmps:=#[zU k i j f t r,aj g m a,ah w.heap.size,ah (w.heap.size+1),aG,aa x.1,zU k i j f t r,.func (.func 364) #[] #[ah (w.heap.size+1+1)],aa x.1,undef,undef,undef,undef,undef,undef],defers:=[]}) ?assign ?body ?done ?stop
 case assign=>
  intro l x W K C
  gi_wp2
  exact C
 case body=>
  rintro l s ⟨q,aM⟩ W ⟨u,p,v⟩ _;have ad:W.cell? (ae (w.heap.size+1) 0)=some (aj g m a):=by simp[World.cell?,u]
  have aK:(marked b s).length=m:=by rw[Hm];exact ak
  have z:=p.cellAt q (by omega);obtain⟨G,ab⟩:∃G,(marked b s)[q]? =some G:=⟨_,dw (by omega)⟩;rw[gY,ab]at z;simp only[aO]at z;have aE:=p.frozenAt q;have aN:(q:Int)<(m:Int):=by omega
  have O:=(p.stored q (.bool true)).1;rw[<-j3]at O;have P:=af u;have T:=af O;have A:=af v
  gi_wp2
  refine⟨wO _ _ _,fun o=>dD (az (by simp;omega)),(az (by simp;omega)).trans P.o,?_,A.o.set _ (.inl rfl)⟩;rw[EP];exact T.o
 case done=>
  rintro D aQ W aF rfl ⟨u,p,v⟩ C;have ad:W.cell? (ae (w.heap.size+1) 0)=some (aj g m a):=by simp[World.cell?,u]
  have⟨aw,aD,ag,ap,aq,ar,av⟩:=xw.QE;have N:=v.size;have S:=af (p.alloc (.cells #[.bool false] 4));have A:=af (v.alloc (.cells #[.bool false] 4));have E:=af C
  gi_wp2_with (gi_at_builtin;refine wpListIn_append_own_at _ rfl _ _ 95 rfl base 4 aw aD 1 1 underlying95 ag ap aq ar av (by decide) _ _ _ rfl S.o (ae W.heap.size 0) 1 1 [.bool false] rfl rfl (ER _ _ _) (by simp[Value.oneCell']) (by unfold maxLen;omega) (by omega) (by simp;omega) ?_;intro aC w1 ao L _ Z)
  have V:D<W.heap.size:=(aZ.1 E.o).1;have J:w1.heap[D]? =some (.deferred (some [])):=(L.block D (by simp;omega) (fun e=>by have h9:D=g:=(by injection e);omega)).trans ((bY _ _ _ V).trans E.o);refine⟨by simp,.inl ⟨_,_,rfl,zC J,?_⟩⟩;refine⟨_,results_tmp rfl _ _ _,aC,rfl,ownsRow_putObj (by rw[bS];exact ao) _ J rfl,?_,?_⟩
  .rcases Z with h9|h9
   .exact .inl h9
   .exact .inr ⟨_,h9,by simp;omega⟩
  .exact(((A.o.mono (fun k h=>by rw[h];rfl)).grown L (fun k e=>.inl e)).grown (zH w1 D _) (fun k e=>by cases e;exact .inr (by omega)))
 case stop=>
  rintro D c s W _ _ h _;exact h.elim
def MB (w0:World) (bx:Nat) (kv:Value) (m base:Nat) (kid:List Bool) (pre:List {q:Nat // q<m}) (W:World):Prop:=
 W.heap[bx]? =some (.cells #[kv] 95 (0,0))/\W.ownsRow base 4 1 kv m ((marked kid pre).map Value.bool)/\au (fun k=>kv.ownBlock=some k) w0 W
theorem Kt {w0:World} {B bx m base:Nat} {r:Value} {q:List Bool} (l:w0.heap.size<=B):OwnFrom B (MB w0 bx r m base q):=by
 rintro s W W' y ⟨c,d,j⟩ g i;have h:∀(b:Nat) cs t fr,W.heap[b]? =some (.cells cs t fr)->W'.heap[b]? =W.heap[b]? :=fun b cs t fr f=>g.block b (aZ.1 f).1 fun e=>by
  obtain⟨-,o,a,n⟩:=i b e.symm;rw[f]at a;injection a with a;subst a;cases n
 refine⟨(h _ _ _ _ c).trans c,aV d fun x e=>?_,j.grown g fun k e=>.inr (bJ l (i k e).1)⟩;rcases d.2 with⟨rfl,_⟩|⟨w,u,v,rfl,_,p,_⟩
 .cases e
 .simp only[Value.ownBlock,iV]at e;subst e;exact h _ _ _ _ p
theorem Ku (F:Fence) (n:Nat) (hF:F.fn 320) (O:F.fn 343) (v:F.fn 364) (j:F.round=none) (ar:3<=n) (k f t g:Int) (b:Option Addr) (m a base:Nat) (i:List Bool) (w:World) (ap:i.length=m) (aq:m<=100000)
  (C:w.ownsRow base 4 1 (.slice b m a) m (i.map Value.bool)) (an:base<=w.heap.size):
  CallsIn F n prog 320 #[zU k (-1) (-1) f t g,.slice b m a] w (Mx w base m (.slice b m a) i):=by
 have M:1<=n:=by omega
 have I:=af C;have L:=af C;refine zk func320 rfl hF ?_ j;simp only[ntmps320,qh,dY,fB,Nat.reduceAdd,Nat.reduceSub,qa,qb,qi,qd,fK,lX]
 gi_wp2_with (gi_at_call 343;refine(yV F (n-1) O j _ _ _ _ _ _ _).mono ?_;rintro e w' ⟨rfl,rfl⟩)
 obtain⟨wk,d⟩:∃wk,wk=((w.alloc (kH k (-1) (-1) f t g)).alloc (.cells #[.slice b m a] 95)).alloc (kH k (-1) (-1) f t g):=⟨_,rfl⟩;have u:Below w.heap.size w wk:=by rw[d];exact(((aB _ w).alloc (ay _) _).alloc (by simp) _).alloc (by simp;omega) _
 have av:wk.heap.size=w.heap.size+3:=by rw[d];simp
 have S:wk.heap[w.heap.size+1]? =some (.cells #[.slice b m a] 95 (0,0)):=by
  rw[d];exact(bY _ _ _ (by simp)).trans (xx w _ _)
 have V:wk.cell? (ae (w.heap.size+1+1) 1)=some (aa (-1)):=by
  rw[d,ed _ _ _ _ (by simp)];rfl
 have X:wk.cell? (ae (w.heap.size+1+1) 2)=some (aa (-1)):=by
  rw[d,ed _ _ _ _ (by simp)];rfl
 rw[<-d];have P:MB w (w.heap.size+1) (.slice b m a) m base i [] wk:=⟨S,ax I.o u,(au.refl _ w).below u⟩;have G:=af P;refine De j M (gf:=364) (lb:=#[ah (w.heap.size+1+1)]) rfl v (cK func364 (by kernel_rfl) rfl)
  (Jn (α:={q:Nat // q<m}) (fun x=>(x.1:Int)) F (n-1) v j (by omega) (w.heap.size+1+1) wk (by omega) V X) Mv.trans (fun W l o aj U _ _ _=>yX (B:=wk.heap.size) (by omega) W l o aj U) (aB _ _) (fun _=>rfl)
  (fun r W=>MB w (w.heap.size+1) (.slice b m a) m base i r W)
  (fun _ _ _=>False)
  (Kt (by omega))
  (fun _ _ _ _ _ E _ _=>E)
  G.o
  (fun x=>{tmps:=#[zU k (-1) (-1) f t g,.slice b m a,ah w.heap.size,ah (w.heap.size+1),aG,aa x.1,zU k (-1) (-1) f t g,.func (.func 364) #[] #[ah (w.heap.size+1+1)],aa x.1,undef,undef,undef,undef,undef,undef],defers:=[]}) ?assign ?body ?done ?stop
 case assign=>
  intro l x W K p
  gi_wp2
  exact p
 case body=>
  intro l r x W _ h;exact absurd h (jR _)
 case done=>
  rintro D aw W am rfl ⟨R,Z,A⟩ p;have ao:W.cell? (ae (w.heap.size+1) 0)=some (.slice b m a):=by simp[World.cell?,R]
  have⟨ai,al,T,ab,ac,ad,ag⟩:=xw.QE;have E:=A.size;have J:=af (Z.alloc (.cells #[.bool false] 4));have H:=af (A.alloc (.cells #[.bool false] 4));have s:=af p
  gi_wp2_with (gi_at_builtin;refine wpListIn_append_own_at _ rfl _ _ 95 rfl base 4 ai al 1 1 underlying95 T ab ac ad ag (by decide) _ _ _ rfl J.o (ae W.heap.size 0) 1 1 [.bool false] rfl rfl (ER _ _ _) (by simp[Value.oneCell']) (by unfold maxLen;omega) (by omega) (by simp;omega) ?_;intro ak w1 Y z _ Q)
  have N:D<W.heap.size:=(aZ.1 s.o).1;have y:w1.heap[D]? =some (.deferred (some [])):=(z.block D (by simp;omega) (fun e=>by have h9:=(L.o.lt D e.symm).2;omega)).trans ((bY _ _ _ N).trans s.o);refine⟨by simp,.inl ⟨_,_,rfl,zC y,?_⟩⟩;refine⟨_,results_tmp rfl _ _ _,ak,rfl,ownsRow_putObj (by rw[bS];exact Y) _ y rfl,?_,?_⟩
  .rcases Q with h9|h9
   .exact .inl h9
   .exact .inr ⟨_,h9,by simp;omega⟩
  .exact(((H.o).grown z (fun k e=>.inl e)).grown (zH w1 D _) (fun k e=>by cases e;exact .inr (by omega)))
 case stop=>
  rintro D c r W _ _ h _;exact h.elim
theorem O5 (k f t c:Int) (i j:Nat) (g m a base:Nat) (b:List Bool) (w:World) (h:b.length=m) (l:m<=100000) (hi:i<m) (e:j<m)
  (o:w.ownsRow base 4 1 (aj g m a) m (b.map Value.bool)) (d:base<=w.heap.size):
  aH 320 #[zU k i j f t c,aj g m a] w (Mx w base m (aj g m a) ((b.set i true).set j true)):=by
 refine(xk (n:=3)).1 ?_;exact Ho _ 3 trivial trivial trivial rfl (by decide) k f t c i j g m a base b w h l hi e o d
theorem Q9 (k f t d:Int) (b:Option Addr) (m a base:Nat) (c:List Bool) (w:World) (g:c.length=m) (h:m<=100000)
  (i:w.ownsRow base 4 1 (.slice b m a) m (c.map Value.bool)) (e:base<=w.heap.size):
  aH 320 #[zU k (-1) (-1) f t d,.slice b m a] w (Mx w base m (.slice b m a) c):=by
 refine(xk (n:=3)).1 ?_;exact Ku _ 3 trivial trivial trivial rfl (by decide) k f t d b m a base c w g h i e
end
section
open Go Go.RowKit
section
variable {P:Program} {ops:Array Oper} {Q:Exit->Act->World->Prop} {md:Region.Mode} {C:World->Prop} {T:List Nat}
def fe (P:Program) (md:Region.Mode) (ops:Array Oper) (Q:Exit->Act->World->Prop) (C:World->Prop) (T:List Nat):Nat->Array Bool->Act->World->Prop
 |0,listed,a,w=>Region.ready md ops listed=[]/\Q .normal a w
 |fuel+1,listed,a,w=>
  (Region.ready md ops listed=[]->Q .normal a w)/\
  ∀i∈Region.ready md ops listed,wpOp P ops Q i (fun a' w'=>(C w->i∉T->C w')/\fe P md ops Q C T fuel (listed.setIfInBounds i true) a' w') a w
theorem uC:∀(fuel:Nat) (b:Array Bool) (a:Act) (w:World),fe P md ops Q C T fuel b a w->wpAny P md ops Q fuel b a w
 |0,_,_,_,h=>h
 |fuel+1,_,_,_,h=>⟨h.1,fun i hi=>wpOp_mono (fun a' w' h'=>uC fuel _ a' w' h'.2) (h.2 i hi)⟩
def lI (md:Region.Mode) (ops:Array Oper) (listed:Array Bool):Prop:=
 ∀j oj,ops[j]? =some oj->listed.getD j false=true->∀e∈oj.after,Region.binds md e=true->listed.getD e.on false=true
theorem lI.set {i:Nat} {a:Array Bool} (inv:lI md ops a) (hi:i∈Region.ready md ops a):lI md ops (a.setIfInBounds i true):=by
 have⟨_,m,l,k⟩:=mem_ready.1 hi;intro j h f g e c b;by_cases d:i=j
 .subst d;have:h=m:=Du (f.symm.trans l);subst this;exact getD_set_true (k e c b)
 .rw[getD_set_ne false d]at g;exact getD_set_true (inv j h f g e c b)
def downs (md:Region.Mode) (ops:Array Oper) (i:Nat):Nat->List Nat
 |0=>[]
 |n+1=>if Region.waitsFor md ops n i||(downs md ops i n).any (fun k=>Region.waitsFor md ops n k)then n::downs md ops i n else downs md ops i n
theorem pq {d:Array Bool} {i:Nat} (inv:lI md ops d):∀(n t:Nat),t∈downs md ops i n->(∀a,ops[t]? =some a->∀e∈a.after,Region.binds md e=true->d.getD e.on false=true)->d.getD i false=true
 |0,t,h,_=>by cases h
 |n+1,t,h,hd=>by
  unfold downs at h;split at h
  .rename_i hc;rcases gP.1 h with h|h
   .rw[h]at hd;rcases(zF _ _).mp hc with hc|hc
    .obtain⟨a,g,e,c,b,f⟩:=Region.waitsFor_spec hc;exact f▸hd a g e c b
    .obtain⟨k,j,hc⟩:=List.any_eq_true.1 hc;have⟨a,g,e,c,b,f⟩:=Region.waitsFor_spec hc;have l:d.getD k false=true:=f▸hd a g e c b;exact pq inv n k j fun o m e c b=>inv k o m l e c b
   .exact pq inv n t h hd
  .exact pq inv n t h hd
theorem DL {i:Nat} {n:Oper} {v:Value} {b:Bool} (hi:ops[i]? =some n) (G:∀(j:Nat) (o:Oper) cs b,ops[j]? =some o->o.op≠.select cs b)
  (K:∀c a w,Q (.panic c) (a.put n.dst v) w->Q (.panic c) a w) (L:b=true->∀t∈T,t∈downs md ops i ops.size):
  ∀(fuel:Nat) (d:Array Bool) (a:Act) (w:World),lI md ops d->
   (∀j l,ops[j]? =some l->j≠i->d.getD j true=false->(∀e∈l.after,Region.binds md e=true->e.on≠i)->n.apart ops l=true)->
   i∈Region.ready md ops d->YieldsIf P ops (fun w=>b=true->C w) n v a->(b=true->C w)->
   fe P md ops Q C T fuel (d.setIfInBounds i true) (a.put n.dst v) w->fe P md ops Q C T (fuel+1) d a w:=by
 intro fuel
 induction fuel with
 |zero=>
  intro d a w inv _ m x hS H;refine⟨fun h=>(by rw[h]at m;cases m),fun j p=>?_⟩;by_cases g:j=i
  .subst g;exact x.wpOp hi hS ⟨fun h _=>h,H⟩
  .have:=ready_mono p g;rw[H.1]at this;cases this
 |succ fuel ih=>
  intro d a w inv B m x hS H;refine⟨fun h=>(by rw[h]at m;cases m),fun j p=>?_⟩;by_cases g:j=i
  .subst g;exact x.wpOp hi hS ⟨fun h _=>h,H⟩
  .have r:=H.2 j (ready_mono p g);have⟨F,l,u,A⟩:=mem_ready.1 p;have D:=getD_both (mem_ready.1 m).1;have z:b=true->j∉T:=fun f z=>by
    have:=pq inv ops.size j (L f j z) (fun W V e y f=>by
     have:W=l:=Du (V.symm.trans u);subst this;exact A e y f)
    rw[D]at this;cases this
   have U:∀e∈l.after,Region.binds md e=true->e.on≠i:=fun e y f M=>by
    have r:=A e y f;rw[M,D]at r;cases r
   have J:=wpOp_putIf u (B j l u g F U) (fun cs b=>G i n cs b hi) (fun cs b=>G j l cs b u) K x r;have N:∀k q,ops[k]? =some q->k≠i->(d.setIfInBounds j true).getD k true=false->
     (∀e∈q.after,Region.binds md e=true->e.on≠i)->n.apart ops q=true:=fun k q O R I S=>by
    refine B k q O R ?_ S;by_cases E:j=k
    .subst E;exact F
    .rw[getD_set_ne true E]at I;exact I
   refine wpOp_mono (fun a' w' s=>⟨s.2.1,ih (d.setIfInBounds j true) a' w' (inv.set p) N (ready_mono m (iG g)) s.1 (fun f=>s.2.1 (hS f) (z f)) ?_⟩) J;rw[Array.setIfInBounds_comm _ _ g];exact s.2.2
def Oper.fo (P:Program) (o:Oper) (a:Act) (C:World->Prop) (b:Bool) (next:Act->Prop):Prop:=∃v,(∀w,(b=true->C w)->(execOp a.eval o).run P w=.ok (.value v) w)/\next (a.put o.dst v)
def wpHd (P:Program) (ops:Array Oper) (C:World->Prop) (L:Act->Prop):List (Oper×Bool)->Act->Prop
 |[],a=>L a
 |o::rest,a=>if Region.wanted o.1 (yielded ops a.tmps)then Oper.fo P o.1 a C o.2 (wpHd P ops C L rest)else wpHd P ops C L rest (a.put o.1.dst undef)
theorem aJ {L:Act->Prop} {a:Act} (h:L a):wpHd P ops C L [] a:=h
theorem aD {L:Act->Prop} {a:Act} {o:Oper} {b:Bool} {rest:List (Oper×Bool)}
  (h:∀K:Act->Prop,(∀a,wpHd P ops C L rest a->K a)->if Region.wanted o (yielded ops a.tmps)then Oper.fo P o a C b K else K (a.put o.dst undef)):wpHd P ops C L ((o,b)::rest) a:=
 h _ (fun _ h=>h)
def headOK (md:Region.Mode) (ops:Array Oper) (T:List Nat):List (Nat×Bool)->Array Bool->Bool
 |[],_=>true
 |i::l,listed=>(Region.ready md ops listed).contains i.1&&Region.free md ops listed i.1&&(!i.2||T.all (fun t=>(downs md ops i.1 ops.size).contains t))&&headOK md ops T l (listed.setIfInBounds i.1 true)
def mO:List (Nat×Bool)->Array Bool->Array Bool
 |[],listed=>listed
 |i::l,listed=>mO l (listed.setIfInBounds i.1 true)
def pick (ops:Array Oper) (hd:List Nat):List Oper:=hd.filterMap fun i=>ops[i]?
def bn (ops:Array Oper) (hd:List (Nat×Bool)):List (Oper×Bool):=hd.filterMap fun i=>ops[i.1]?.map fun o=>(o,i.2)
theorem qY (q:Region.noSelect ops=true) (o:∀c a d v w,Q (.panic c) (Act.put a d v) w->Q (.panic c) a w) {fuel:Nat} {w:World} (n:C w):
  ∀(hd:List (Nat×Bool)) (e:Array Bool) (a:Act),lI md ops e->headOK md ops T hd e=true->wpHd P ops C (fun a'=>fe P md ops Q C T fuel (mO hd e) a' w) (bn ops hd) a->fe P md ops Q C T (fuel+hd.length) e a w
 |[],e,a,_,_,h=>h
 |(i,b)::l,e,a,inv,m,h=>by
  simp only[headOK,l5]at m;obtain⟨⟨⟨z,y⟩,p⟩,s⟩:=m;have k:i∈Region.ready md ops e:=by simpa using z
  have⟨_,g,hi,_⟩:=mem_ready.1 k;have u:b=true->∀t∈T,t∈downs md ops i ops.size:=fun x t ht=>by
   subst x;simp only[zN,Bool.false_or]at p;have:=tY.1 p t ht;simpa using this
  have hp:bn ops ((i,b)::l)=(g,b)::bn ops l:=by simp[bn,hi]
  rw[hp]at h;have ih:=fun a'=>qY (fuel:=fuel) q o n l (e.setIfInBounds i true) a' (inv.set k) s;have key:∀v,YieldsIf P ops (fun w=>b=true->C w) g v a->wpHd P ops C (fun a'=>fe P md ops Q C T fuel (mO l (e.setIfInBounds i true)) a' w) (bn ops l) (a.put g.dst v)->fe P md ops Q C T (fuel+((i,b)::l).length) e a w:=fun v A j=>
   DL hi (Region.noSelect_spec q) (fun c a w h=>o c a _ _ w h) u _ e a w inv (Region.free_spec hi y) k A (fun _=>n) (ih _ j)
  by_cases f:Region.wanted g (yielded ops a.tmps)=true
  .simp only[wpHd,f,gD]at h;have⟨v,r,j⟩:=h;exact key v (.inl ⟨f,r⟩) j
  .simp only[wpHd,f]at h;exact key undef (.inr ⟨by simpa using f,rfl⟩) h
theorem qZ {id:Nat} {a:Act} {w:World} {l:List Oper} (C:World->Prop) (T:List Nat) (hd:List (Nat×Bool)) (k:P.follows .mixedOrders=true) (o:Region.noSelect l.toArray=true) (i:∀c a d v w,Q (.panic c) (Act.put a d v) w->Q (.panic c) a w) (g:C w.drew)
  (n:Nat) (m:n+hd.length=l.length) (f:headOK .any l.toArray T hd (Array.replicate l.length false)=true)
  (h:wpHd P l.toArray C (fun a'=>fe P .any l.toArray Q C T n (mO hd (Array.replicate l.length false)) a' w.drew) (bn l.toArray hd) a):(Code.region id l.toArray true).wp P Q a w:=by
 refine wp_region_any k (uC (C:=C) (T:=T) _ _ _ _ ?_);have b:=qY (md:=.any) (ops:=l.toArray) (T:=T) o i g hd (Array.replicate l.length false) a (fun j p _ e=>by rw[getD_replicate_false]at e;cases e) f h;rw[m]at b;simpa using b
def bA (P:Program) (md:Region.Mode) (ops:Array Oper) (Q:Exit->Act->World->Prop) (C:World->Prop) (T:List Nat) (fuel:Nat) (listed:Array Bool) (a:Act) (w:World) (rs:List Nat):Prop:=
 ∀i∈rs,wpOp P ops Q i (fun a' w'=>(C w->i∉T->C w')/\fe P md ops Q C T fuel (listed.setIfInBounds i true) a' w') a w
theorem bA.nil {fuel:Nat} {b:Array Bool} {a:Act} {w:World}:bA P md ops Q C T fuel b a w []:=fun _ h=>by cases h
theorem bA.cons {fuel:Nat} {b:Array Bool} {a:Act} {w:World} {i:Nat} {o:Oper} {d:List Nat} (k:ops[i]? =some o)
  (h:∀K:Act->World->Prop,(∀a' w',(C w->i∉T->C w')->fe P md ops Q C T fuel (b.setIfInBounds i true) a' w'->K a' w')->if Region.wanted o (yielded ops a.tmps)=true then Oper.wp P o a w K Q else K (a.put o.dst undef) w)
  (l:bA P md ops Q C T fuel b a w d):bA P md ops Q C T fuel b a w (i::d):=fun j hj=>by
 rcases gP.1 hj with e|hj
 .rw[e];have:=h (fun a' w'=>(C w->i∉T->C w')/\fe P md ops Q C T fuel (b.setIfInBounds i true) a' w') (fun a' w' f g=>⟨f,g⟩);unfold wpOp;simp only[k];split
  .rename_i c;simp only[c,gD]at this;exact .inl this
  .rename_i c;simp only[c]at this;exact this
 .exact l j hj
theorem eT {fuel:Nat} {b:Array Bool} {a:Act} {w:World} (c:List Nat) (d:Region.ready md ops b=c) (f:c≠[]) (h:bA P md ops Q C T fuel b a w c):fe P md ops Q C T (fuel+1) b a w:=
 ⟨fun e=>absurd (d▸e) f,d▸h⟩
theorem kI {b:Array Bool} {a:Act} {w:World} (c:Region.ready md ops b=[]) (h:Q .normal a w):fe P md ops Q C T 0 b a w:=⟨c,h⟩
def lineOK (md:Region.Mode) (ops:Array Oper) (T:List Nat):List Nat->Array Bool->Bool
 |[],listed=>(Region.ready md ops listed).isEmpty
 |i::l,listed=>decide (Region.ready md ops listed=[i])&&T.contains i&&lineOK md ops T l (listed.setIfInBounds i true)
theorem aF:∀(L:List Nat) (b:Array Bool) (a:Act) (w:World),lineOK md ops T L b=true->wpList P ops Q (pick ops L) a w->fe P md ops Q C T L.length b a w
 |[],b,a,w,c,h=>⟨by simpa[lineOK]using c,h⟩
 |i::l,b,a,w,c,h=>by
  simp only[lineOK,l5,bW]at c;obtain⟨⟨d,m⟩,k⟩:=c;have p:i∈Region.ready md ops b:=by rw[d];simp
  have n:i∈T:=by simpa using m
  have⟨_,r,hi,_⟩:=mem_ready.1 p;have hp:pick ops (i::l)=r::pick ops l:=by simp[pick,hi]
  rw[hp]at h;refine⟨fun e=>(by rw[d]at e;cases e),fun j f=>?_⟩;rw[d]at f;have o:j=i:=by simpa using f
  rw[o];have q:wpOp P ops Q i (wpList P ops Q (pick ops l)) a w:=by unfold wpOp;simp only[hi];exact h
  exact wpOp_mono (fun a' w' h'=>⟨fun _ g=>absurd n g,aF l _ a' w' k h'⟩) q
def DN (md:Region.Mode) (ops:Array Oper) (listed:Array Bool):Bool:=
 (List.range ops.size).all fun j=>!listed.getD j false||((ops[j]?.map fun o=>o.after.toList.all fun e=>!Region.binds md e||listed.getD e.on false).getD true)
theorem lI.of {d:Array Bool} (h:DN md ops d=true):lI md ops d:=by
 intro j l c k e g f;have i:j<ops.size:=(aZ.1 c).1;have a:=tY.1 h j (ug.2 i);rw[k,c]at a;simp only[zN,Bool.false_or,aO,gq]at a;have b:=tY.1 a e (by simpa using g);rw[f]at b;simpa using b
theorem ET {fuel n:Nat} {w:World} {b:Array Bool} {a:Act} (hd:List (Nat×Bool)) (k:Region.noSelect ops=true) (g:∀c a d v w,Q (.panic c) (Act.put a d v) w->Q (.panic c) a w) (f:C w) (i:DN md ops b=true)
  (e:headOK md ops T hd b=true) (j:n=fuel+hd.length) (h:wpHd P ops C (fun a'=>fe P md ops Q C T fuel (mO hd b) a' w) (bn ops hd) a):fe P md ops Q C T n b a w:=by
 subst j;exact qY k g f hd b a (lI.of i) e h
theorem ak {id:Nat} {a:Act} {w:World} {l:List Oper} (C:World->Prop) (T:List Nat) (hd:List (Nat×Bool)) (e:C w.drew) (n:Nat) (h:wpHd P l.toArray C (fun a'=>fe P .any l.toArray Q C T n (mO hd (Array.replicate l.length false)) a' w.drew) (bn l.toArray hd) a)
  (g:P.follows .mixedOrders=true:=by kernel_rfl) (j:Region.noSelect l.toArray=true:=by kernel_rfl) (f:∀c a d v w,Q (.panic c) (Act.put a d v) w->Q (.panic c) a w:=by intro _ _ d _ _ h;cases d<;>exact h) (i:n+hd.length=l.length:=by rfl) (b:headOK .any l.toArray T hd (Array.replicate l.length false)=true:=by kernel_rfl):(Code.region id l.toArray true).wp P Q a w:=
 qZ C T hd g j f e n i b h
theorem kW {id:Nat} {a:Act} {w:World} {l:List Oper} (hd:List (Nat×Bool)) (n:Nat) (h:wpHd P l.toArray (fun W=>∃p:aT w,W=p.W) (fun a'=>fe P .any l.toArray Q (fun W=>∃p:aT w,W=p.W) [] n (mO hd (Array.replicate l.length false)) a' w.drew) (bn l.toArray hd) a)
  (f:P.follows .mixedOrders=true:=by kernel_rfl) (i:Region.noSelect l.toArray=true:=by kernel_rfl) (e:∀c a d v w,Q (.panic c) (Act.put a d v) w->Q (.panic c) a w:=by intro _ _ d _ _ h;cases d<;>exact h) (g:n+hd.length=l.length:=by rfl) (b:headOK .any l.toArray [] hd (Array.replicate l.length false)=true:=by kernel_rfl):(Code.region id l.toArray true).wp P Q a w:=
 qZ (fun W=>∃p:aT w,W=p.W) [] hd f i e ⟨⟨_,(aB _ _).drew⟩,rfl⟩ n g b h
theorem aA {fuel:Nat} {b:Array Bool} {a:Act} {w:World} {o:Oper} (i:Nat) (c:ops[i]? =some o)
  (h:∀K:Act->World->Prop,(∀a' w',(C w->i∉T->C w')->fe P md ops Q C T fuel (b.setIfInBounds i true) a' w'->K a' w')->if Region.wanted o (yielded ops a.tmps)=true then Oper.wp P o a w K Q else K (a.put o.dst undef) w)
  (d:Region.ready md ops b=[i]:=by kernel_rfl):fe P md ops Q C T (fuel+1) b a w:=eT [i] d (by simp) (bA.cons c h bA.nil)
theorem bG {fuel n:Nat} {w:World} {b:Array Bool} {a:Act} (hd:List (Nat×Bool)) (f:C w) (j:n=fuel+hd.length) (h:wpHd P ops C (fun a'=>fe P md ops Q C T fuel (mO hd b) a' w) (bn ops hd) a)
  (k:Region.noSelect ops=true:=by kernel_rfl) (g:∀c a d v w,Q (.panic c) (Act.put a d v) w->Q (.panic c) a w:=by intro _ _ d _ _ h;cases d<;>exact h) (i:DN md ops b=true:=by kernel_rfl) (e:headOK md ops T hd b=true:=by kernel_rfl):fe P md ops Q C T n b a w:=ET hd k g f i e j h
end
structure jD (F:World->Prop) where
 W:World
 h:F W
section
variable {P:Program} {ops:Array Oper} {Q:Exit->Act->World->Prop} {md:Region.Mode} {C C':World->Prop} {T T':List Nat}
def QI (ops:Array Oper) (T:List Nat) (listed:Array Bool):Bool:=(List.range ops.size).all fun j=>listed.getD j false||T.contains j
theorem sO:∀(fuel:Nat) (b:Array Bool) (a:Act) (w:World),QI ops T b=true->wpAny P md ops Q fuel b a w->fe P md ops Q C T fuel b a w
 |0,_,_,_,_,h=>h
 |fuel+1,b,a,w,d,h=>⟨h.1,fun i hi=>wpOp_mono (fun a' w' h'=>by
  obtain⟨hu,m,k,-⟩:=mem_ready.1 hi;have l:i<ops.size:=(aZ.1 k).1;have f:i∈T:=by
   have c:=tY.1 d i (ug.2 l);rw[getD_both hu]at c;simpa using c
  refine⟨fun _ e=>absurd f e,sO fuel _ a' w' ?_ h'⟩;refine tY.2 fun j g=>?_;have h2:=tY.1 d j g;rcases(zF _ _).mp h2 with h2|h2
  .rw[getD_set_true h2];rfl
  .rw[h2];simp) (h.2 i hi)⟩
theorem iI (C':World->Prop) (T':List Nat) {fuel:Nat} {b:Array Bool} {a:Act} {w:World} (c:QI ops T b=true) (h:fe P md ops Q C' T' fuel b a w):fe P md ops Q C T fuel b a w:=
 sO fuel b a w c (uC fuel b a w h)
end
theorem zV {P:Program} {ops:Array Oper} {o:Oper} {a:Act} {K:Act->World->Prop} {Q:Exit->Act->World->Prop} {E0:Prop} {f:FuncId} {w:World} {vals:Array Value} {R:Ending->World->Prop} (g:∀args w,(callFunc f args).run P w=.ok (.enter f args) w) (l:Region.wanted o (yielded ops a.tmps)=true) (args:Array Operand) (m:Array TypeId) (j:o.op=.call {callee:=.value (.func f),args:=args,argTypes:=m}) (c:vals=(args.toList.map a.eval).toArray)
  (C:Calls P f vals w R) (h:∀e w',R e w'->∃v,e=.returned v/\K (a.put o.dst v) w'):
  if Region.wanted o (yielded ops a.tmps)=true then Oper.wp P o a w K Q else E0:=by
 rw[aK l];unfold Oper.wp;have b:args.map a.eval=vals:=by rw[c,<-Dp]
 have d:(execOp a.eval o).run P w=.ok (.enter f vals) w:=by
  simp[execOp,j,resolve,invoke,b,Act.eval,Deferred.ofValue,g]
 rw[d,Oper.upon_enter];refine C.mono fun e w' k=>?_;obtain⟨v,rfl,i⟩:=h e w' k;exact i
end
section
open Go.RowKit Go.Sort Go.Shelf Go.Lib Go.Maps
attribute [local irreducible] wpQuiet
attribute [local go_sem] Oper.fo
structure Hq (w:World) (tb:Nat) (N:List Nd) (nm:Nat->Int) (YS:List Nat) (LN LL:Nat->Value):Prop where
 iP:∃gn off cn,w.cell? (ae tb 4)=some (.slice (some (ae gn off)) N.length cn)/\cz nU 7 w (some (ae gn off)) N
 DR:∃gl cl,w.cell? (ae tb 5)=some (aj gl N.length cl)/\gl<w.heap.size/\∀k,k<N.length->w.cell? (ae gl (k*2))=some (LN k)/\w.cell? (ae gl (k*2+1))=some (LL k)
 EU:∀t s,FT.At N t s->∃a c,LN (t.root s)=.slice a (nl YS t).length c/\(nl YS t).length<=c/\Rd (.int .u32) w a ((nl YS t).map nm)
 zW:∀l r s,FT.At N (.node l r) s->∃a c,LL ((FT.node l r).root s)=.slice a (lf l.hi (nl YS (.node l r))).length c/\Rd (.int .i64) w a (lf l.hi (nl YS (.node l r)))
 Cn:∀k,k<N.length->∃a m c,LL k=.slice a m c
theorem Hq.below {w w':World} {tb B:Nat} {N:List Nd} {nm:Nat->Int} {YS:List Nat} {LN LL:Nat->Value} (h:Hq w tb N nm YS LN LL) (b:Below B w w') (o:w.heap.size<=B):Hq w' tb N nm YS LN LL:=by
 have b:=b.mono o;obtain⟨⟨n,off,cn,g,y⟩,⟨gl,cl,m,f,i⟩,v,u,x⟩:=h;have ht:=gW w _ g;exact⟨⟨n,off,cn,(b.cell (p:=(ae tb 4)) ht).trans g,y.below b⟩,
  ⟨gl,cl,(b.cell (p:=(ae tb 5)) ht).trans m,bB f b.size,fun k j=>⟨(b.cell (p:=(ae gl (k*2))) f).trans (i k j).1,(b.cell (p:=(ae gl (k*2+1))) f).trans (i k j).2⟩⟩,
  fun t s d=>by obtain⟨a,c,e,q,r⟩:=v t s d;exact⟨a,c,e,q,r.below b⟩,fun l r s d=>by obtain⟨a,c,e,r⟩:=u l r s d;exact⟨a,c,e,r.below b⟩,x⟩
structure Told (F:Nat) (cb:Array Value) (N:List Nd) (YS:List Nat) (LN LL:Nat->Value) (B:Nat) (w0:World) (FL:List Nat) (S:World->List Nat->(Nat->Prop)->Prop):Prop where
 enters:∀args w,(callFunc F args).run prog w=.ok (.enter F args) w
 base:∀W acc D,S W acc D->Below B w0 W
 lt:∀W acc D,S W acc D->∀k,D k->B<=k/\k<W.heap.size
 jE:∀W W' acc D,S W acc D->Below W.heap.size W W'->S W' acc D
 told:∀W acc D t s a b,S W acc D->FT.At N t s->a<=b->b<=(nl YS t).length->acc++((nl YS t).take b).drop a <+: FL->
  aH F (#[.agg #[LN (t.root s),LL (t.root s)],aa (a:Nat),aa (b:Nat)]++cb) W fun e w'=>e=.returned (.tuple #[])/\∃D',S w' (acc++((nl YS t).take b).drop a) D'/\(∀k,D' k->D k\/W.heap.size<=k)/\au D W w'
structure vv (D:Nat->Prop) (w:World) where
 W:World
 h:au D w W
def Ra (S:World->List Nat->(Nat->Prop)->Prop) (W:World) (D:Nat->Prop) (acc:List Nat) (n:Nat) (e:Ending) (w':World):Prop:=
 e=.returned (aa n)/\∃D',S w' acc D'/\(∀k,D' k->D k\/W.heap.size<=k)/\au D W w'
theorem EW:∀args w,(callFunc 172 args).run prog w=.ok (.enter 172 args) w:=cK func172 (by kernel_rfl) rfl
theorem l9 {w:World} {g off:Nat} {N:List Nd} {i:Nat} {d:Nd} (h:cz nU 7 w (some (ae g off)) N) (hi:N[i]? =some d):
  g<w.heap.size/\w.cell? (ae g (off+i*7))=some (.int .u8 d.kind)/\w.cell? (ae g (off+i*7+1))=some (aa d.l)/\w.cell? (ae g (off+i*7+2))=some (aa d.r)/\w.cell? (ae g (off+i*7+3))=some (aa d.fr)/\w.cell? (ae g (off+i*7+4))=some (aa d.Jk)/\w.cell? (ae g (off+i*7+5))=some (aa 0)/\w.cell? (ae g (off+i*7+6))=some (aa d.item):=by
 have⟨a,hd⟩:=fC.1 hi;rcases h with h|⟨b,o,e,f,j⟩
 .subst h;simp at a
 .cases e;have c:=j i a;rw[hd]at c;exact⟨f,c 0 (by omega),c 1 (by omega),c 2 (by omega),c 3 (by omega),c 4 (by omega),c 5 (by omega),c 6 (by omega)⟩
theorem MC (n:Int) (h:-9223372036854775808<=n/\n<=9223372036854775807):wrap64 n=n:=by unfold wrap64;omega
theorem lQ {YS:List Nat} {yv:Nat->Int} {y1 y2:Int} {fr ub:Nat}:∀t:FT,(down YS yv y1 y2 fr ub t).2<=t.size
 |.leaf a=>by
  rw[down];split<;>exact ay _
 |.node l r=>by
  have b:=lQ (YS:=YS) (yv:=yv) (y1:=y1) (y2:=y2) (fr:=fr) (ub:=ub) l;have c:=lQ (YS:=YS) (yv:=yv) (y1:=y1) (y2:=y2) (fr:=fr) (ub:=ub) r;have d:(FT.node l r).size=l.size+r.size+1:=rfl;rw[down];split
  .show 1<=_;omega
  .split
   .show 1<=_;omega
   .show 1+_+_<=_;omega
theorem zX (F:Nat) (cb:Array Value) (N:List Nd) (nm:Nat->Int) (YS:List Nat) (LN LL:Nat->Value) (tb B:Nat) (w0:World) (S:World->List Nat->(Nat->Prop)->Prop) (yv:Nat->Int) (y1 y2:Int) (fr ub:Nat)
  (cg:w0.heap.size<=B) (I:List Nat) (ac:Told F cb N YS LN LL B w0 I S) (aw:Hq w0 tb N nm YS LN LL) (bd:YS.Pairwise fun i k=>yv i<=yv k) (cM:y1<=y2) (c6:N.length<=1000000) (c7:YS.length<=1000000) (iU:fr<=1000000) (lD:ub<=1000000)
  (t:FT) (s:Nat) (W:World) (f:List Nat) (D:Nat->Prop) (G:FT.At N t s) (aK:t.wf) (cI:t.hi<=1000000) (hS:S W f D) (a7:f++(down YS yv y1 y2 fr ub t).1 <+: I)
  (bX:∀l r,t=.node l r->(∀W f D,S W f D->f++(down YS yv y1 y2 fr ub l).1 <+: I->
    aH 172 #[ah tb,aa (l.root s:Nat),aa (below yv y1 (nl YS l):Nat),aa (upto yv y2 (nl YS l):Nat),.agg #[aa fr,aa ub,.func (.func F) #[] cb]] W (Ra S W D (f++(down YS yv y1 y2 fr ub l).1) (down YS yv y1 y2 fr ub l).2))/\
    ∀W f D,S W f D->f++(down YS yv y1 y2 fr ub r).1 <+: I->aH 172 #[ah tb,aa (r.root (s+l.size):Nat),aa (below yv y1 (nl YS r):Nat),aa (upto yv y2 (nl YS r):Nat),.agg #[aa fr,aa ub,.func (.func F) #[] cb]] W (Ra S W D (f++(down YS yv y1 y2 fr ub r).1) (down YS yv y1 y2 fr ub r).2)):
  aH 172 #[ah tb,aa (t.root s:Nat),aa (below yv y1 (nl YS t):Nat),aa (upto yv y2 (nl YS t):Nat),.agg #[aa fr,aa ub,.func (.func F) #[] cb]] W (Ra S W D (f++(down YS yv y1 y2 fr ub t).1) (down YS yv y1 y2 fr ub t).2):=by
 obtain⟨⟨E,off,cn,av,b6⟩,⟨gl,cl,a1,bU,bI⟩,bW,cH,bY⟩:=aw.below (ac.base W f D hS) cg;have bT:=G.get;have ba:=G.lt;obtain⟨bx,bC,a3,-⟩:=bW _ _ G;obtain⟨al,bj,bB,a2⟩:=bY _ ba;obtain⟨U,ad⟩:=bI _ ba;obtain⟨H,n0,ai,aj,V,X,aQ,am⟩:=l9 b6 bT;rw[FT.DD]at V;rw[FT.uA]at X;have bV:=FT.eQ t aK;have bO:=uX (yv:=yv) (L:=nl YS t) (y:=y2);have bP:=Cg (yv:=yv) (L:=nl YS t) (y:=y1);have cJ:(nl YS t).length<=YS.length:=gK _ _;rw[a3]at U;rw[a2]at ad;obtain⟨a,az⟩:∃a,a=below yv y1 (nl YS t):=⟨_,rfl⟩;obtain⟨b,aC⟩:∃b,b=upto yv y2 (nl YS t):=⟨_,rfl⟩;rw[<-aC]at bO;rw[<-az]at bP;have cK:∃hi lo:Nat,hi=t.hi/\lo=t.lo:=⟨_,_,rfl,rfl⟩;obtain⟨hi,lo,a4,a5⟩:=cK;rw[<-a4]at X cI bV;rw[<-a5]at V bV;obtain⟨K,c⟩:∃K,K=t.root s:=⟨_,rfl⟩;obtain⟨d,hd⟩:∃d,d=t.top s:=⟨_,rfl⟩;rw[<-hd]at n0 ai aj am;rw[<-c]at U ad n0 ai aj V X aQ am ba;have J:Hid (a=below yv y1 (nl YS t)/\b=upto yv y2 (nl YS t)/\hi=t.hi/\lo=t.lo/\K=t.root s/\d=t.top s/\(nl YS t).length<=1000000):=⟨az,aC,a4,a5,c,hd,by omega⟩;rw[<-az,<-aC,<-c];have c9:a<=1000000/\b<=1000000:=by omega
 clear az aC a4 a5 c hd bT bO bP cJ;have aV:=af hS;have cf:=af aw;have bt:=af bX;have cY:=af (ac.base W f D hS);have be:=gW W _ av;simp only at be;have aS:=af a2;have cj:=af a3;obtain⟨nn,bb⟩:∃nn,nn=(nl YS t).length:=⟨_,rfl⟩;rw[<-bb]at U;have ck:=af bb;clear a2 a3 hS aw bX bY bW cH b6 bI bb;obtain⟨R,ax⟩:∃R,R=down YS yv y1 y2 fr ub t:=⟨_,rfl⟩;rw[<-ax];rw[<-ax]at a7;have Y:=af ax;have bq:=af a7;clear a7;clear ax;go_enter func172,ntmps172
 go_upto_region 1 with fail
 obtain⟨w1,Z⟩:∃w1,w1=W.alloc (.cells #[aa fr,aa ub,.func (.func F) #[] cb] 245):=⟨_,rfl⟩;have cm:Hid (w1.heap[W.heap.size]? =some (.cells #[aa fr,aa ub,.func (.func F) #[] cb] 245 (0,0))):=by rw[Z];exact di W _
 have aR:Hid (Below W.heap.size W w1):=by rw[Z];exact(aB _ _).alloc (ay _) _
 have b0:W.heap.size<w1.heap.size:=by rw[Z];simp
 rw[<-Z];clear Z
 go_cut [11,12]from 11 (fun cS cT ap=>∃x y:Nat,cS=ah x/\cT=ah y/\Hid (ap.heap[x]? =some (.cells #[.int .u8 d.kind,aa d.l,aa d.r,aa lo,aa hi,aa 0,aa d.item] 163 (0,0)))/\
  Hid (ap.heap[y]? =some (.cells #[.slice bx nn bC,.slice al bj bB] 150 (0,0)))/\Hid (Below w1.heap.size w1 ap)/\w1.heap.size<=x/\w1.heap.size<=y)
 case first=>
  have g:=aR.o;have a6:=ag ((g.cell (p:=(ae tb 4)) be).trans av);have bH:=ag ((g.cell (p:=(ae tb 5)) be).trans a1);have dm:=ag ((g.cell (p:=(ae E (off+K*7))) H).trans n0);have dn:=ag ((g.cell (p:=(ae E (off+K*7+1))) H).trans ai);have dp:=ag ((g.cell (p:=(ae E (off+K*7+2))) H).trans aj);have dq:=ag ((g.cell (p:=(ae E (off+K*7+3))) H).trans V);have dr:=ag ((g.cell (p:=(ae E (off+K*7+4))) H).trans X);have ds:=ag ((g.cell (p:=(ae E (off+K*7+5))) H).trans aQ);have dt:=ag ((g.cell (p:=(ae E (off+K*7+6))) H).trans am);have dk:=ag ((g.cell (p:=(ae gl (K*2))) bU).trans U);have dl:=ag ((g.cell (p:=(ae gl (K*2+1))) bU).trans ad);clear g av a1 n0 ai aj V X aQ am U ad;refine ak (fun W=>∃p:aT w1,W=p.W) [17] [(0,false),(1,false),(2,false),(3,true),(4,false),(5,false),(6,true),(7,false),(8,false),(9,false),(10,true),(11,false),(12,false),(13,true)] ⟨⟨_,(aB _ _).drew⟩,rfl⟩ 4 ?_;simp only[bn,aX,aY,aW,aN,aM,aO]
  repeat(refine aD (fun K c=>?_);go_simp;first|(refine c _ ?_;clear c K)|(apply Exists.intro;refine⟨fun _=>?_,c _ ?_⟩;rfl;clear c K))
  refine aJ ?_;refine eT [14,15] (by kernel_rfl) (by simp) ?_;refine bA.cons rfl (fun K c=>?_) (bA.cons rfl (fun K c=>?_) bA.nil)
  .go_simp;refine c _ _ (fun _ _=>⟨⟨_,(aB _ w1).alloc (ay _) _|>.drew⟩,rfl⟩) ?_;clear c K;refine aA 15 rfl fun K c=>?_;go_simp;refine c _ _ (fun _ _=>⟨⟨_,((aB _ w1).alloc (ay _) _).alloc (by simp) _|>.drew⟩,rfl⟩) ?_;clear c K;refine aA 16 rfl fun K c=>?_;go_simp;refine c _ _ (fun _ _=>⟨⟨_,((aB _ w1).alloc (ay _) _).alloc (by simp) _|>.drew⟩,rfl⟩) ?_;clear c K;refine aF [17] _ _ _ (by kernel_rfl) ?_;simp only[pick,aX,aY,aW,aN,aM];go_wp2;go_meet;exact⟨w1.heap.size,w1.heap.size+1,rfl,rfl,BX _ _ _,BZ _ _ _,((aB _ w1).alloc (ay _) _).alloc (by simp) _|>.drew,ay _,by omega⟩
  .go_simp;refine c _ _ (fun _ _=>⟨⟨_,(aB _ w1).alloc (ay _) _|>.drew⟩,rfl⟩) ?_;clear c K;refine aA 14 rfl fun K c=>?_;go_simp;refine c _ _ (fun _ _=>⟨⟨_,((aB _ w1).alloc (ay _) _).alloc (by simp) _|>.drew⟩,rfl⟩) ?_;clear c K;refine aA 16 rfl fun K c=>?_;go_simp;refine c _ _ (fun _ _=>⟨⟨_,((aB _ w1).alloc (ay _) _).alloc (by simp) _|>.drew⟩,rfl⟩) ?_;clear c K;refine aF [17] _ _ _ (by kernel_rfl) ?_;simp only[pick,aX,aY,aW,aN,aM];go_wp2;go_meet;exact⟨w1.heap.size+1,w1.heap.size,rfl,rfl,BZ _ _ _,BX _ _ _,((aB _ w1).alloc (ay _) _).alloc (by simp) _|>.drew,by omega,ay _⟩
 case rest=>
  obtain⟨x,y,rfl,rfl,co,cp,bo,dc,dd⟩:=hcut;have aI:=(bo.o.block _ b0).trans cm.o;have T:=co.o;have bf:=cp.o;have bm:wc.cell? (ae W.heap.size 0)=some (aa fr):=by simp[World.cell?,aI]
  have b4:wc.cell? (ae W.heap.size 1)=some (aa ub):=by simp[World.cell?,aI]
  have b5:wc.cell? (ae W.heap.size 2)=some (.func (.func F) #[] cb):=by simp[World.cell?,aI]
  have b8:wc.cell? (ae x 0)=some (.int .u8 d.kind):=by simp[World.cell?,T]
  have x1:wc.cell? (ae x 1)=some (aa d.l):=by simp[World.cell?,T]
  have x2:wc.cell? (ae x 2)=some (aa d.r):=by simp[World.cell?,T]
  have cU:wc.cell? (ae x 3)=some (aa lo):=by simp[World.cell?,T]
  have cV:wc.cell? (ae x 4)=some (aa hi):=by simp[World.cell?,T]
  have b9:wc.cell? (ae y 0)=some (.slice bx nn bC):=by simp[World.cell?,bf]
  have ca:wc.cell? (ae y 1)=some (.slice al bj bB):=by simp[World.cell?,bf]
  have n:Hid (Below W.heap.size W wc):=aR.o.trans (bo.o.mono aR.o.size);have ar:Hid (S wc f D):=ac.jE _ _ _ _ aV.o n.o;have M:=af ac;clear T bf aI av a1 n0 ai aj V X aQ am U ad ac;have bZ:=gW _ _ b8;have cN:=gW _ _ b9;have bc:=gW _ _ bm;by_cases Q:b<=a\/hi<=fr\/ub<=lo
  .have j:down YS yv y1 y2 fr ub t=([],1):=by
    obtain⟨w,z,O,P,-⟩:=J.o;rw[w,z,O,P]at Q;exact uY Q
   have aU:Hid (Ra S W D (f++R.1) R.2 (.returned (aa 1)) wc):=by
    rw[Y.o,j];show Ra S W D (f++[]) 1 _ _;rw[iE];exact⟨rfl,D,ar.o,fun k h=>.inl h,(au.refl _ _).below n.o⟩
   clear j;have done:True:=trivial;by_cases c3:b<=a
   .have d1:decide ((a:Int)>=(b:Int))=true:=by simp;omega
    have d2:decide ((b:Int)<=(a:Int))=true:=by simp;omega
    have d3:decide (b<=a)=true:=by simp;omega
    go_wp2;go_ret;exact aU.o
   .have d1:decide ((a:Int)>=(b:Int))=false:=by simp;omega
    have d2:decide ((b:Int)<=(a:Int))=false:=by simp;omega
    have d3:decide (b<=a)=false:=by simp;omega
    by_cases c4:hi<=fr
    .have w:decide ((hi:Int)<=(fr:Int))=true:=by simp;omega
     have z:decide (hi<=fr)=true:=by simp;omega
     go_wp2;go_ret;exact aU.o
    .have w:decide ((hi:Int)<=(fr:Int))=false:=by simp;omega
     have z:decide (hi<=fr)=false:=by simp;omega
     have f1:decide ((lo:Int)>=(ub:Int))=true:=by simp;omega
     have f2:decide ((ub:Int)<=(lo:Int))=true:=by simp;omega
     have f3:decide (ub<=lo)=true:=by simp;omega
     go_wp2;go_ret;exact aU.o
  .have d1:decide ((a:Int)>=(b:Int))=false:=by simp;omega
   have d2:decide ((b:Int)<=(a:Int))=false:=by simp;omega
   have d3:decide (b<=a)=false:=by simp;omega
   have w:decide ((hi:Int)<=(fr:Int))=false:=by simp;omega
   have z:decide (hi<=fr)=false:=by simp;omega
   have f1:decide ((lo:Int)>=(ub:Int))=false:=by simp;omega
   have f2:decide ((ub:Int)<=(lo:Int))=false:=by simp;omega
   have f3:decide (ub<=lo)=false:=by simp;omega
   by_cases aE:fr<=lo/\hi<=ub
   .have g1:decide ((lo:Int)>=(fr:Int))=true:=by simp;omega
    have bE:decide ((fr:Int)<=(lo:Int))=true:=by simp;omega
    have bF:decide (fr<=lo)=true:=by simp;omega
    have a6:decide ((hi:Int)<=(ub:Int))=true:=by simp;omega
    have bH:decide (hi<=ub)=true:=by simp;omega
    have j:down YS yv y1 y2 fr ub t=(((nl YS t).take b).drop a,1):=by
     obtain⟨w,z,O,P,-⟩:=J.o;rw[w,z,O,P]at Q;rw[O,P]at aE;rw[DJ Q aE,w,z];congr 1;exact(Cf (bd.filter _) y1 y2 cM).symm
    have aq:=af j;have C:=M.o.told wc f D t s a b ar.o G (by omega) (by rw[J.o.2.1];exact uX) (by have h9:=bq.o;rw[Y.o,j]at h9;exact h9);rw[aS.o,cj.o,<-ck.o]at C;have c0:=M.o.enters;clear j
    go_wp2_with (go_at_fn F;refine C.mono ?_;rintro e w' ⟨rfl,cd,cD,cx,cA⟩)
    have ch:=af cx;go_wp2;go_ret;have e:=aq.o;rw[<-Y.o]at e;rw[e];exact⟨rfl,cd,cD,fun k h=>(ch.o k h).imp id (fun h9=>bJ n.o.size h9),((au.refl (fun k=>D k\/W.heap.size<=k) W).below n.o|>.trans (cA.mono fun k h=>.inl h)).strip⟩
   .have cw:(decide ((lo:Int)>=(fr:Int))=true/\decide ((hi:Int)<=(ub:Int))=false)\/decide ((lo:Int)>=(fr:Int))=false:=by simp;omega
    obtain⟨l,r,rfl⟩:∃l r,t=.node l r:=by
     cases t with
     |leaf q=>
      obtain⟨-,-,O,P,-⟩:=J.o;simp only[FT.hi]at O;simp only[FT.lo]at P;omega
     |node l r=>exact⟨l,r,rfl⟩
    obtain⟨al',cZ,bD,b7⟩:=cf.o.zW l r s G;rw[aS.o]at bD;injection bD with cs ct cv;subst cs ct cv;obtain⟨aL,aP,bh,bi,cO,id,dj⟩:=J.o;have j:down YS yv y1 y2 fr ub (.node l r)=((down YS yv y1 y2 fr ub l).1++(down YS yv y1 y2 fr ub r).1,1+(down YS yv y1 y2 fr ub l).2+(down YS yv y1 y2 fr ub r).2):=by
     rw[aL,aP,bh,bi]at Q;rw[bh,bi]at aE;exact xy Q aE
    obtain⟨aZ,cq⟩:=DI (yv:=yv) l r aK bd y1;obtain⟨a0,cr⟩:=EK (yv:=yv) l r aK bd y2;rw[<-aL]at aZ cq;rw[<-aP]at a0 cr;have cE:a<(lf l.hi (nl YS (.node l r))).length:=by rw[qW,aL];have:=Cg (yv:=yv) (L:=nl YS (.node l r)) (y:=y1);omega
    have cG:b<(lf l.hi (nl YS (.node l r))).length:=by rw[qW,aP];have:=uX (yv:=yv) (L:=nl YS (.node l r)) (y:=y2);omega
    obtain⟨u,bz,rfl,c8,a9⟩:=b7.get (by omega);have an:=a9 a cE;have ao:=a9 b cG;rw[o5,aZ]at an;rw[o5,a0]at ao;have bR:d.l=((l.root s:Nat):Int):=by rw[id];show((s+l.size:Nat):Int)-1=_;unfold FT.root;have:=l.size_pos;omega
    have bS:d.r=((r.root (s+l.size):Nat):Int):=by rw[id];show((s+l.size+r.size:Nat):Int)-1=_;unfold FT.root;have:=r.size_pos;omega
    rw[bR]at x1;rw[bS]at x2;have da:=G.left.lt;have db:=G.right.lt;have bw:=bt.o l r rfl;have aq:=af j;generalize l.root s=kl at*;generalize r.root (s+l.size)=kr at*;generalize below yv y1 (nl YS l)=b1 at*;generalize below yv y1 (nl YS r)=cQ at*;generalize upto yv y2 (nl YS l)=lb at*;generalize upto yv y2 (nl YS r)=cR at*;clear a9 aS b7;generalize(lf l.hi (nl YS (.node l r))).length=bj at*;have c1:(a:Int)-(b1:Int)=(cQ:Int):=by omega
    have c2:(b:Int)-(lb:Int)=(cR:Int):=by omega
    have bu:=af bw;have a8:=M.o.base _ _ _ ar.o;have an:=(a8.cell (p:=(ae u (bz+a))) (show u<B by omega)).trans an;have ao:=(a8.cell (p:=(ae u (bz+b))) (show u<B by omega)).trans ao;have ab:=M.o.lt _ _ _ aV.o;have b3:¬D x:=fun h=>by have:=(ab x h).2;omega
    have cP:¬D y:=fun h=>by have:=(ab y h).2;omega
    have bl:¬D W.heap.size:=fun h=>by have:=(ab _ h).2;omega
    have b2:¬D u:=fun h=>by have:=(ab u h).1;omega
    have bQ:u<wc.heap.size:=by have:=a8.size;omega
    clear j ab bw aZ a0 aL aP bh bi cO id bR bS bt
    go_upto_block 0 with fail
    go_cut []from 27 (fun ap=>ap=wc)
    case first=>
     rcases cw with⟨g1,bE⟩|g1
     .have bF:decide ((fr:Int)<=(lo:Int))=true:=by simpa using g1
      have a6:decide (fr<=lo)=true:=by simpa using g1
      have bH:decide (hi<=ub)=false:=by simpa using bE
      go_wp2;go_meet;rfl
     .have bF:decide ((fr:Int)<=(lo:Int))=false:=by simpa using g1
      have a6:decide (fr<=lo)=false:=by simpa using g1
      go_wp2;go_meet;rfl
    case rest=>
     subst hcut
     go_upto_region 7 with fail
     have m:∀{bk o:Nat} {v:Value},bk<wc.heap.size->¬D bk->wc.cell? (ae bk o)=some v->∀p:vv D wc,p.W.cell? (ae bk o)=some v:=fun cF hd cL p=>((cu p.h cF hd).1 _).trans cL;have m0:=m bc bl bm;have m1:=m bc bl b4;have m2:=m bc bl b5;have m3:=m bZ b3 x1;have m4:=m bZ b3 x2;have du:=m cN cP ca;have dv:=m bQ b2 an;have dw:=m bQ b2 ao;clear m bm b4 b5 b8 x1 x2 cU cV b9 ca an ao;refine ak (fun W=>∃p:vv D wc,W=p.W) [34,35,36] [(0,false),(1,false),(2,true),(3,false),(4,true),(5,false),(6,false),(7,true),(8,false),(9,true),(10,false),(11,false),(12,true),(13,true),(16,false),(17,false),(18,true),(19,false),(20,false),(21,true),(22,false),(23,false),(24,true),(25,false),(26,false),(27,false),(28,true),(29,false),(30,false),(31,true),(32,false),(33,true)] ⟨⟨_,(au.refl _ _).drew⟩,rfl⟩ 5 ?_;simp only[bn,aX,aY,aW,aN,aM,aO]
     repeat(refine aD (fun K c=>?_);go_simp;first|(refine c _ ?_;clear c K)|(apply Exists.intro;refine⟨fun _=>?_,c _ ?_⟩;rfl;clear c K))
     refine aJ ?_;have br:Hid ((f++(down YS yv y1 y2 fr ub l).1)++(down YS yv y1 y2 fr ub r).1 <+: I):=by
      have h9:=bq.o;rw[Y.o,aq.o]at h9;show _ <+: _;rw[dW];exact h9
     have ci:Hid (f++(down YS yv y1 y2 fr ub l).1 <+: I):=(List.prefix_append _ _).trans br.o;have bv:S wc.drew f D:=M.o.jE _ _ _ _ ar.o (aB _ _).drew;refine aA 14 rfl fun K c=>?_;refine bg EW rfl _ _ rfl (vals:=#[ah tb,aa kl,aa b1,aa lb,.agg #[aa fr,aa ub,.func (.func F) #[] cb]]) rfl (bu.o.1 _ _ _ bv ci.o) ?_;rintro e w2 ⟨rfl,cW,bM,bK,bL⟩;have aG:au D wc w2:=(au.refl _ wc).drew.trans bL;refine⟨_,rfl,c _ _ (fun _ _=>⟨⟨_,aG⟩,rfl⟩) ?_⟩;clear c K;refine bG [(15,false)] ⟨⟨_,aG⟩,rfl⟩ rfl ?_;simp only[bn,aX,aY,aW,aN,aM,aO]
     repeat(refine aD (fun K c=>?_);go_simp;first|(refine c _ ?_;clear c K)|(apply Exists.intro;refine⟨fun _=>?_,c _ ?_⟩;rfl;clear c K))
     refine aJ ?_;refine aF [34,35,36] _ _ _ (by kernel_rfl) ?_;simp only[pick,aX,aY,aW,aN,aM];have cc:=bu.o.2 _ _ _ bM br.o;have bs:=af aG;have bp:=af bK;have cX:=af (M.o.lt _ _ _ aV.o);clear aG bK bL bM bv
     go_wp2_with (go_at_call 172;refine cc.mono ?_;rintro e w3 ⟨rfl,ce,bN,cy,cB⟩)
     have b0:=lQ (YS:=YS) (yv:=yv) (y1:=y1) (y2:=y2) (fr:=fr) (ub:=ub) l;have de:=lQ (YS:=YS) (yv:=yv) (y1:=y1) (y2:=y2) (fr:=fr) (ub:=ub) r;have df:=FT.size_eq _ aK;have dg:(FT.node l r).size=l.size+r.size+1:=rfl;have dh:=J.o.2.2.1;have e:=aq.o;rw[<-Y.o]at e;rw[e];have cz:=af cy;have cC:au (fun k=>D k\/W.heap.size<=k) W w3:=
      (((au.refl (fun k=>D k\/W.heap.size<=k) W).below n.o).trans (bs.o.mono fun k h=>.inl h)).trans (cB.mono fun k h=>by
       rcases bp.o k h with h9|h9
       .exact .inl h9
       .right;have:=n.o.size;simp at h9;omega)
     rw[dW]at bN;go_ret;refine⟨?_,ce,bN,fun k h=>?_,cC.strip⟩
     .refine congrArg Ending.returned ?_;show aa (wrap64 (wrap64 (1+((down YS yv y1 y2 fr ub l).2:Int))+((down YS yv y1 y2 fr ub r).2:Int)))=_;generalize(down YS yv y1 y2 fr ub l).2=A at*;generalize(down YS yv y1 y2 fr ub r).2=B at*;have aw:A<=2000000:=by omega
      have c5:B<=2000000:=by omega
      rw[MC (1+(A:Int)) (by omega),MC _ (by omega)];exact congrArg _ (by omega)
     .rcases cz.o k h with h9|h9
      .rcases bp.o k h9 with h8|h8
       .exact .inl h8
       .right;have:=n.o.size;simp at h8;omega
      .right;have:=bs.o.size;have:=n.o.size;omega
theorem Kv (F:Nat) (cb:Array Value) (N:List Nd) (nm:Nat->Int) (YS:List Nat) (LN LL:Nat->Value) (tb B:Nat) (w0:World) (S:World->List Nat->(Nat->Prop)->Prop) (yv:Nat->Int) (y1 y2:Int) (fr ub:Nat)
  (g:w0.heap.size<=B) (d:List Nat) (m:Told F cb N YS LN LL B w0 d S) (h:Hq w0 tb N nm YS LN LL) (o:YS.Pairwise fun i k=>yv i<=yv k) (p:y1<=y2) (j:N.length<=1000000) (n:YS.length<=1000000) (iU:fr<=1000000) (lD:ub<=1000000):
  ∀(t:FT) (s:Nat),FT.At N t s->t.wf->t.hi<=1000000->∀(W:World) (a:List Nat) (D:Nat->Prop),S W a D->a++(down YS yv y1 y2 fr ub t).1 <+: d->
  aH 172 #[ah tb,aa (t.root s:Nat),aa (below yv y1 (nl YS t):Nat),aa (upto yv y2 (nl YS t):Nat),.agg #[aa fr,aa ub,.func (.func F) #[] cb]] W (Ra S W D (a++(down YS yv y1 y2 fr ub t).1) (down YS yv y1 y2 fr ub t).2):=by
 intro t
 induction t with
 |leaf x=>exact fun s c b f W a D hS hF=>zX F cb N nm YS LN LL tb B w0 S yv y1 y2 fr ub g d m h o p j n iU lD _ s W a D c b f hS hF (fun l r e=>by cases e)
 |node l r q u=>
  intro s c b f W a D hS hF;refine zX F cb N nm YS LN LL tb B w0 S yv y1 y2 fr ub g d m h o p j n iU lD _ s W a D c b f hS hF fun l' z e=>?_;cases e;have v:=FT.eQ r b.2.1;have w:=b.2.2;have y:(FT.node l r).hi=r.hi:=rfl;exact⟨fun W a D hS hF=>q s c.left b.1 (by omega) W a D hS hF,fun W a D hS hF=>u _ c.right b.2.1 (by omega) W a D hS hF⟩
end
section
open Go.RowKit
section
variable {P:Program} {ops:Array Oper} {rest:List Oper} {o:Oper} {a:Act} {Q:Exit->Act->World->Prop}
theorem DT {α:Type} {enc:α->List Value} {sz:Nat} {W:World} {ad:Option Addr} {l:List α} {c:Nat} (g:cz enc sz W ad l) (i:l.length<=c) (lo hi:Nat) (j:hi<=l.length):
  cz enc sz W (if c=lo then ad else ad.map (·.add (lo*sz))) ((l.take hi).drop lo):=by
 by_cases h:c=lo
 .exact .inl (by rw[List.drop_eq_nil_iff,eB];omega)
 .rw[aI h];rcases g with rfl|⟨b,off,rfl,e,f⟩
  .exact .inl (by simp)
  .have a:cz enc sz W (some (ae b off)) l:=.inr ⟨b,off,rfl,e,f⟩;have d:((ae b off):Addr).add (lo*sz)=(ae b (off+lo*sz)):=by unfold Addr.add;split<;>simp_all
   simp only[aO,d];exact(a.take hi).drop lo
theorem Kw {α:Type} {enc:α->List Value} {sz:Nat} {t e:TypeId} {bytes:Nat} (s:eH P t e sz bytes) {W:World} {ad:Option Addr} {l:List α} {c:Nat} (B:cz enc sz W ad l) (w:l.length<=c) (lo hi:Nat) (q:lo<=hi) (u:hi<=l.length)
  (y:o.guard=none) (x:Operand) (n f:Option Operand) (j:o.op=.slice t x n f none) (m:a.eval x=.slice ad l.length c)
  (g:(n.map a.eval).getD (.int .i64 0)=.int .i64 lo) (b:(f.map a.eval).getD (.int .i64 l.length)=.int .i64 hi)
  (h:∀p,cz enc sz W p ((l.take hi).drop lo)->wpList P ops Q rest (a.put o.dst (.slice p (hi-lo) (c-lo))) W):wpList P ops Q (o::rest) a W:=by
 obtain⟨ht,⟨i,z,A,F,C,D,G⟩,E⟩:=s;refine wpList_plain y fun K v=>?_;have d:=v _ _ (h _ (DT B w lo hi u));have hu:∀W',(underlying t).run P W'=.ok (.slice e) W':=fun W'=>oJ ht W';have k:∀W',(sizeOf e).run P W'=.ok sz W':=fun W'=>by simp[sizeOf,typeInfo,A,C]
 unfold Oper.wp execOp;have r:hi<=c:=by omega
 rcases n with _|lw
 .simp only[kT,l6,oI,oW]at g;obtain rfl:lo=0:=by omega
  rcases f with _|hg
  .simp only[kT,l6,oI,oW]at b;obtain rfl:hi=l.length:=by omega
   simp only[j,m,kT,Instr.sliceAt,Instr.slice,Instr.sliceBounds,xe,hu,k,wU,xg];exact d
  .simp only[aO,gq]at b;simp[j,m,b,Instr.sliceAt,Instr.slice,Instr.sliceBounds,Instr.sliceBound,hu,k,asIntOf,r];simp only[Nat.zero_mul,Nat.sub_zero]at d;exact d
 .simp only[aO,gq]at g;rcases f with _|hg
  .simp only[kT,l6,oI,oW]at b;obtain rfl:hi=l.length:=by omega
   simp[j,m,g,Instr.sliceAt,Instr.slice,Instr.sliceBounds,Instr.sliceBound,hu,k,asIntOf,q];exact d
  .simp only[aO,gq]at b;simp[j,m,g,b,Instr.sliceAt,Instr.slice,Instr.sliceBounds,Instr.sliceBound,hu,k,asIntOf,q,r];exact d
end
end
section
open Go Go.RowKit
end
end Go.Proofs.YtkjdbndekceffaaGreat
