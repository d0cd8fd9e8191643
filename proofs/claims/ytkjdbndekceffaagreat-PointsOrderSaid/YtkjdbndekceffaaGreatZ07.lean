/- Made small by a program. -/
import Derived.Test.YtkjdbndekceffaaGreatZ05
set_option linter.unusedSimpArgs false
set_option linter.unusedVariables false
set_option maxRecDepth 100000
set_option maxHeartbeats 16000000
namespace Go.Proofs.YtkjdbndekceffaaGreat
open Tryz
section
open Go
namespace FT
theorem At.unique {N:List Nd}:∀{t b:FT} {s c:Nat},At N t s->At N b c->t.root s=b.root c->t=b/\s=c
 |leaf a,b,s,c,h,h',e=>by
  have g:=h.get;rw[e,h'.get]at g;injection g with g;cases b with
  |leaf a'=>
   simp only[top,Nd.mk.injEq]at g;obtain⟨-,-,-,k,-⟩:=g;have d:a'=a:=aa;subst d;unfold root at e;simp only[size]at e;exact⟨rfl,aa⟩
  |node l r=>
   simp only[top,Nd.mk.injEq]at g;omega
 |node l r,b,s,c,h,h',e=>by
  have g:=h.get;rw[e,h'.get]at g;injection g with g;cases b with
  |leaf a'=>
   simp only[top,Nd.mk.injEq]at g;omega
  |node l' f=>
   simp only[top,Nd.mk.injEq]at g;obtain⟨-,i,j,-⟩:=g;have m:=l.size_pos;have n:=l'.size_pos;have o:=r.size_pos;have p:=f.size_pos;obtain⟨rfl,rfl⟩:=At.unique h.left h'.left (by unfold root;omega);obtain⟨rfl,-⟩:=At.unique h.right h'.right (by unfold root;omega);exact⟨rfl,rfl⟩
def subs:FT->Nat->List (FT×Nat)
 |leaf a,s=>[(leaf a,s)]
 |node l r,s=>l.subs s++r.subs (s+l.size)++[(node l r,s)]
theorem fq:∀(t:FT) (s:Nat),(t.subs s).length=t.size
 |leaf a,s=>rfl
 |node l r,s=>by simp only[subs,size,bS,fq l,fq r,dY,eZ]
theorem oQ:∀(t:FT) (s i:Nat) (h:i<(t.subs s).length),(t.subs s)[i].1.root (t.subs s)[i].2=s+i
 |leaf a,s,i,h=>by
  have:i=0:=by simpa[subs]using h
  subst this;simp[subs,root,size]
 |node l r,s,i,h=>by
  have h':=h;rw[fq]at h';simp only[subs];by_cases b:i<l.size
  .rw[qF (by rw[bS,fq,fq];omega),qF (by rw[fq];exact b)];exact oQ l s i _
  .by_cases d:i<l.size+r.size
   .rw[qF (by rw[bS,fq,fq];omega),vX (by rw[fq];omega)];have c:=oQ r (s+l.size) (i-(l.subs s).length) (by rw[fq,fq];omega);rw[c,fq];omega
   .simp only[size]at h';rw[vX (by rw[bS,fq,fq];omega)];simp only[List.getElem_singleton];unfold root;simp only[size];omega
theorem kR {N:List Nd}:∀(t:FT) (s:Nat),At N t s->∀p∈t.subs s,At N p.1 p.2
 |leaf a,s,h,p,hp=>by
  have:p=(leaf a,s):=by simpa[subs]using hp
  subst this;exact h
 |node l r,s,h,p,hp=>by
  simp only[subs,bP,lW]at hp;rcases hp with(hp|hp)|hp
  .exact kR l s h.left p hp
  .exact kR r _ h.right p hp
  .subst hp;exact h
theorem at_mem {t:FT} {b:FT} {a:Nat} (h:At (t.nodes 0) b a):(b,a)∈t.subs 0:=by
 have j:At (t.nodes 0) t 0:=⟨[],[],aA,rfl⟩;have d:=h.lt;rw[iB]at d;have c:b.root a<(t.subs 0).length:=by rw[fq];exact d
 have g:=oQ t 0 _ c;have i:=kR t 0 j _ (bB c);have⟨e,f⟩:=At.unique h i (by rw[g];omega);have:(b,a)=(t.subs 0)[b.root a]:=Prod.ext e f;rw[this];exact bB c
theorem Bp:∀(t:FT) (s:Nat),∀p∈t.subs s,p=(t,s)\/∃l r q,(node l r,q)∈t.subs s/\(p=(l,q)\/p=(r,q+l.size))
 |leaf a,s,p,hp=>.inl (by simpa[subs]using hp)
 |node l r,s,p,hp=>by
  simp only[subs,bP,lW]at hp |-;rcases hp with(hp|hp)|hp
  .rcases Bp l s p hp with h|⟨l',d,q,b,c⟩
   .exact .inr ⟨l,r,s,.inr rfl,.inl h⟩
   .exact .inr ⟨l',d,q,.inl (.inl b),c⟩
  .rcases Bp r _ p hp with h|⟨l',d,q,b,c⟩
   .exact .inr ⟨l,r,s,.inr rfl,.inr h⟩
   .exact .inr ⟨l',d,q,.inl (.inr b),c⟩
  .exact .inl hp
def pars:FT->Nat->Nat->List Nat
 |leaf _,_,p=>[p]
 |node l r,s,p=>l.pars s ((node l r).root s)++r.pars (s+l.size) ((node l r).root s)++[p]
theorem iU:∀(t:FT) (s p:Nat),(t.pars s p).length=t.size
 |leaf a,s,p=>rfl
 |node l r,s,p=>by simp only[pars,size,bS,iU l,iU r,dY,eZ]
theorem Dx:∀(t:FT) (s p:Nat),(t.pars s p)[t.root s-s]? =some p
 |leaf a,s,p=>by simp[pars,root,size]
 |node l r,s,p=>by
  have e:(node l r).root s-s=l.size+r.size:=by unfold root;simp only[size];omega
  rw[e];simp only[pars];rw[nz (by rw[bS,iU,iU];omega),bS,iU,iU,kZ];rfl
theorem sZ:∀(t:FT) (s:Nat),∀p∈t.subs s,s<=p.2/\p.2+p.1.size<=s+t.size
 |leaf a,s,p,hp=>by
  have:p=(leaf a,s):=by simpa[subs]using hp
  subst this;exact⟨aB _,aB _⟩
 |node l r,s,p,hp=>by
  simp only[subs,bP,lW]at hp;simp only[size];rcases hp with(hp|hp)|hp
  .have:=sZ l s p hp;omega
  .have:=sZ r _ p hp;omega
  .subst hp;simp only[size];omega
theorem I5 {l r:FT} {s p i:Nat} (h:i<l.size):((node l r).pars s p)[i]? =(l.pars s ((node l r).root s))[i]? :=by
 simp only[pars];rw[dX,lS (by rw[iU];exact h)]
theorem I6 {l r:FT} {s p i:Nat} (a:l.size<=i) (h:i<l.size+r.size):((node l r).pars s p)[i]? =(r.pars (s+l.size) ((node l r).root s))[i-l.size]? :=by
 simp only[pars];rw[lS (by rw[bS,iU,iU];exact h),nz (by rw[iU];exact a),iU]
theorem wI:∀(t:FT) (s p:Nat) (l r:FT) (q:Nat),(node l r,q)∈t.subs s->(t.pars s p)[l.root q-s]? =some ((node l r).root q)/\(t.pars s p)[r.root (q+l.size)-s]? =some ((node l r).root q)
 |leaf a,s,p,l,r,q,h=>by simp[subs]at h
 |node b e,s,p,l,r,q,h=>by
  simp only[subs,bP,lW]at h;have pl:=l.size_pos;have k:=r.size_pos;have j:=b.size_pos;have m:=e.size_pos;have g:l.root q=q+l.size-1:=rfl;have i:r.root (q+l.size)=q+l.size+r.size-1:=rfl;rcases h with(h|h)|h
  .obtain⟨c,d⟩:=wI b s ((node b e).root s) l r q h;have f:=sZ b s _ h;simp only[size]at f;rw[I5 aa,I5 aa];exact⟨c,d⟩
  .obtain⟨c,d⟩:=wI e _ ((node b e).root s) l r q h;have f:=sZ e _ _ h;simp only[size]at f;rw[I6 aa aa,I6 aa aa];rw[show l.root q-s-b.size=l.root q-(s+b.size) by omega,show r.root (q+l.size)-s-b.size=r.root (q+l.size)-(s+b.size) by omega];exact⟨c,d⟩
  .simp only[rM,node.injEq]at h;obtain⟨⟨rfl,rfl⟩,rfl⟩:=h;have c:=Dx l q ((node l r).root q);have d:=Dx r (q+l.size) ((node l r).root q);rw[I5 aa,I6 aa aa];rw[show r.root (q+l.size)-q-l.size=r.root (q+l.size)-(q+l.size) by omega];exact⟨c,d⟩
theorem I7 {t l r l' d:FT} {q c:Nat} (h:At (t.nodes 0) (node l r) q) (h':At (t.nodes 0) (node l' d) c)
  (e:l.root q=l'.root c\/l.root q=d.root (c+l'.size)\/r.root (q+l.size)=l'.root c\/r.root (q+l.size)=d.root (c+l'.size)):(node l r).root q=(node l' d).root c:=by
 have⟨a,b⟩:=wI t 0 0 l r q (at_mem h);have⟨f,g⟩:=wI t 0 0 l' d c (at_mem h');rcases e with e|e|e|e
 .rw[e,f]at a;injection a with a;exact a.symm
 .rw[e,g]at a;injection a with a;exact a.symm
 .rw[e,f]at b;injection b with b;exact b.symm
 .rw[e,g]at b;injection b with b;exact b.symm
theorem wJ (l r:FT) (q:Nat):l.root q<r.root (q+l.size)/\r.root (q+l.size)<(node l r).root q:=by
 have:=l.size_pos;have:=r.size_pos;unfold root;simp only[size];omega
theorem zk {t l r:FT} {q:Nat} (h:At (t.nodes 0) (node l r) q):l.root q≠t.root 0/\r.root (q+l.size)≠t.root 0:=by
 have a:=sZ t 0 _ (at_mem h);simp only[size]at a;have:=r.size_pos;unfold root;omega
theorem Oc {t b:FT} {a:Nat} (h:At (t.nodes 0) b a):(b=t/\a=0)\/∃l r q,At (t.nodes 0) (node l r) q/\((b=l/\a=q)\/(b=r/\a=q+l.size)):=by
 have c:At (t.nodes 0) t 0:=⟨[],[],aA,rfl⟩;rcases Bp t 0 _ (at_mem h)with h1|⟨l,r,q,h1,h2⟩
 .simp only[rM]at h1;exact .inl h1
 .refine .inr ⟨l,r,q,kR t 0 c _ h1,?_⟩;simpa only[rM]using h2
theorem qi:∀(t:FT) (s:Nat),t.wf->∀p∈t.subs s,p.1.wf
 |leaf a,s,h,p,hp=>by
  have:p=(leaf a,s):=by simpa[subs]using hp
  subst this;exact h
 |node l r,s,h,p,hp=>by
  simp only[subs,bP,lW]at hp;rcases hp with(hp|hp)|hp
  .exact qi l s h.1 p hp
  .exact qi r _ h.2.1 p hp
  .subst hp;exact h
theorem zU:∀(t:FT) (s:Nat),t.wf->∀p∈t.subs s,p.1.hi<=t.hi
 |leaf a,s,h,p,hp=>by
  have:p=(leaf a,s):=by simpa[subs]using hp
  subst this;exact aB _
 |node l r,s,h,p,hp=>by
  simp only[subs,bP,lW]at hp;have b:=eT r h.2.1;have c:=h.2.2;show _<=r.hi;rcases hp with(hp|hp)|hp
  .have:=zU l s h.1 p hp;omega
  .exact zU r _ h.2.1 p hp
  .subst hp;exact aB _
end FT
def dW (YS:List Nat) (x:Nat):List Nat:=YS.filter fun i=>decide (i≠x)
theorem erase_filter {L:List Nat} (c:L.Nodup) {i x:Nat} (hi:i<L.length) (b:L[i]=x):L.eraseIdx i=L.filter fun k=>decide (k≠x):=by
 induction L generalizing i with
 |nil=>simp at hi
 |cons a L ih=>
  rw[lZ]at c;cases i with
  |zero=>
   simp only[rq]at b;subst b;rw[List.eraseIdx_cons_zero,Ad aA];symm;refine lU.2 fun k e=>?_;simp only[bO];rintro rfl;exact c.1 e
  |succ i=>
   simp only[List.getElem_cons_succ]at b;have d:i<L.length:=aP hi;rw[List.eraseIdx_cons_succ,Il,ih c.2 d b];simp only[bO];rintro rfl;exact c.1 (b▸bB d)
theorem Kq (YS:List Nat) (x:Nat) (t:FT):nl (dW YS x) t=(nl YS t).filter fun k=>decide (k≠x):=by
 unfold nl dW;rw[pg,pg];refine oD fun k _=>?_;rw[Bool.and_comm]
theorem wK {YS:List Nat} {x:Nat} {t:FT} (h:¬(t.lo<=x/\x<t.hi)):nl (dW YS x) t=nl YS t:=by
 rw[Kq];refine lU.2 fun k a=>?_;have:=(bF.1 a).2;simp only[bO]at this |-;rintro rfl;exact h this
theorem LM {YS:List Nat} (a:YS.Nodup) {x i:Nat} {t:FT} (hi:i<(nl YS t).length) (b:(nl YS t)[i]=x):nl (dW YS x) t=(nl YS t).eraseIdx i:=by
 rw[Kq];exact(erase_filter (L:=nl YS t) (show(nl YS t).Nodup from lT _ a) hi b).symm
section
variable {m:Nat} {L:List Nat} {i x:Nat}
theorem tq (hi:i<L.length):((lf m L).eraseIdx (i+1)).length=L.length:=by
 rw[Af,rY,aN aa];omega
theorem wL (hi:i<L.length):(lf m (L.eraseIdx i)).length=L.length:=by
 rw[rY,Af,aN hi];omega
theorem CP {j:Nat} (a:j<=i):(L.eraseIdx i).take j=L.take j:=by
 by_cases h:i<L.length
 .rw[xA,DZ (by rw[eQ];omega),AR,Nat.min_eq_left a]
 .rw[List.eraseIdx_of_length_le aa]
theorem Uq (hi:i<L.length) {j:Nat} (a:j<=i) (b:j<((lf m L).eraseIdx (i+1)).length) (c:j<(lf m (L.eraseIdx i)).length):((lf m L).eraseIdx (i+1))[j]=(lf m (L.eraseIdx i))[j]:=by
 rw[List.getElem_eraseIdx,dif_pos aa,pX,pX,CP a]
theorem Ur (hi:i<L.length) (e:L[i]=x) {j:Nat} (k:i<j) (f:j<((lf m L).eraseIdx (i+1)).length) (g:j<(lf m (L.eraseIdx i)).length):((lf m L).eraseIdx (i+1))[j]-(if x<m then 1 else 0)=(lf m (L.eraseIdx i))[j]:=by
 have a:(L.take (j+1)).countP (fun i=>decide (i<m))=((L.eraseIdx i).take j).countP (fun i=>decide (i<m))+(if x<m then 1 else 0):=by
  have b:(L.eraseIdx i).take j=(L.take (j+1)).eraseIdx i:=by
   rw[xA,xA,List.take_append,AR,eQ,AR,List.drop_take];rw[show min j i=i by omega,show min i (j+1)=i by omega,show j-min i L.length=j+1-(i+1) by omega]
  rw[b,xA,List.countP_append];have l:i<(L.take (j+1)).length:=by rw[eQ];omega
  have c:L.take (j+1)=(L.take (j+1)).take i++x::(L.take (j+1)).drop (i+1):=by
   have d:(L.take (j+1))[i]=x:=by rw[xN];exact e
   rw[<-d,List.getElem_cons_drop,jB]
  conv=>lhs;rw[c]
  rw[List.countP_append,uQ];by_cases h:x<m<;>simp[h]<;>omega
 rw[List.getElem_eraseIdx,dif_neg aa,pX,pX,a];split<;>simp
theorem QC (hi:i<L.length) (a:L[i]=x) (b:i+1<(lf m L).length) (c:i<(lf m L).length):(lf m L)[i+1]-(lf m L)[i]=if x<m then 1 else 0:=by
 rw[pX,pX,gW hi,List.countP_append,a];by_cases h:x<m<;>simp[h]<;>omega
def zF (m:Nat) (L:List Nat) (i j:Nat):List Int:=(lf m (L.eraseIdx i)).take j++((lf m L).eraseIdx (i+1)).drop j
theorem LP (hi:i<L.length):zF m L i (i+1)=(lf m L).eraseIdx (i+1):=by
 have b:=tq (m:=m) hi;have c:=wL (m:=m) hi;unfold zF;have e:(lf m (L.eraseIdx i)).take (i+1)=((lf m L).eraseIdx (i+1)).take (i+1):=by
  refine rC (by simp[b,c]) fun j a d=>?_;rw[xN,xN];rw[eQ]at a;exact(Uq hi aa _ _).symm
 rw[e,jB]
theorem Od (hi:i<L.length):zF m L i L.length=lf m (L.eraseIdx i):=by
 have a:=tq (m:=m) hi;have b:=wL (m:=m) hi;unfold zF;rw[ky aa,ou aa,iJ]
theorem qj (hi:i<L.length) {j:Nat} (c:j<=L.length):(zF m L i j).length=L.length:=by
 have a:=tq (m:=m) hi;have b:=wL (m:=m) hi;unfold zF;rw[bS,eQ,mK];omega
theorem Kr (hi:i<L.length) {j:Nat} (a:j<L.length):(zF m L i j)[j]'(by rw[qj hi aa];exact a)=((lf m L).eraseIdx (i+1))[j]'(by rw[tq hi];exact a):=by
 have b:=wL (m:=m) hi;simp only[zF];rw[vX (by rw[eQ];omega),List.getElem_drop];congr 1;rw[eQ];omega
theorem Oe (hi:i<L.length) (c:L[i]=x) {j:Nat} (b:i<j) (a:j<L.length):(zF m L i j).set j ((zF m L i j)[j]'(by rw[qj hi aa];exact a)-(if x<m then 1 else 0))=zF m L i (j+1):=by
 have d:=tq (m:=m) hi;have e:=wL (m:=m) hi;rw[Kr hi a,Ur hi c b aa aa];unfold zF;rw[ui _ _ (by rw[eQ];omega),eQ,show j-min j (lf m (L.eraseIdx i)).length=0 by omega];rw[gW aa,dX];congr 1;rw[jJ aa];rfl
end
namespace FT
theorem sw:∀(t:FT) (s:Nat),t.wf->∀p∈t.subs s,t.lo<=p.1.lo/\p.1.hi<=t.hi
 |leaf a,s,h,p,hp=>by
  have:p=(leaf a,s):=by simpa[subs]using hp
  subst this;exact⟨aB _,aB _⟩
 |node l r,s,h,p,hp=>by
  simp only[subs,bP,lW]at hp;have b:=eT r h.2.1;have d:=eT l h.1;have c:=h.2.2;show l.lo<=_/\_<=r.hi;rcases hp with(hp|hp)|hp
  .have:=sw l s h.1 p hp;omega
  .have:=sw r _ h.2.1 p hp;omega
  .subst hp;exact⟨aB _,aB _⟩
theorem wM:∀(t:FT) (s x:Nat),t.wf->∀p∈t.subs s,p.1.lo<=x->x<p.1.hi->p.1.root p.2∈t.path s x
 |leaf a,s,x,h,p,hp,b,c=>by
  have:p=(leaf a,s):=by simpa[subs]using hp
  subst this;simp[path,root,size]
 |node l r,s,x,h,p,hp,b,c=>by
  simp only[subs,bP,lW]at hp;rw[path];rcases hp with(hp|hp)|hp
  .have:=sw l s h.1 p hp;rw[aN aa];exact kz _ (wM l s x h.1 p hp b c)
  .have:=sw r _ h.2.1 p hp;have:=h.2.2;rw[aM aa];exact kz _ (wM r _ x h.2.1 p hp b c)
  .subst hp;exact nP
theorem mW:∀(t:FT) (s x:Nat),t.wf->t.lo<=x->x<t.hi->∀k∈t.path s x,∃p∈t.subs s,p.1.root p.2=k/\p.1.lo<=x/\x<p.1.hi
 |leaf a,s,x,h,b,c,k,hk=>by
  have:k=s:=by simpa[path]using hk
  subst this;exact⟨(leaf a,k),by simp[subs],by simp[root,size],b,c⟩
 |node l r,s,x,h,b,c,k,hk=>by
  rw[path,gU]at hk;have f:=h.2.2;rcases hk with rfl|hk
  .exact⟨(node l r,s),by simp[subs],rfl,b,c⟩
  .split at hk
   .rename_i d;have⟨p,hp,e⟩:=mW l s x h.1 b d k hk;exact⟨p,by simp[subs,hp],e⟩
   .rename_i d;have⟨p,hp,e⟩:=mW r _ x h.2.1 aa c k hk;exact⟨p,by simp[subs,hp],e⟩
theorem tC:∀(t:FT) (s x:Nat),t.wf->t.lo<=x->x<t.hi->(t.path s x).Pairwise (·>·)
 |leaf a,s,x,h,c,d=>by simp[path]
 |node l r,s,x,h,c,d=>by
  have j:=h.2.2;have g:∀(t:FT) (s:Nat),∀p∈t.subs s,p.1.root p.2<=t.root s:=fun t s p hp=>by
   have:=sZ t s p hp;have:=p.1.size_pos;have:=t.size_pos;unfold root;omega
  have m:=wJ l r s;by_cases b:x<l.hi
  .rw[path,aN b,lV];refine⟨fun k f=>?_,tC l s x h.1 c b⟩;obtain⟨p,hp,e,-⟩:=mW l s x h.1 c b k f;have:=g l s p hp;omega
  .have i:r.lo<=x:=aa;rw[path,aM b,lV];refine⟨fun k f=>?_,tC r _ x h.2.1 i d⟩;obtain⟨p,hp,e,-⟩:=mW r _ x h.2.1 i d k f;have:=g r _ p hp;omega
end FT
theorem cu.drop {R:List Pt} {gone:List Bool} {YS:List Nat} (h:cu R gone YS) {x:Nat} (c:gone[x]? =some false):cu R (gone.set x true) (dW YS x):=by
 have b:=(fE.1 c).1;refine⟨h.A9,h.ids,by rw[kI];exact h.Ug,lT _ h.nodup,fun i=>?_,lT _ h.TY⟩;unfold dW;rw[bF,h.live,bO,List.getElem?_set];by_cases e:x=i
 .subst e;simp[b]
 .rw[aM e];exact⟨fun h=>h.1,fun h=>⟨h,fun a=>e a.symm⟩⟩
end
section
open Go Go.RowKit
def H8 (x1 x2 y1 y2:Int) (p:Pt):Bool:=decide (x1<=p.1/\p.1<=x2/\y1<=p.2.1/\p.2.1<=y2)
def hasB (l:List Pt) (x1 x2 y1 y2:Int):List Int:=dE (ids (l.filter (H8 x1 x2 y1 y2)))
structure sD (R:List Pt) (YS:List Nat) (l:List Pt):Prop where
 jc:(ids l).Nodup
 mem:∀p,p∈l↔∃i∈YS,bV R i=p
theorem sF {l:List Int} (f:l.Pairwise (·<=·)) (x:Int) {i:Nat} (hi:i<l.length):(aV l x).1<=i↔x<=l[i]:=by
 have⟨g,c,d⟩:=mf (fun i=>decide (x<=l.getD i 0)) l.length (fun i j k b hi=>by
  by_cases e:i=j
  .exact e▸hi
  .have:=gQ.1 f i j aa b aa;simp[b,show i<l.length by omega]at hi |-;omega) l.length 0 l.length 0 aa aa (aB _) aa aa
 constructor
 .intro h;have:=d i h hi;simpa[hi]using this
 .intro h;by_cases a:(aV l x).1<=i
  .exact a
  .have:=c i (by unfold aV at a;omega);simp[hi]at this;omega
theorem sG {l:List Int} (f:l.Pairwise (·<=·)) (x:Int) {i:Nat} (hi:i<l.length):i<(aR l x).1↔l[i]<=x:=by
 have⟨g,c,d⟩:=mf (fun i=>decide (x<l.getD i 0)) l.length (fun i j k b hi=>by
  by_cases e:i=j
  .exact e▸hi
  .have:=gQ.1 f i j aa b aa;simp[b,show i<l.length by omega]at hi |-;omega) l.length 0 l.length 0 aa aa (aB _) aa aa
 constructor
 .intro h;have:=c i h;simpa[hi]using this
 .intro h;by_cases a:i<(aR l x).1
  .exact a
  .have:=d i (by unfold aR at a;omega) hi;simp[hi]at this;omega
theorem cu.SK {R:List Pt} {gone:List Bool} {YS:List Nat} (h:cu R gone YS):(bU R).Pairwise (·<=·):=dA.2 (h.A9.imp fun h=>by unfold kE at h;omega)
section
variable {R:List Pt} {gone:List Bool} {YS:List Nat} {l:List Pt}
theorem dG {i:Nat} (hi:i<R.length):bV R i=R[i]:=by simp[bV,hi]
theorem wN (c:cu R gone YS) (x1 x2 y1 y2:Int) (i:Nat):i∈(lM R YS x1 x2 y1 y2).1↔i∈YS/\H8 x1 x2 y1 y2 (bV R i)=true:=by
 unfold lM;split
 .rename_i h;refine⟨fun k=>absurd k iA,fun⟨j,d⟩=>?_⟩;have hi:=c.lt j;rcases h with h|h|h
  .subst h;simp at hi
  .unfold H8 at d;simp at d;omega
  .unfold H8 at d;simp at d;omega
 .rename_i h;have e:0<R.length:=by
   cases R with
   |nil=>simp at h
   |cons a b=>simp
  have m:y1<=y2:=aa;have⟨w1,w2,w3⟩:=bJ 0 R.length e;show i∈(down _ _ _ _ _ _ _).1↔_;rw[wo _ w1 c.le m i,c.top e];refine and_congr_right fun hi=>?_;have f:=c.lt hi;have g:i<(bU R).length:=by unfold bU;simpa using f
  have l:(bU R)[i]=(bV R i).1:=by rw[dG f];simp[bU]
  rw[sF c.SK x1 g,sG c.SK x2 g,l];unfold H8 lI;simp only[bO]
theorem I8 (c:cu R gone YS) (x1 x2 y1 y2:Int):(lM R YS x1 x2 y1 y2).1.Nodup:=by
 unfold lM;split
 .exact nS
 .rename_i h;have d:0<R.length:=by
   cases R with
   |nil=>simp at h
   |cons a b=>simp
  have e:y1<=y2:=aa;have⟨w1,w2,w3⟩:=bJ 0 R.length d;exact A7 _ w1 c.nodup c.le e
theorem EO (b:cu R gone YS) {i k:Nat} (hi:i<R.length) (a:k<R.length) (e:jI R i=jI R k):i=k:=by
 unfold jI at e;rw[dG hi,dG a]at e;have hid:=dA.1 b.ids;rcases Nat.lt_trichotomy i k with h|h|h
 .exact absurd e (gQ.1 hid i k hi a h)
 .exact h
 .exact absurd e.symm (gQ.1 hid k i a hi h)
theorem Og {a b:List Int} (f:a.Nodup) (g:b.Nodup) (h:∀x,x∈a↔x∈b):dE a=dE b:=by
 have hp:a.Perm b:=(za f g).2 h;have i:(dE a).Pairwise (·<=·):=(q9 (le:=fun x y:Int=>decide (x<=y)) (fun a b c d e=>by simp at*;omega) (fun a b=>aD) a).imp (fun h=>aP h);have j:(dE b).Pairwise (·<=·):=(q9 (le:=fun x y:Int=>decide (x<=y)) (fun a b c d e=>by simp at*;omega) (fun a b=>aD) b).imp (fun h=>aP h);exact Ii (fun x y _ _ d e=>aa) i j (((qJ a _).trans hp).trans (qJ b _).symm)
theorem I9 (a:cu R gone YS) (d:sD R YS l) (x1 x2 y1 y2:Int):dE ((lM R YS x1 x2 y1 y2).1.map (jI R))=hasB l x1 x2 y1 y2/\(lM R YS x1 x2 y1 y2).1.length=(l.filter (H8 x1 x2 y1 y2)).length:=by
 have g:((lM R YS x1 x2 y1 y2).1.map (jI R)).Nodup:=by
  refine dA.2 (Ac (fun{i k} hi m h e=>h ?_) (I8 a x1 x2 y1 y2));exact EO a (a.lt ((wN a x1 x2 y1 y2 i).1 hi).1) (a.lt ((wN a x1 x2 y1 y2 k).1 m).1) e
 have j:(ids (l.filter (H8 x1 x2 y1 y2))).Nodup:=by
  have h:=dA.1 d.jc;exact dA.2 (lT _ h)
 have f:∀x,x∈(lM R YS x1 x2 y1 y2).1.map (jI R)↔x∈ids (l.filter (H8 x1 x2 y1 y2)):=fun x=>by
  unfold ids;rw[dh,dh];constructor
  .rintro⟨i,hi,rfl⟩;have⟨b,c⟩:=(wN a x1 x2 y1 y2 i).1 hi;exact⟨bV R i,bF.2 ⟨(d.mem _).2 ⟨i,b,rfl⟩,c⟩,rfl⟩
  .rintro⟨p,hp,rfl⟩;have⟨b,c⟩:=bF.1 hp;obtain⟨i,hi,rfl⟩:=(d.mem p).1 b;exact⟨i,(wN a x1 x2 y1 y2 i).2 ⟨hi,c⟩,rfl⟩
 refine⟨Og g j f,?_⟩;have:=((za g j).2 f).length_eq;unfold ids at this;simpa using this
theorem sD.len (a:cu R gone YS) (b:sD R YS l):YS.length=l.length:=by
 have f:(YS.map (jI R)).Nodup:=dA.2 (Ac (fun{i k} hi c h e=>h (EO a (a.lt hi) (a.lt c) e)) a.nodup);have d:∀x,x∈YS.map (jI R)↔x∈ids l:=fun x=>by
  unfold ids;rw[dh,dh];constructor
  .rintro⟨i,hi,rfl⟩;exact⟨_,(b.mem _).2 ⟨i,hi,rfl⟩,rfl⟩
  .rintro⟨p,hp,rfl⟩;obtain⟨i,hi,rfl⟩:=(b.mem p).1 hp;exact⟨i,hi,rfl⟩
 have:=((za f b.jc).2 d).length_eq;unfold ids at this;simpa using this
theorem sD.drop (d:cu R gone YS) (f:sD R YS l) {x:Nat} (b:x<R.length) (h:x∈YS):sD R (dW YS x) (l.filter fun p=>decide (p≠R[x])):=by
 refine⟨dA.2 (lT _ (dA.1 f.jc)),fun p=>?_⟩;rw[bF,bO,f.mem];unfold dW;constructor
 .rintro⟨⟨i,hi,rfl⟩,a⟩;refine⟨i,bF.2 ⟨hi,?_⟩,rfl⟩;rw[bO];rintro rfl;exact a (dG b)
 .rintro⟨i,hi,rfl⟩;have⟨c,a⟩:=bF.1 hi;refine⟨⟨i,c,rfl⟩,fun e=>?_⟩;rw[bO]at a;apply a;have g:=d.lt c;refine EO d g b ?_;unfold jI;rw[e,dG b]
end
theorem zl {l:List Pt} (hu:(ids l).Nodup) (YS:List Nat) (h:∀i,i∈YS↔i<(eP l).length):sD (eP l) YS l:=by
 refine⟨hu,fun p=>?_⟩;rw[<-wC];constructor
 .intro hp;have⟨i,hi,e⟩:=jb hp;exact⟨i,(h i).2 hi,by rw[dG hi];exact e⟩
 .rintro⟨i,hi,rfl⟩;have:=(h i).1 hi;rw[dG this];exact bB this
end
section
open Go.RowKit
attribute [local irreducible] wpQuiet
theorem nI (l:List Int):(dE l).Pairwise (·<=·):=
 (q9 (le:=fun x y:Int=>decide (x<=y)) (fun a b c d e=>by simp at*;omega) (fun a b=>aD) l).imp (fun h=>aP h)
theorem zV {l S:List Int} (a:S.Pairwise (·<=·)) (hp:S.Perm l):dE l=S:=
 Ii (fun x y _ _ b c=>aa) (nI l) a ((qJ l _).trans hp.symm)
end
section
open Go.RowKit
theorem bI (x:Nat) (h:x<2^64) (a:x≠0):1<=Lib.bitLen x/\2^(Lib.bitLen x-1)<=x/\x<2^Lib.bitLen x:=Lib.bitLenAux_bounds 64 x h a
theorem zm:Lib.bitLen 0=0:=rfl
theorem fu {a b:Nat} (e:a<=b) (h:b<2^64):Lib.bitLen a<=Lib.bitLen b:=by
 by_cases c:a=0
 .subst c;rw[zm];exact aX _
 .have d:=bI a aa c;have f:=bI b h aa;have:=(Ij (by decide:1<2)).1 (ry d.2.1 (ry e f.2.2));omega
theorem zn {d e:Nat} (hd:0<d) (h:d<2^62) (a:e<=d/2):Lib.bitLen e+1<=Lib.bitLen d:=by
 have b:Lib.bitLen d=1+Lib.bitLen (d/2):=Lib.bitLen_half _ aa aa;have c:=fu a aa;omega
end
section
open Go Go.RowKit
theorem Bq (p:Nat->Bool):∀(f lo hi k:Nat),hi-lo<=f->hi-lo<1000000->(bsrch p f lo hi k).2<=k+Lib.bitLen (hi-lo):=by
 intro f
 induction f with
 |zero=>
  intro lo hi k a _;simp only[bsrch];omega
 |succ f ih=>
  intro lo hi k a d;simp only[bsrch];by_cases h:lo<hi
  .rw[aN h];have b:Lib.bitLen (hi-lo)=1+Lib.bitLen ((hi-lo)/2):=Lib.bitLen_half _ aa aa;split
   .have:=ih lo (lo+(hi-lo)/2) (k+1) aa aa;rw[show lo+(hi-lo)/2-lo=(hi-lo)/2 by omega]at this;omega
   .have:=ih (lo+(hi-lo)/2+1) hi (k+1) aa aa;have c:Lib.bitLen (hi-(lo+(hi-lo)/2+1))<=Lib.bitLen ((hi-lo)/2):=fu aa aa;omega
  .rw[aM h];simp
theorem kS (l:List Int) (x:Int) (h:l.length<1000000):(aV l x).2<=Lib.bitLen l.length:=by
 have:=Bq (fun i=>decide (x<=l.getD i 0)) l.length 0 l.length 0 aa aa;simpa[aV]using this
theorem kT (l:List Int) (x:Int) (h:l.length<1000000):(aR l x).2<=Lib.bitLen l.length:=by
 have:=Bq (fun i=>decide (x<l.getD i 0)) l.length 0 l.length 0 aa aa;simpa[aR]using this
section
variable {R:List Pt} {gone:List Bool} {YS:List Nat}
theorem cu.QD (h:cu R gone YS):YS.length<=R.length:=by
 have hp:YS.Perm ((List.range R.length).filter fun i=>decide (i∈YS)):=(za h.nodup (List.nodup_range.filter _)).2 fun i=>by
  rw[bF,uV,bO];exact⟨fun hi=>⟨h.lt hi,hi⟩,fun hi=>hi.2⟩
 rw[hp.length_eq];exact bD (gT _ _) aA
theorem LQ (i:cu R gone YS) (o:R.length<=100000) (x1 x2 y1 y2:Int):(lM R YS x1 x2 y1 y2).2<=8*Lib.bitLen R.length+1:=by
 unfold lM;split
 .exact aX _
 .rename_i h;have g:0<R.length:=by
   cases R with
   |nil=>simp at h
   |cons a b=>simp
  have⟨w1,w2,w3⟩:=bJ 0 R.length g;have j:=i.QD;have c:=kS (bU R) x1 (by simp[bU];omega);have d:=kT (bU R) x2 (by simp[bU];omega);have e:=kS (jl R YS) y1 (by simp[jl];omega);have f:=kT (jl R YS) y2 (by simp[jl];omega);rw[show(bU R).length=R.length by simp[bU]]at c d;rw[show(jl R YS).length=YS.length by simp[jl]]at e f;have k:=fu j aa;have p:=(bI R.length aa aa).2.2;have l:=vB 0 R.length (Lib.bitLen R.length) aa;have m:=@Ll YS (lI R) y1 y2 (aV (bU R) x1).1 (aR (bU R) x2).1 (dM 0 R.length) w1 0;have n:=FT.AZ (dM 0 R.length) w1 0 (aV (bU R) x1).1 (aR (bU R) x2).1;show _+_+_+_+_<=_;omega
end
end
section
open Go.RowKit Go.Maps
theorem wO:∀(a b:List Int),a.Nodup->(∀x∈a,x∈b)->a.length<=b.length
 |[],b,_,_=>aX _
 |x::a,b,h,c=>by
  rw[lZ]at h;have d:=c x aA;have g:∀y∈a,y∈b.erase x:=by
   intro y f;have i:y≠x:=fun e=>h.1 (e▸f);exact(List.mem_erase_of_ne i).2 (c y (by simp[f]))
  have:=wO a (b.erase x) h.2 g;rw[List.length_erase_of_mem d]at this;have:0<b.length:=List.length_pos_of_mem d;simp only[dY];omega
def IsM {H:Type} (kk vk:IntKind) (D:DataW H) (f:Int->Option Int) (s:List Int):Prop:=
 Tidy D/\Maps.size D=s.length/\s.Nodup/\(∀x,x∈s↔(f x).isSome=true)/\
  ∀x,has D (.int kk x)=(f x).isSome/\∀z,D.atKey (.int kk x) z=(match f x with|none=>z|some v=>.lit (.int vk v))
def Gi (f:Int->Option Int) (x v:Int):Int->Option Int:=fun y=>if y=x then some v else f y
theorem IsM.empty {H:Type} (a b:IntKind):IsM (H:=H) a b (.map []) (fun _=>none) []:=
 ⟨tidy_empty,rfl,nS,aA,fun x=>⟨rfl,fun z=>rfl⟩⟩
theorem IsM.put {H:Type} {g m:IntKind} {D:DataW H} {f:Int->Option Int} {s:List Int} (h:IsM g m D f s) (x v:Int):
  IsM g m (D.put (.int g x) (.lit (.int m v))) (Gi f x v) (if x∈s then s else s++[x]):=by
 have⟨i,n,o,j,k⟩:=h;have l:WideAt.IsKeyLit (Lit.int g x):=trivial;refine⟨i.put l _,?_,?_,?_,?_⟩
 .rw[size_put i,(k x).1];by_cases c:x∈s
  .rw[aN c,aN ((j x).1 c),n]
  .rw[aM c,aM (fun h=>c ((j x).2 h)),n,bS];rfl
 .by_cases c:x∈s
  .rw[aN c];exact o
  .rw[aM c,mI];exact⟨o,aA,fun a r b p=>by simp at p;subst p;exact fun e=>c (e▸r)⟩
 .intro y;unfold Gi;by_cases d:y=x
  .subst d;by_cases c:y∈s<;>simp[c]
  .by_cases c:x∈s<;>simp[c,d,j]
 .intro y;unfold Gi;by_cases d:y=x
  .subst d;exact⟨by simpa using has_put_same i.isMap l _,fun z=>by simpa using atKey_put_same i.isMap l _ z⟩
  .have q:(Lit.int g y)≠(.int g x):=fun e=>d (by injection e);exact⟨by rw[has_put_other q];simpa[d]using(k y).1,fun z=>by rw[atKey_put_other q];simpa[d]using(k y).2 z⟩
theorem Br {a b:List Int} (d:a.Nodup) (e:b.Nodup) (h:∀x,x∈a↔x∈b):a.length=b.length:=
 Nat.le_antisymm (wO _ _ d fun x c=>(h x).1 c) (wO _ _ e fun x c=>(h x).2 c)
theorem wP:∀(L s:List Int),s.Nodup->(∀x,x∈s↔x∈L)->s.length=L.length->L.Nodup
 |[],_,_,_,_=>nS
 |x::L,s,c,b,d=>by
  have g:x∈s:=(b x).2 aA;have a:x∉L:=fun a=>by
   have:=wO s L c (fun y i=>by rcases gU.1 ((b y).1 i)with rfl|h;exact a;exact h);simp at d;omega
  refine lZ.2 ⟨a,wP L (s.erase x) (c.erase x) (fun y=>?_) ?_⟩
  .rw[c.mem_erase_iff,b y,gU];constructor
   .rintro⟨f,rfl|h⟩
    .exact absurd rfl f
    .exact h
   .exact fun h=>⟨fun e=>a (e▸h),.inr h⟩
  .rw[List.length_erase_of_mem g];simp at d;omega
theorem wQ (L s:List Int) (b:s.Nodup) (a:∀x,x∈s↔x∈L):decide (s.length=L.length)=decide L.Nodup:=by
 rw[uP];exact⟨wP L s b a,fun h=>Br b h a⟩
def H9 (l:List Pt):Prop:=∀p∈l,(Lit.int .u32 p.2.2).wf=true
def placeF:List Pt->Nat->(Int->Option Int)
 |_,0=>fun _=>none
 |l,i+1=>Gi (placeF l i) (l.getD i (0,0,0)).2.2 i
theorem zo (l:List Pt):∀(i:Nat),i<=l.length->∀x,(placeF l i x).isSome=true↔x∈ids (l.take i)
 |0,_,x=>by simp[placeF,ids]
 |i+1,h,x=>by
  have ih:=zo l i aa x;have c:l.take (i+1)=l.take i++[l[i]]:=gW aa;have b:l.getD i (0,0,0)=l[i]:=by simp[show i<l.length by omega]
  unfold placeF Gi;rw[c,ids,bL,bP,b];by_cases a:x=l[i].2.2
  .simp[a]
  .rw[aM a,ih];simp[ids,a]
theorem Bt {l:List Pt} (hu:(ids l).Nodup):∀(i:Nat),i<=l.length->∀k,k<i->placeF l i (l.getD k (0,0,0)).2.2=some (k:Int)
 |0,_,k,d=>aa
 |i+1,h,k,d=>by
  have g:∀j,j<l.length->l.getD j (0,0,0)=l[j]! :=fun j c=>by simp[c]
  unfold placeF Gi;by_cases e:k=i
  .subst e;rw[aN rfl]
  .have f:(l.getD k (0,0,0)).2.2≠(l.getD i (0,0,0)).2.2:=by
    intro b;have a:=gQ.1 hu k i (by simp[ids];omega) (by simp[ids];omega) aa;simp[ids]at a;simp[show k<l.length by omega,show i<l.length by omega]at b;exact a b
   rw[aM f];exact Bt hu i aa k aa
def nJ (D:DataW Unit) (l:List Pt) (i:Nat):Prop:=∃s,IsM .u32 .i64 D (placeF l i) s
theorem nJ.put {D:DataW Unit} {l:List Pt} {i:Nat} (h:nJ D l i) (hi:i<l.length):nJ (D.put (.int .u32 l[i].2.2) (.lit (.int .i64 (i:Nat)))) l (i+1):=by
 have⟨s,h⟩:=h;have a:=h.put l[i].2.2 i;have b:l.getD i (0,0,0)=l[i]:=by simp[hi]
 have e:placeF l (i+1)=Gi (placeF l i) l[i].2.2 i:=by rw[placeF,b]
 rw[<-e]at a;exact⟨_,a⟩
theorem nJ.size {D:DataW Unit} {l:List Pt} (h:nJ D l l.length):(((Maps.size D:Nat):Int)==((l.length:Nat):Int))=lH l:=by
 have⟨s,a⟩:=h;have c:(ids l).length=l.length:=by simp[ids]
 have b:=wQ (ids l) s a.2.2.1 (fun x=>(a.2.2.2.1 x).trans (by have:=zo l l.length (aB _) x;rwa [jk]at this));rw[a.2.1,<-c];unfold lH;rw[<-b,mO];simp only[beq_iff_eq,bO];omega
theorem Gj (a:Option Addr) (c:Nat) (l:List Pt) (w:World) (s:bQ bX 3 w a l) (O:l.length<=1000000) (x:H9 l):
  aK 89 #[.slice a l.length c] w (fV w (.bool (lH l))):=by
 have B:=ag s;have E:=ag x;clear s x;have N:=@vv prog;go_enter func89,ntmps89;go_wp2
 go_loopw [9] (fun k wr=>∃i:Nat,k=.int .i64 i/\i<=l.length/\Below w.heap.size w wr/\Hid (∃(D:DataW Unit),wr.ownsMap prog 27 (plainElem prog 3) w.heap.size i D/\nJ D l i)) (fun k _=>l.length-(intOf k).toNat)
 case atStart=>exact⟨0,rfl,aX _,(aJ _ _).alloc (aB _) _,⟨.map [],uK _ _ _ _,[],IsM.empty _ _⟩⟩
 case round=>
  obtain⟨i,rfl,hi,e,HO⟩:=hrel;by_cases g:i<l.length
  .obtain⟨b,off,q,M,f⟩:=(B.o.below e).get aa;have K:=f i g 0 aa;have x1:=f i g 1 aa;have x2:=f i g 2 aa;simp only[bX,fw,fD,dx]at K x1 x2;have G:Hid (keyOf prog 27 (.int .u32 l[i].2.2)=some (.int .u32 l[i].2.2)):=rR underlying27 (E.o _ (bB _));obtain⟨D,t,d⟩:=HO.o;have n:=ag (d.put g);have L:=e.size;have m:=ag q;clear HO f d q;generalize l[i]=p at*;obtain⟨I,J,H⟩:=p;obtain rfl:=m.o;clear m;have h:=t.kept (qI wr (.cells #[af I,af J,ay H] 29) none) aA
   go_wp2_with (at_mapUpdate;refine uF _ rfl _ _ _ 26 rfl 27 3 (rU underlying27) underlying26 _ w.heap.size i _ rfl h dD _ _ _ rfl rfl G.o _ [] (rO underlying3 (by simp[Lit.wf,IntKind.min,IntKind.max,IntKind.bits,IntKind.signed];omega)) ?_;intro w3 u r)
   have y:Below w.heap.size wr w3:=(((aJ _ wr).alloc aa _)).grown r aD (fun j F=>by cases F;omega);have A:Hid (∃(D:DataW Unit),w3.ownsMap prog 27 (plainElem prog 3) w.heap.size (i+1) D/\nJ D l (i+1)):=⟨_,u,n.o⟩;have z:=e.trans y;clear u r h t n;go_wp2;go_roundw
   case rel=>exact⟨i+1,by go_num,aa,z,A⟩
   case measure=>exact dU
  .obtain rfl:i=l.length:=aa;obtain⟨D,h,d⟩:=HO.o;have v:=d.size;have C:=ag v;clear v d HO
   go_wp2_with (at_len;refine wpList_len_own _ rfl _ 26 rfl 27 3 underlying26 _ w.heap.size _ _ rfl h ?_)
   go_ret;exact⟨by rw[C.o];rfl,e⟩
end
section
open Go.RowKit Go.Sort Go.Shelf Go.Lib Go.Maps
attribute [local irreducible] wpQuiet
attribute [local go_sem] Oper.eF
def upd (f:Nat->Value) (k:Nat) (v:Value):Nat->Value:=fun j=>if j=k then v else f j
theorem upd_same (f:Nat->Value) (k:Nat) (v:Value):upd f k v k=v:=by simp[upd]
theorem upd_ne {f:Nat->Value} {k j:Nat} {v:Value} (h:j≠k):upd f k v j=f j:=by simp[upd,h]
theorem tH (f:Nat->Value) (k:Nat) (v a:Value):upd (upd f k v) k a=upd f k a:=by funext j;simp only[upd];split<;>rfl
theorem Oh (f:Nat->Value) {k j:Nat} (v a:Value) (h:k≠j):upd (upd f k v) j a=upd (upd f j a) k v:=by
 funext i;simp only[upd];split<;>split<;>first|rfl|omega
theorem Ja (f:Nat->Value) (k:Nat) (v:Value) (h:f k=v):upd f k v=f:=by
 funext j;simp only[upd];split
 .rename_i e;rw[e,h]
 .rfl
def Oi (LN LL:Nat->Value) (n:Nat):List Value:=(List.range n).flatMap fun k=>[LN k,LL k]
theorem ql (LN LL:Nat->Value) (n:Nat):(Oi LN LL n).length=n*2:=by
 unfold Oi;rw[gm (sz:=2) (fun _=>rfl)];simp
theorem tJ (LN LL:Nat->Value) {n k:Nat} (h:k<n):(Oi LN LL n)[k*2]? =some (LN k)/\(Oi LN LL n)[k*2+1]? =some (LL k):=by
 have a:=flat_get (enc:=fun k=>[LN k,LL k]) (sz:=2) (fun _=>rfl) (List.range n) k (aP h) 0 aa;have b:=flat_get (enc:=fun k=>[LN k,LL k]) (sz:=2) (fun _=>rfl) (List.range n) k (aP h) 1 aa;simp only[xK,dx,fw,fD]at a b;exact⟨a,b⟩
theorem Oj (LN LL:Nat->Value) {n k:Nat} (h:k<n) (v:Value):(Oi LN LL n).set (k*2) v=Oi (upd LN k v) LL n:=by
 apply xM;intro i;rw[List.getElem?_set];by_cases hi:i<n*2
 .have hd:i/2<n:=aa;have⟨a,b⟩:=tJ LN LL hd;have⟨c,d⟩:=tJ (upd LN k v) LL hd;rcases D6 i with hm|hm
  .have e:i/2*2=i:=aa;rw[e]at a c;rw[c];by_cases f:k*2=i
   .rw[aN f,aN (by rw[ql];omega),show i/2=k by omega,upd_same]
   .rw[aM f,a,upd_ne aa]
  .have e:i/2*2+1=i:=aa;rw[e]at b d;rw[d,aM aa,b]
 .rw[aM aa,ow (by rw[ql];omega),ow (by rw[ql];omega)]
theorem Ol (LN LL:Nat->Value) {n k:Nat} (h:k<n) (v:Value):(Oi LN LL n).set (k*2+1) v=Oi LN (upd LL k v) n:=by
 apply xM;intro i;rw[List.getElem?_set];by_cases hi:i<n*2
 .have hd:i/2<n:=aa;have⟨a,b⟩:=tJ LN LL hd;have⟨c,d⟩:=tJ LN (upd LL k v) hd;rcases D6 i with hm|hm
  .have e:i/2*2=i:=aa;rw[e]at a c;rw[c,aM aa,a]
  .have e:i/2*2+1=i:=aa;rw[e]at b d;rw[d];by_cases f:k*2+1=i
   .rw[aN f,aN (by rw[ql];omega),show i/2=k by omega,upd_same]
   .rw[aM f,b,upd_ne aa]
 .rw[aM aa,ow (by rw[ql];omega),ow (by rw[ql];omega)]
abbrev cK (W:World) (base gl n c:Nat) (LN LL:Nat->Value):Prop:=W.ownsRow base 150 2 (au gl n c) n (Oi LN LL n)
theorem cK.get {W:World} {base gl n c k:Nat} {LN LL:Nat->Value} (h:cK W base gl n c LN LL) (d:k<n):W.cell? (ae gl (k*2))=some (LN k)/\W.cell? (ae gl (k*2+1))=some (LL k):=by
 have⟨a,b⟩:=tJ LN LL d;exact⟨(h.cellAt (k*2) aa).trans a,(h.cellAt (k*2+1) aa).trans b⟩
theorem cK.Be {W:World} {base gl n c k:Nat} {LN LL:Nat->Value} (h:cK W base gl n c LN LL) (a:k<n) (v:Value):cK (W.setCell (ae gl (k*2)) v) base gl n c (upd LN k v) LL:=by
 have:=(h.stored (k*2) v).1;rwa [Oj LN LL a]at this
theorem cK.QE {W:World} {base gl n c k:Nat} {LN LL:Nat->Value} (h:cK W base gl n c LN LL) (a:k<n) (v:Value):cK (W.setCell (ae gl (k*2+1)) v) base gl n c LN (upd LL k v):=by
 have:=(h.stored (k*2+1) v).1;rwa [Ol LN LL a]at this
theorem cK.kept {S:Nat->Prop} {W W':World} {base gl n c:Nat} {LN LL:Nat->Value} (h:cK W base gl n c LN LL) (K:ax S W W') (hS:¬S gl):cK W' base gl n c LN LL:=
 aT h K fun g e=>by injection e with e;exact e▸hS
theorem wR {w w':World} {a n:Nat} {D:DataW Unit} (h:w.ownsMap prog 27 (plainElem prog 3) a n D) (e:w'.heap[a]? =w.heap[a]?):w'.ownsMap prog 27 (plainElem prog 3) a n D:=by
 have⟨c,b,d,r⟩:=h;exact⟨c,b,e.trans d,r⟩
theorem Om {w:World} {b n:Nat} {D:DataW Unit} {x:Int} {i:Nat} (h:w.ownsMap prog 27 (plainElem prog 3) b n D) (f:(Lit.int .u32 x).wf=true) (hd:D.atKey (.int .u32 x) (.lit (.int .i64 0))=.lit (.int .i64 (i:Nat))):
  (Instr.lookup 26 (.map (some b)) (.int .u32 x) false).run prog w=.ok (.int .i64 i) w:=by
 have⟨c,d,a,g⟩:=h.lookup_int (t:=26) (e:=3) (q:=.i64) (key:=.int .u32 x) (rU underlying27) underlying26 underlying3 (zeroValue3 _) (rR underlying27 f);rw[hd]at a;injection a with a;injection a with _ a;subst a;exact d
def mX (w0:World) (base gl n cl:Nat) (LN LL:Nat->Value) (K kl kr m fb:Nat) (nm:Nat->Int) (L:List Nat) (j jf:Nat) (wr:World) (vl vr vf:Value):Prop:=
 cK wr base gl n cl (upd (upd LN kl vl) kr vr) (upd LL K vf)/\
 wr.ownsRow w0.heap.size 27 1 vl ((L.take j).filter fun i=>decide (i<m)).length ((((L.take j).filter fun i=>decide (i<m)).map nm).map (Value.int .u32))/\
 wr.ownsRow w0.heap.size 27 1 vr ((L.take j).filter fun i=>!decide (i<m)).length ((((L.take j).filter fun i=>!decide (i<m)).map nm).map (Value.int .u32))/\
 wr.ownsRow fb 3 1 vf (jf+1) (((lf m L).take (jf+1)).map (Value.int .i64))/\
 (∀g,vl.ownBlock=some g->vr.ownBlock≠some g)/\ax (fun b=>b=gl\/b=fb) w0 wr
theorem mX.drewN {w0:World} {base gl n cl:Nat} {LN LL:Nat->Value} {K kl kr m fb:Nat} {nm:Nat->Int} {L:List Nat} {j jf:Nat} {wr:World} {vl vr vf:Value} (h:mX w0 base gl n cl LN LL K kl kr m fb nm L j jf wr vl vr vf) (q:Nat):mX w0 base gl n cl LN LL K kl kr m fb nm L j jf (wr.drewN q) vl vr vf:=by
 have⟨a,b,c,d,e,f⟩:=h;exact⟨a,b,c,d,e,f.below (Below.bq _ q)⟩
section
variable {w0:World} {base gl n cl:Nat} {LN LL:Nat->Value} {K kl kr m fb:Nat} {nm:Nat->Int} {L:List Nat} {j jf:Nat} {w3 w4:World} {vl vr vf v1:Value}
theorem mX.left (h:mX w0 base gl n cl LN LL K kl kr m fb nm L j jf w3 vl vr vf) (B:j<L.length) (hi:L[j]<m) (D:kl<n) (E:kl≠kr) (M:gl<w0.heap.size) (I:fb<w0.heap.size) (J:gl≠fb)
  (t:w4.ownsRow w0.heap.size 27 1 v1 (((L.take j).filter fun i=>decide (i<m)).length+1) ((((L.take j).filter fun i=>decide (i<m)).map nm).map (Value.int .u32)++[.int .u32 (nm L[j])])) (r:w3.grownBy w4 vl.ownBlock) (A:v1.ownBlock=vl.ownBlock\/∃b,v1.ownBlock=some b/\w3.heap.size<=b):
  mX w0 base gl n cl LN LL K kl kr m fb nm L (j+1) jf (w4.setCell (ae gl (kl*2)) v1) v1 vr vf:=by
 obtain⟨a,b,c,d,e,f⟩:=h;have o:ax (fun k=>vl.ownBlock=some k) w3 w4:=(ax.refl _ w3).grown r (fun k C=>.inl C);have p:ax (fun k=>k=gl) w4 (w4.setCell (ae gl (kl*2)) v1):=(ax.refl (fun k=>k=gl) w4).set (a:=(ae gl (kl*2))) v1 (.inl rfl);have u:=b.lt;have v:=c.lt;have s:L.take (j+1)=L.take j++[L[j]]:=gW B;have w:(L.take (j+1)).filter (fun i=>decide (i<m))=(L.take j).filter (fun i=>decide (i<m))++[L[j]]:=by rw[s,kX];simp[hi]
 have x:(L.take (j+1)).filter (fun i=>!decide (i<m))=(L.take j).filter (fun i=>!decide (i<m)):=by rw[s,kX];simp[hi]
 have F:∀g,v1.ownBlock=some g->w0.heap.size<=g:=fun g r=>(t.lt g r).1;refine⟨?_,?_,?_,?_,?_,?_⟩
 .have y:=(a.kept o fun h=>by have:=(u gl h).1;omega).Be D v1;rwa [Oh _ _ _ (fun h=>E h.symm),tH]at y
 .rw[w,bS,bL,bL];exact aT (S:=fun k=>k=gl) t p fun g h=>by have:=F g h;omega
 .rw[x];exact aT (S:=fun k=>k=gl) (aT (S:=fun k=>vl.ownBlock=some k) c o fun g h l=>e g l h) p fun g h=>by have:=(v g h).1;omega
 .refine aT (S:=fun k=>k=gl) (aT (S:=fun k=>vl.ownBlock=some k) d o fun g h l=>bA b d ai g l h) p fun g h l=>?_;subst l;have z:=cK.kept a (ax.refl (fun _=>False) w3) (fun h=>h);exact bA z d ai g rfl h
 .intro g h l;rcases A with q|⟨G,q,H⟩
  .exact e g (q▸h) l
  .rw[q]at h;injection h with h;have:=(v g l).2;omega
 .exact((f.mono (S':=fun k=>(k=gl\/k=fb)\/w0.heap.size<=k) (fun k h=>.inl h)).trans (o.mono (fun k h=>.inr (u k h).1))).strip.set (a:=(ae gl (kl*2))) v1 (.inl (.inl rfl))
theorem mX.right (h:mX w0 base gl n cl LN LL K kl kr m fb nm L j jf w3 vl vr vf) (B:j<L.length) (hi:¬L[j]<m) (D:kr<n) (M:kl≠kr) (J:gl<w0.heap.size) (H:fb<w0.heap.size) (I:gl≠fb)
  (t:w4.ownsRow w0.heap.size 27 1 v1 (((L.take j).filter fun i=>!decide (i<m)).length+1) ((((L.take j).filter fun i=>!decide (i<m)).map nm).map (Value.int .u32)++[.int .u32 (nm L[j])])) (r:w3.grownBy w4 vr.ownBlock) (A:v1.ownBlock=vr.ownBlock\/∃b,v1.ownBlock=some b/\w3.heap.size<=b):
  mX w0 base gl n cl LN LL K kl kr m fb nm L (j+1) jf (w4.setCell (ae gl (kr*2)) v1) vl v1 vf:=by
 obtain⟨a,b,c,d,e,f⟩:=h;have o:ax (fun k=>vr.ownBlock=some k) w3 w4:=(ax.refl _ w3).grown r (fun k C=>.inl C);have p:ax (fun k=>k=gl) w4 (w4.setCell (ae gl (kr*2)) v1):=(ax.refl (fun k=>k=gl) w4).set (a:=(ae gl (kr*2))) v1 (.inl rfl);have u:=b.lt;have v:=c.lt;have s:L.take (j+1)=L.take j++[L[j]]:=gW B;have w:(L.take (j+1)).filter (fun i=>!decide (i<m))=(L.take j).filter (fun i=>!decide (i<m))++[L[j]]:=by rw[s,kX];simp[hi]
 have x:(L.take (j+1)).filter (fun i=>decide (i<m))=(L.take j).filter (fun i=>decide (i<m)):=by rw[s,kX];simp[hi]
 have E:∀g,v1.ownBlock=some g->w0.heap.size<=g:=fun g r=>(t.lt g r).1;refine⟨?_,?_,?_,?_,?_,?_⟩
 .have y:=(a.kept o fun h=>by have:=(v gl h).1;omega).Be D v1;rwa [tH]at y
 .rw[x];exact aT (S:=fun k=>k=gl) (aT (S:=fun k=>vr.ownBlock=some k) b o fun g h l=>e g h l) p fun g h=>by have:=(u g h).1;omega
 .rw[w,bS,bL,bL];exact aT (S:=fun k=>k=gl) t p fun g h=>by have:=E g h;omega
 .refine aT (S:=fun k=>k=gl) (aT (S:=fun k=>vr.ownBlock=some k) d o fun g h l=>bA c d ai g l h) p fun g h l=>?_;subst l;have z:=cK.kept a (ax.refl (fun _=>False) w3) (fun h=>h);exact bA z d ai g rfl h
 .intro g h l;rcases A with q|⟨F,q,G⟩
  .exact e g h (q▸l)
  .rw[q]at l;injection l with l;have:=(u g h).2;omega
 .exact((f.mono (S':=fun k=>(k=gl\/k=fb)\/w0.heap.size<=k) (fun k h=>.inl h)).trans (o.mono (fun k h=>.inr (v k h).1))).strip.set (a:=(ae gl (kr*2))) v1 (.inl (.inl rfl))
end
theorem QF {m:Nat} {L:List Nat} {j:Nat} (h:j<L.length):(lf m L).take (j+1+1)=(lf m L).take (j+1)++[(((L.take (j+1)).filter fun i=>decide (i<m)).length:Int)]:=by
 have a:=rY m L;rw[gW aa,pX];rw[Ic]
theorem mX.RX {w0:World} {base gl n cl:Nat} {LN LL:Nat->Value} {K kl kr m fb:Nat} {nm:Nat->Int} {L:List Nat} {j:Nat} {p l:World} {vl vr vf v1:Value} (h:mX w0 base gl n cl LN LL K kl kr m fb nm L (j+1) j p vl vr vf) (y:j<L.length) (v:K<n) (F:gl<w0.heap.size) (D:w0.heap.size=fb+1) (E:gl≠fb)
  (t:l.ownsRow fb 3 1 v1 (j+1+1) (((lf m L).take (j+1)).map (Value.int .i64)++[.int .i64 (((L.take (j+1)).filter fun i=>decide (i<m)).length:Nat)])) (w:p.grownBy l vf.ownBlock):
  mX w0 base gl n cl LN LL K kl kr m fb nm L (j+1) (j+1) (l.setCell (ae gl (K*2+1)) v1) vl vr v1:=by
 obtain⟨a,b,c,d,e,f⟩:=h;have q:ax (fun k=>vf.ownBlock=some k) p l:=(ax.refl _ p).grown w (fun k z=>.inl z);have r:ax (fun k=>k=gl) l (l.setCell (ae gl (K*2+1)) v1):=(ax.refl (fun k=>k=gl) l).set (a:=(ae gl (K*2+1))) v1 (.inl rfl);have B:=b.lt;have C:=c.lt;have A:=d.lt;have a':=cK.kept a (ax.refl (fun _=>False) p) (fun h=>h);have x:vf.ownBlock≠some gl:=fun h=>bA a' d ai gl rfl h;have s:=a.kept q x;refine⟨?_,?_,?_,?_,e,?_⟩
 .have u:=s.QE v v1;rwa [tH]at u
 .exact aT (S:=fun k=>k=gl) (aT (S:=fun k=>vf.ownBlock=some k) b q fun g h o=>bA b d ai g h o) r fun g h=>by have:=(B g h).1;omega
 .exact aT (S:=fun k=>k=gl) (aT (S:=fun k=>vf.ownBlock=some k) c q fun g h o=>bA c d ai g h o) r fun g h=>by have:=(C g h).1;omega
 .rw[QF y,bL];refine aT (S:=fun k=>k=gl) t r fun g h o=>?_;subst o;exact bA s t ai g rfl h
 .exact((f.mono (S':=fun k=>(k=gl\/k=fb)\/w0.heap.size<=k) (fun k h=>.inl h)).trans (q.mono (fun k h=>by have:=(A k h).1;by_cases e:k=fb;exact .inl (.inr e);exact .inr aa))).strip.set (a:=(ae gl (K*2+1))) v1 (.inl (.inl rfl))
theorem yx (l r:FT) (s tb z off cn gl cl base K kl kr m t cL:Nat) (N:List Nd) (LN LL:Nat->Value) (L:List Nat) (nm:Nat->Int) (I:Option Addr) (cu:Nat) (D:DataW Unit) (w:World) (bb:FT.At N (.node l r) s) (n:(FT.node l r).root s=K) (cc:l.root s=kl) (cA:r.root (s+l.size)=kr) (df:l.hi=m) (dQ:m<=1000000) (dB:N.length<=1000000)
  (a3:w.cell? (ae tb 4)=some (.slice (some (ae z off)) N.length cn)) (bJ:bQ oK 7 w (some (ae z off)) N) (bu:w.cell? (ae tb 5)=some (au gl N.length cl))
  (aM:cK w base gl N.length cl LN LL) (V:z≠gl/\tb≠gl/\∀b o,I=some (ae b o)->b≠gl)
  (c7:LN K=.slice I L.length cu) (b4:Rd (.int .u32) w I (L.map nm)) (dL:L.length<=1000000) (b8:LN kl=aL) (b9:LN kr=aL)
  (cg:w.ownsMap prog 27 (plainElem prog 3) t cL D) (Y:∀i∈L,D.atKey (.int .u32 (nm i)) (.lit (.int .i64 0))=.lit (.int .i64 (i:Nat))) (cG:∀i∈L,(Lit.int .u32 (nm i)).wf=true) (c8:∀i∈L,i<=1000000):
  aK 96 #[aj tb,af K,.map (some t)] w fun e w'=>e=.returned (.tuple #[])/\∃vl vr vf,cK w' base gl N.length cl (upd (upd LN kl vl) kr vr) (upd LL K vf)/\
   w'.ownsRow w.heap.size 27 1 vl (L.filter fun i=>decide (i<m)).length (((L.filter fun i=>decide (i<m)).map nm).map (Value.int .u32))/\
   w'.ownsRow w.heap.size 27 1 vr (L.filter fun i=>!decide (i<m)).length (((L.filter fun i=>!decide (i<m)).map nm).map (Value.int .u32))/\
   w'.ownsRow w.heap.size 3 1 vf (lf m L).length ((lf m L).map (Value.int .i64))/\(∀g,vl.ownBlock=some g->vr.ownBlock≠some g)/\ax (fun b=>b=gl) w w':=by
 obtain⟨dc,n0,aO,aR,bo,bp,bI,br⟩:=mR bJ bb.get;have C:=bb.lt;have ch:=gY w _ a3;have dF:gl<w.heap.size:=(aM.lt gl rfl).2;simp only at ch;simp only[FT.top]at n0 aO aR bo bp br;have cd:=FT.wJ l r s;have bg:=bb.left.lt;have cf:=bb.right.lt;obtain⟨dG,-,-,-,-,cM,-,-⟩:=mR bJ bb.left.get;rw[FT.vC,df,cc]at cM;have dh:((s+l.size:Nat):Int)-1=(kl:Int):=by rw[<-cc];unfold FT.root;have:=l.size_pos;omega
 have di:((s+l.size+r.size:Nat):Int)-1=(kr:Int):=by rw[<-cA];unfold FT.root;have:=r.size_pos;omega
 rw[dh]at aO;rw[di]at aR;rw[n]at n0 aO aR bo bp bI br C cd;rw[cc]at bg cd;rw[cA]at cf cd;generalize dP:l.lo=lo at*;generalize dH:r.hi=hi at*;have cr:=ag aM;have ce:=ag aM;have c2:=aM.frozenAt (K*2+1);obtain⟨al,cN⟩:=aM.get C;have cT:=ag a3;have du:=ag bJ;have cU:=ag bu;obtain⟨cO,cD⟩:∃cO,cO=LL K:=⟨_,rfl⟩;rw[<-cD]at cN;clear aM bJ cD;go_enter func96,ntmps96
 go_upto_region 0 with fail
 go_cut [6,7]from 6 (fun dn dp cQ=>∃x:Nat,dn=aj x/\dp=.pointer (some (ae gl (K*2)))/\Hid (cQ.heap[x]? =some (.cells #[.int .u8 2,af kl,af kr,af lo,af hi,af 0,af 0] 163 (0,0)))/\Hid (Below w.heap.size w cQ)/\w.heap.size<=x)
 case first=>
  have dz:=ah a3;have dA:=ah bu;have dX:=ah n0;have dY:=ah aO;have dZ:=ah aR;have d0:=ah bo;have d3:=ah bp;have d4:=ah bI;have d5:=ah br;clear a3 bu n0 aO aR bo bp bI br;refine ak (fun W=>∃p:aQ w,W=p.W) [15] [(0,false),(1,false),(2,false),(3,true),(4,false),(5,false),(6,true),(7,false),(8,false),(9,false),(10,true),(11,false),(12,false)] ⟨⟨_,(aJ _ _).drew⟩,rfl⟩ 3 ?_;refine aF 13 rfl fun K n=>?_;go_simp;refine n _ _ (fun _ _=>⟨⟨_,(aJ _ w).alloc (aB _) _|>.drew⟩,rfl⟩) ?_;clear n K;refine aF 14 rfl fun K n=>?_;go_simp;refine n _ _ (fun _ _=>⟨⟨_,(aJ _ w).alloc (aB _) _|>.drew⟩,rfl⟩) ?_;clear n K;refine aH [15] ?_;go_wp2;go_meet;exact⟨w.heap.size,rfl,rfl,lg _ _,(aJ _ w).alloc (aB _) _|>.drew,aB _⟩
 case rest=>
  obtain⟨x,rfl,rfl,bS,bL,dV⟩:=hcut;have cH:x<wc.heap.size:=(aZ.1 bS.o).1;have bt:Hid (cK wc base gl N.length cl LN LL):=az cr.o bL.o;have c3:=bt.o.frozenAt (K*2+1);have m1:=(bt.o.get C).2;obtain⟨co,cE⟩:∃co,co=LL K:=⟨_,rfl⟩;rw[<-cE]at m1;clear cE;have Z:=bS.o;have d7:wc.cell? (ae x 0)=some (.int .u8 2):=aG Z;clear Z;clear n0 aO aR bo bp bI br a3 bu c2 al cN;have dT:=bL.o.size;obtain⟨fb,bv⟩:∃fb,fb=wc.heap.size:=⟨_,rfl⟩;have dv:(wc.alloc (.cells #[af 0] 3)).cell? (ae gl (K*2+1))=some co:=(((aJ wc.heap.size wc).alloc (aB _) _).cell (p:=(ae gl (K*2+1))) (by show gl<_;omega)).trans m1;have dx:(wc.alloc (.cells #[af 0] 3)).frozen? (ae gl (K*2+1))=false:=(((aJ wc.heap.size wc).alloc (aB _) _).frozen (p:=(ae gl (K*2+1))) (by show gl<_;omega)).trans c3;obtain⟨f,aC⟩:∃f,f=(wc.alloc (.cells #[af 0] 3)).setCell (ae gl (K*2+1)) (au wc.heap.size 1 1):=⟨_,rfl⟩;have bT:ax (fun b=>b=gl) wc f:=by rw[aC];exact((ax.refl (fun b=>b=gl) wc).alloc _).set (a:=(ae gl (K*2+1))) _ (.inl rfl)
  have E:ax (fun b=>b=gl) w f:=((ax.refl (fun b=>b=gl) w).below bL.o).trans bT;have bU:cK f base gl N.length cl LN (upd LL K (au fb 1 1)):=by rw[aC,bv];exact cK.QE (az bt.o ((aJ _ _).alloc (aB _) _)) C _
  have cp:f.ownsRow fb 3 1 (au fb 1 1) 1 [.int .i64 0]:=by
   have h:=Bj wc fb [.int .i64 0] 3 aa (by unfold maxLen;simp);rw[aC];rw[bv]at h |-;exact aT (S:=fun b=>b=gl) h ((ax.refl (fun b=>b=gl) _).set (a:=(ae gl (K*2+1))) _ (.inl rfl)) (fun g e=>by have cv:=NY e;omega)
  have c9:f.heap.size=fb+1:=by rw[aC,bv];simp
  have dW:x<fb:=by rw[bv];exact cH
  have dj:x≠gl:=aa;have bw:gl≠fb:=aa;obtain⟨aq,-⟩:=bZ bT cH dj;have Z:=bS.o;have y1:f.cell? (ae x 1)=some (af kl):=(aq 1).trans (aG Z);have y2:f.cell? (ae x 2)=some (af kr):=(aq 2).trans (aG Z);have dq:f.cell? (ae tb 5)=some (au gl N.length cl):=((bZ E ch V.2.1).1 5).trans cU.o;have cR:f.cell? (ae tb 4)=some (.slice (some (ae z off)) N.length cn):=((bZ E ch V.2.1).1 4).trans cT.o;have dr:f.cell? (ae gl (K*2))=some (.slice I L.length cu):=(bU.get C).1.trans (by rw[c7]);have cS:f.cell? (ae z (off+kl*7+4))=some (af m):=((bZ E dc V.1).1 _).trans cM;have cs:Hid (Rd (.int .u32) f I (L.map nm)):=by
   rcases b4 with h|⟨b,o,e,B,b7⟩
   .exact .inl h
   .exact .inr ⟨b,o,e,bR B E.size,fun i hi=>((bZ E B (V.2.2 b o e)).1 _).trans (b7 i hi)⟩
  have dR:w.heap[t]? =f.heap[t]? /\t<f.heap.size:=by
   obtain⟨cw,ct,B,-⟩:=cg;have Y:t<w.heap.size:=(aZ.1 B).1;refine⟨(E.block t Y fun e=>?_).symm,bR Y E.size⟩;subst e;rcases ce.o.2 with⟨h,-⟩|⟨g,cZ,c0,h,-,bf,-⟩
   .cases h
   .injection h with h;injection h with h;injection h with h;subst h;rw[B]at bf;cases bf
  have ds:f.cell? (ae x 0)=some (.int .u8 2):=(aq 0).trans (aG Z);clear Z aq bT
  go_upto_region 2 with fail
  rw[<-aC];clear aC
  go_upto_region 3 with fail
  go_quiet (fail)
  go_wp2_with fail
  obtain⟨w2,y⟩:∃w2,w2=f.drewN nq:=⟨_,rfl⟩;have cq:Hid (ax (fun b=>b=gl) w w2):=by rw[y];exact E.trans (Below.bq f.heap.size _|>fun h=>(ax.refl _ f).below h)
  have cz:cK w2 base gl N.length cl LN (upd LL K (au fb 1 1)):=by rw[y];exact bU
  have cx:w2.ownsRow fb 3 1 (au fb 1 1) 1 [.int .i64 0]:=by rw[y];exact cp
  have u1:w2.cell? (ae x 1)=some (af kl):=by rw[y];exact y1
  have u4:w2.cell? (ae tb 4)=some (.slice (some (ae z off)) N.length cn):=by rw[y];exact cR
  have bs:w2.cell? (ae z (off+kl*7+4))=some (af m):=by rw[y];exact cS
  have bP:Hid (w2.cell? (ae x 1)=some (af kl)/\w2.cell? (ae tb 4)=some (.slice (some (ae z off)) N.length cn)/\w2.cell? (ae z (off+kl*7+4))=some (af m)):=⟨u1,u4,bs⟩;have cX:Hid (Rd (.int .u32) w2 I (L.map nm)):=by rw[y];exact cs.o
  have bO:Hid (w2.ownsMap prog 27 (plainElem prog 3) t cL D/\t≠gl/\t<fb):=by
   rw[y];obtain⟨cw,ct,B,r⟩:=cg;have Y:t<w.heap.size:=(aZ.1 B).1;have cC:t≠gl:=by
    rintro rfl;rcases ce.o.2 with⟨h,-⟩|⟨g,cZ,c0,h,-,bf,-⟩
    .cases h
    .have aE:=NY (show(au t N.length cl).ownBlock=some g by rw[h];rfl);subst aE;rw[B]at bf;cases bf
   exact⟨⟨cw,ct,(E.block t Y cC).trans B,r⟩,cC,aa⟩
  have cF:w2.heap.size=fb+1:=by rw[y];exact c9
  have dU:tb<fb/\z<fb:=aa;have cy:mX w2 base gl N.length cl LN LL K kl kr m fb nm L 0 0 w2 (aL) (aL) (au fb 1 1):=by
   refine⟨?_,dw _ _ _ _,dw _ _ _ _,?_,fun g h=>(by cases h),ax.refl _ _⟩
   .rw[Ja _ kl _ b8,Ja _ kr _ b9];exact cz
   .have cv:(lf m L).take (0+1)=[0]:=by simp[lf,List.range_succ_eq_map]
    rw[cv];exact cx
  have cV:=ag cy;have M:Hid (∀b o,0<L.length->I=some (ae b o)->b<fb):=fun b o c4 e=>by
   obtain⟨dy,d6,aw,dC,-⟩:=b4.get (aP c4);rw[e]at aw;injection aw with aw;injection aw with aw;subst aw;omega
  have cW:=ag Y;have cY:=ag cG;have dt:=ag (And.intro b8 b9);rw[<-y];clear y bU cp y1 y2 cR dq cS dr ds E cs cz cx u1 u4 bs cg Y cG cy ce cr bt b8 b9 b4
  go_loopg [51] L.length (fun dk dm wr=>∃(j:Nat) (vl vr vf:Value),dm=.int .i64 j/\j<=L.length/\L.length-j<=dk/\Hid (mX w2 base gl N.length cl LN LL K kl kr m fb nm L j j wr vl vr vf))
  case atStart=>exact⟨0,_,_,_,rfl,aX _,aa,cV⟩
  case round=>
   obtain⟨j,vl,vr,vf,rfl,dJ,dK,aV⟩:=hrel;obtain⟨ar,av,rfl⟩:=fF aV.o.2.1;obtain⟨bj,bk,bm,bn,bl,G⟩:=aV.o;have dM:((L.take j).filter fun i=>decide (i<m)).length<=L.length:=bD (gT _ _) aD;have dN:((L.take j).filter fun i=>!decide (i<m)).length<=L.length:=bD (gT _ _) aD;obtain⟨aq,-⟩:=bZ G (b:=x) aa aa;obtain⟨cP,-⟩:=bZ G (b:=tb) aa (by have:=V.2.1;omega);obtain⟨gk,-⟩:=bZ G (b:=z) aa (by have:=V.1;omega);have u1:=(aq 1).trans bP.o.1;have u4:=(cP 4).trans bP.o.2.1;have bs:=(gk (off+kl*7+4)).trans bP.o.2.2;clear aq cP gk;by_cases T:j<L.length
   .obtain⟨i,hi⟩:∃i,i=L[j]:=⟨_,rfl⟩;have bz:i∈L:=by rw[hi];exact bB _
    have dI:=c8 i bz;obtain⟨ad,bE⟩:∃ad,ad=nm i:=⟨_,rfl⟩;have db:∃b o,I=some (ae b o)/\wr.cell? (ae b (o+j))=some (ay ad):=by
     obtain⟨b,o,e,B,b7⟩:=cX.o.get aD;have aE:=b7 j (aP T);rw[fM,<-hi,<-bE]at aE;have dE:=V.2.2 b o e;have aI:=M.o b o aa e;have aI:=M.o b o aa e;have aI:=M.o b o aa e;have aI:=M.o b o aa e;have aI:=M.o b o aa e;have aI:=M.o b o aa e;have aI:=M.o b o aa e;exact⟨b,o,e,((bZ G B aa).1 _).trans aE⟩
    obtain⟨b,o,c1,dg⟩:=db;subst c1;have dd:∀q,(Instr.lookup 26 (.map (some t)) (.int .u32 ad) false).run prog (wr.drewN q)=.ok (.int .i64 i) (wr.drewN q):=fun q=>by
     rw[bE];exact Om (wR bO.o.1 (G.block t (by have:=bO.o.2.2;omega) (by have:=bO.o.2;omega))) (cY.o i bz) (cW.o i bz)
    have H:Hid (i=L[j]/\ad=nm i):=⟨hi,bE⟩;clear hi bE bz
    go_wp2_with fail
    go_quiet (fail)
    obtain⟨w3,b1⟩:∃w3,w3=wr.drewN nq:=⟨_,rfl⟩;have aW:Hid (mX w2 base gl N.length cl LN LL K kl kr m fb nm L j j w3 (.slice ar ((L.take j).filter fun i=>decide (i<m)).length av) vr vf):=by rw[b1];exact aV.o.drewN nq
    rw[<-b1];clear b1 bj bk bm bn bl G aV u1 u4 bs dg dd;obtain⟨aN,bF,bG,cJ,cI,bi⟩:=aW.o;have bx:gl<w3.heap.size:=by have:=bi.size;omega
    by_cases J:i<m
    .have d1:decide ((i:Int)<(m:Int))=true:=aP J;have d2:decide (i<m)=true:=aP J;have al:w3.cell? (ae gl (kl*2))=some (.slice ar ((L.take j).filter fun i=>decide (i<m)).length av):=(aN.get bg).1.trans (by rw[upd_ne aa,upd_same]);have f0:=aN.frozenAt (kl*2)
     go_wp2_with (at_builtin;refine bW uk w2.heap.size bF [.int .u32 ad] rfl (by simp[Value.oneCell']) rfl _ _ rfl rfl _ rfl dD aa (by have:=bi.size;omega) ?_;intro v1 w4 X Q bc;have a1:ax (fun k=>(Value.slice ar ((L.take j).filter fun i=>decide (i<m)).length av).ownBlock=some k) w3 w4:=(ax.refl _ w3).grown Q (fun k U=>.inl U);have be:¬(Value.slice ar ((L.take j).filter fun i=>decide (i<m)).length av).ownBlock=some gl:=(fun h=>by have aE:=(bF.lt gl h).1;omega);obtain⟨a5,a7⟩:=bZ a1 bx be;have cm:=(a5 (kl*2)).trans al;have f4:=(a7 (kl*2)).trans f0;clear a5 a7;obtain⟨an,ao,rfl⟩:=fF X;have aY:=ag X;have aU:=ag Q;have aS:=ag bc;clear X Q bc)
     obtain⟨d,O⟩:∃d,d=w4.setCell (ae gl (kl*2)) (.slice an (((L.take j).filter fun i=>decide (i<m)).length+1) ao):=⟨_,rfl⟩;have v:Hid (mX w2 base gl N.length cl LN LL K kl kr m fb nm L (j+1) j d (.slice an (((L.take j).filter fun i=>decide (i<m)).length+1) ao) vr vf):=by
      rw[O];exact mX.left aW.o T (by rw[<-H.o.1];exact J) bg aa aa aa bw (by rw[<-H.o.1,<-H.o.2];exact aY.o) aU.o (fQ aS.o)
     have F:((L.take (j+1)).filter fun i=>decide (i<m)).length=((L.take j).filter fun i=>decide (i<m)).length+1:=by
      rw[gW T,kX,<-H.o.1];simp[J]
     rw[<-O];clear O a1 be cm f4 aY aU aS aN bF bG cJ cI bi aW al f0 bx;generalize ba:((.slice an (((L.take j).filter fun i=>decide (i<m)).length+1) ao):Value)=bV at*;generalize b5:(vr:Value)=bX at*;have b6:∃a c,bV=.slice a (((L.take j).filter fun i=>decide (i<m)).length+1) c:=⟨_,_,ba.symm⟩;clear ba b5;obtain⟨bY,b0,rfl⟩:=b6;obtain⟨A,P⟩:∃A,A=((L.take j).filter fun i=>decide (i<m)).length+1:=⟨_,rfl⟩
     first|rw[<-P]at F v |- |rw[<-P]at F v
     have bK:=ag F;have c5:A<=1000001:=aa;clear F P;obtain⟨u,ci,ck,ac,cj,ab⟩:=v.o;have ca:gl<d.heap.size:=by have:=ab.size;omega
     have b2:=ah ((u.get C).2.trans (by rw[upd_same]));have b3:=ah ((u.get bg).1.trans (by rw[upd_ne aa,upd_same]));have f2:=u.frozenAt (K*2+1);have am:=(u.get C).2;rw[upd_same]at am;have a0:=ag ac;have cb:¬vf.ownBlock=some gl:=fun h=>bA u ac ai gl rfl h;have c6:=ab.size;clear u ci ck ac cj ab;refine ak (fun W=>∃p:aQ d,W=p.W) [11,12,13,14] [(0,false),(1,false),(2,false),(3,false),(4,true),(5,false),(6,false),(7,false),(8,true),(9,false)] ⟨⟨_,(aJ _ _).drew⟩,rfl⟩ 5 ?_;refine aF 10 rfl fun K n=>?_;go_simp;refine n _ _ (fun _ _=>⟨⟨_,(aJ _ d).alloc (aB _) _|>.drew⟩,rfl⟩) ?_;clear n K;refine aF 11 rfl fun K n=>?_;refine bC nA fb (w:=(d.alloc (.cells #[af A] 3)).drew) (az a0.o ((aJ _ d).alloc (aB _) _|>.drew)) [.int .i64 A] rfl (by simp[Value.oneCell']) rfl (.tmp 92) (.tmp 98) rfl rfl d.heap.size rfl (lg _ _) dD aa aD ?_;intro a9 a4 ap bh bd da de;refine n _ _ (fun _ h=>absurd aA h) ?_;clear n K;refine aH [12,13,14] ?_;have R:d.grownBy ap vf.ownBlock:=dO (bN ((aJ _ d).alloc (aB _) _|>.drew)) bd;have a2:ax (fun k=>vf.ownBlock=some k) d ap:=(ax.refl _ d).grown R (fun k U=>.inl U);obtain⟨a6,a8⟩:=bZ a2 ca cb;have dl:=(a6 (K*2+1)).trans am;have f7:=(a8 (K*2+1)).trans f2;have bM:Hid (mX w2 base gl N.length cl LN LL K kl kr m fb nm L (j+1) (j+1) (ap.setCell (ae gl (K*2+1)) (au a9 (j+1+1) a4)) (.slice bY A b0) bX (au a9 (j+1+1) a4)):=
      mX.RX v.o T C aa cF bw (by rw[bK.o];exact bh) R
     clear a6 a8 a2 R bd bh am f2 b2 b3 a0 v;go_wp2
     go_roundg (L.length-(j+1))
     case measure=>omega
     case rel=>exact⟨j+1,_,_,_,by go_num,aa,aB _,bM⟩
    .have d1:decide ((i:Int)<(m:Int))=false:=aP J;have d2:decide (i<m)=false:=aP J;have al:w3.cell? (ae gl (kr*2))=some vr:=(aN.get cf).1.trans (by rw[upd_same]);have f0:=aN.frozenAt (kr*2)
     go_wp2_with (at_builtin;refine bW uk w2.heap.size bG [.int .u32 ad] rfl (by simp[Value.oneCell']) rfl _ _ rfl rfl _ rfl dD aa (by have:=bi.size;omega) ?_;intro v1 w4 X Q bc;have a1:ax (fun k=>vr.ownBlock=some k) w3 w4:=(ax.refl _ w3).grown Q (fun k U=>.inl U);have be:¬vr.ownBlock=some gl:=(fun h=>by have aE:=(bG.lt gl h).1;omega);obtain⟨a5,a7⟩:=bZ a1 bx be;have cm:=(a5 (kr*2)).trans al;have f4:=(a7 (kr*2)).trans f0;clear a5 a7;obtain⟨an,ao,rfl⟩:=fF X;have aY:=ag X;have aU:=ag Q;have aS:=ag bc;clear X Q bc)
     obtain⟨d,O⟩:∃d,d=w4.setCell (ae gl (kr*2)) (.slice an (((L.take j).filter fun i=>!decide (i<m)).length+1) ao):=⟨_,rfl⟩;have v:Hid (mX w2 base gl N.length cl LN LL K kl kr m fb nm L (j+1) j d (.slice ar ((L.take j).filter fun i=>decide (i<m)).length av) (.slice an (((L.take j).filter fun i=>!decide (i<m)).length+1) ao) vf):=by
      rw[O];exact mX.right aW.o T (by rw[<-H.o.1];exact J) cf aa aa aa bw (by rw[<-H.o.1,<-H.o.2];exact aY.o) aU.o (fQ aS.o)
     have F:((L.take (j+1)).filter fun i=>decide (i<m)).length=((L.take j).filter fun i=>decide (i<m)).length:=by
      rw[gW T,kX,<-H.o.1];simp[J]
     rw[<-O];clear O a1 be cm f4 aY aU aS aN bF bG cJ cI bi aW al f0 bx;generalize ba:((.slice ar ((L.take j).filter fun i=>decide (i<m)).length av):Value)=bV at*;generalize b5:((.slice an (((L.take j).filter fun i=>!decide (i<m)).length+1) ao):Value)=bX at*;have b6:∃a c,bV=.slice a (((L.take j).filter fun i=>decide (i<m)).length) c:=⟨_,_,ba.symm⟩;clear ba b5;obtain⟨bY,b0,rfl⟩:=b6;obtain⟨A,P⟩:∃A,A=((L.take j).filter fun i=>decide (i<m)).length:=⟨_,rfl⟩
     first|rw[<-P]at F v |- |rw[<-P]at F v
     have bK:=ag F;have c5:A<=1000001:=aa;clear F P;obtain⟨u,ci,ck,ac,cj,ab⟩:=v.o;have ca:gl<d.heap.size:=by have:=ab.size;omega
     have b2:=ah ((u.get C).2.trans (by rw[upd_same]));have b3:=ah ((u.get bg).1.trans (by rw[upd_ne aa,upd_same]));have f2:=u.frozenAt (K*2+1);have am:=(u.get C).2;rw[upd_same]at am;have a0:=ag ac;have cb:¬vf.ownBlock=some gl:=fun h=>bA u ac ai gl rfl h;have c6:=ab.size;clear u ci ck ac cj ab;refine ak (fun W=>∃p:aQ d,W=p.W) [11,12,13,14] [(0,false),(1,false),(2,false),(3,false),(4,true),(5,false),(6,false),(7,false),(8,true),(9,false)] ⟨⟨_,(aJ _ _).drew⟩,rfl⟩ 5 ?_;refine aF 10 rfl fun K n=>?_;go_simp;refine n _ _ (fun _ _=>⟨⟨_,(aJ _ d).alloc (aB _) _|>.drew⟩,rfl⟩) ?_;clear n K;refine aF 11 rfl fun K n=>?_;refine bC nA fb (w:=(d.alloc (.cells #[af A] 3)).drew) (az a0.o ((aJ _ d).alloc (aB _) _|>.drew)) [.int .i64 A] rfl (by simp[Value.oneCell']) rfl (.tmp 92) (.tmp 98) rfl rfl d.heap.size rfl (lg _ _) dD aa aD ?_;intro a9 a4 ap bh bd da de;refine n _ _ (fun _ h=>absurd aA h) ?_;clear n K;refine aH [12,13,14] ?_;have R:d.grownBy ap vf.ownBlock:=dO (bN ((aJ _ d).alloc (aB _) _|>.drew)) bd;have a2:ax (fun k=>vf.ownBlock=some k) d ap:=(ax.refl _ d).grown R (fun k U=>.inl U);obtain⟨a6,a8⟩:=bZ a2 ca cb;have dl:=(a6 (K*2+1)).trans am;have f7:=(a8 (K*2+1)).trans f2;have bM:Hid (mX w2 base gl N.length cl LN LL K kl kr m fb nm L (j+1) (j+1) (ap.setCell (ae gl (K*2+1)) (au a9 (j+1+1) a4)) (.slice bY A b0) bX (au a9 (j+1+1) a4)):=
      mX.RX v.o T C aa cF bw (by rw[bK.o];exact bh) R
     clear a6 a8 a2 R bd bh am f2 b2 b3 a0 v;go_wp2
     go_roundg (L.length-(j+1))
     case measure=>omega
     case rel=>exact⟨j+1,_,_,_,by go_num,aa,aB _,bM⟩
   .obtain rfl:j=L.length:=aa;clear bj bk bm bn bl G u1 u4 bs;go_wp2
    first|go_end0|go_ret
    obtain⟨bj,bk,bm,bn,bl,G⟩:=aV.o;have dS:=cq.o.size;have cB:=rY m L;simp only[jk]at bj bk bm bl;rw[ky (AY cB),<-cB]at bn;exact⟨rfl,_,_,_,bj,bH bk aa,bH bm aa,bH bn aa,bl,
     ((cq.o.mono (S':=fun k=>k=gl\/w.heap.size<=k) (fun k h=>.inl h)).trans (G.mono (fun k h=>by rcases h with h|h;exact .inl h;exact .inr aa))).strip⟩
theorem yz (a s tb E off cn gl cl base K V:Nat) (N:List Nd) (LN LL:Nat->Value) (w:World) (F:FT.At N (.leaf a) s) (f:(FT.leaf a).root s=K) (ap:N.length<=1000000)
  (i:w.cell? (ae tb 4)=some (.slice (some (ae E off)) N.length cn)) (B:bQ oK 7 w (some (ae E off)) N) (u:w.cell? (ae tb 5)=some (au gl N.length cl))
  (k:cK w base gl N.length cl LN LL):
  aK 96 #[aj tb,af K,.map (some V)] w fun e w'=>e=.returned (.tuple #[])/\∃vf,(∃a m c,vf=.slice a m c)/\cK w' base gl N.length cl LN (upd LL K vf)/\(∀g,vf.ownBlock=some g->w.heap.size<=g/\g<w'.heap.size)/\ax (fun b=>b=gl) w w':=by
 obtain⟨av,n0,l,n,q,r,y,t⟩:=mR B F.get;have v:=F.lt;have T:=gY w _ i;have ar:gl<w.heap.size:=(k.lt gl rfl).2;simp only at T;simp only[FT.top]at n0 l n q r t;rw[f]at n0 l n q r y t v;have P:=ag k;have R:=k.frozenAt (K*2+1);obtain⟨X,J⟩:=k.get v;have ab:=ag i;have ad:=ag B;have ac:=ag u;obtain⟨L,G⟩:∃L,L=LL K:=⟨_,rfl⟩;rw[<-G]at J;clear k B G;go_enter func96,ntmps96
 go_upto_region 0 with fail
 go_cut [6,7]from 6 (fun Y Z M=>∃x:Nat,Y=aj x/\Z=.pointer (some (ae gl (K*2)))/\Hid (M.heap[x]? =some (.cells #[.int .u8 1,af (-1),af (-1),af a,af (a+1),af 0,af a] 163 (0,0)))/\Hid (Below w.heap.size w M)/\w.heap.size<=x)
 case first=>
  have an:=ah i;have ao:=ah u;have aA:=ah n0;have aC:=ah l;have aD:=ah n;have aE:=ah q;have aI:=ah r;have aL:=ah y;have aM:=ah t;clear i u n0 l n q r y t;refine ak (fun W=>∃p:aQ w,W=p.W) [15] [(0,false),(1,false),(2,false),(3,true),(4,false),(5,false),(6,true),(7,false),(8,false),(9,false),(10,true),(11,false),(12,false)] ⟨⟨_,(aJ _ _).drew⟩,rfl⟩ 3 ?_;refine aF 13 rfl fun K f=>?_;go_simp;refine f _ _ (fun _ _=>⟨⟨_,(aJ _ w).alloc (aB _) _|>.drew⟩,rfl⟩) ?_;clear f K;refine aF 14 rfl fun K f=>?_;go_simp;refine f _ _ (fun _ _=>⟨⟨_,(aJ _ w).alloc (aB _) _|>.drew⟩,rfl⟩) ?_;clear f K;refine aH [15] ?_;go_wp2;go_meet;exact⟨w.heap.size,rfl,rfl,lg _ _,(aJ _ w).alloc (aB _) _|>.drew,aB _⟩
 case rest=>
  obtain⟨x,rfl,rfl,C,h,ay⟩:=hcut;have U:x<wc.heap.size:=(aZ.1 C.o).1;have z:Hid (cK wc base gl N.length cl LN LL):=az P.o h.o;have S:=z.o.frozenAt (K*2+1);have m1:=(z.o.get v).2;obtain⟨A,H⟩:∃A,A=LL K:=⟨_,rfl⟩;rw[<-H]at m1;clear H;have ai:(wc.alloc (.cells #[af 0] 3)).cell? (ae gl (K*2+1))=some A:=(((aJ wc.heap.size wc).alloc (aB _) _).cell (p:=(ae gl (K*2+1))) (by have:=h.o.size;show gl<_;omega)).trans m1;have al:(wc.alloc (.cells #[af 0] 3)).frozen? (ae gl (K*2+1))=false:=(((aJ wc.heap.size wc).alloc (aB _) _).frozen (p:=(ae gl (K*2+1))) (by have:=h.o.size;show gl<_;omega)).trans S;clear n0 l n q r y t i u R X J;have aw:=h.o.size;obtain⟨d,j⟩:∃d,d=(wc.alloc (.cells #[af 0] 3)).setCell (ae gl (K*2+1)) (au wc.heap.size 1 1):=⟨_,rfl⟩;have D:ax (fun b=>b=gl) wc d:=by rw[j];exact((ax.refl (fun b=>b=gl) wc).alloc _).set (a:=(ae gl (K*2+1))) _ (.inl rfl)
  have Q:Hid (cK d base gl N.length cl LN (upd LL K (au wc.heap.size 1 1))):=by rw[j];exact cK.QE (az z.o ((aJ _ _).alloc (aB _) _)) v _
  have O:Hid (ax (fun b=>b=gl) w d):=((ax.refl (fun b=>b=gl) w).below h.o).trans D;have aq:d.heap.size=wc.heap.size+1:=by rw[j];simp
  have I:=C.o;have aN:d.cell? (ae x 0)=some (.int .u8 1):=((bZ D U aa).1 0).trans (aG I);clear I
  go_upto_region 2 with fail
  rw[<-j];clear j;go_wp2;refine kY (kJ rfl _ _ _) rfl ?_;exact⟨rfl,au wc.heap.size 1 1,⟨_,_,_,rfl⟩,Q.o,fun g e=>by have am:=NY e;omega,O.o⟩
end
section
open Go.RowKit Go.Sort Go.Shelf Go.Lib
def nW (p q:Pt):Int:=if jd p.2.1 q.2.1=0 then jd p.2.2 q.2.2 else jd p.2.1 q.2.1
theorem qm (p q:Pt):nW p q<0↔uf p q:=by
 unfold nW uf jd
 repeat' split
 all_goals omega
theorem SL (p q:Pt) (w:World):aK 71 #[iT p.1 p.2.1 p.2.2,iT q.1 q.2.1 q.2.2] w fun e w'=>e=.returned (af (nW p q))/\xz w w':=by
 have a:=ag (fun W=>VR p.2.1 q.2.1 p.2.2 q.2.2 W);unfold nW;generalize(if jd p.2.1 q.2.1=0 then jd p.2.2 q.2.2 else jd p.2.1 q.2.1)=r at*;go_enter func71,ntmps71
 go_wp2_with fail
 refine(a.o _).mono ?_;rintro e w1 ⟨rfl,h⟩;go_wp2;go_ret;exact⟨rfl,(((xz.refl _).alloc _).alloc _).trans h⟩
theorem Bu:gF 71:=di func71 aO rfl
def Ny (p q:Pt):Bool:=!decide (uf q p)
def ku (l:List Pt):List Pt:=l.mergeSort Ny
theorem iZ (l:List Pt):(ku l).Perm l:=qJ l Ny
theorem jU (l:List Pt) (p:Pt):p∈ku l↔p∈l:=(iZ l).mem_iff
theorem zq {l:List Pt} (h:(ids l).Nodup):(ku l).Pairwise uf:=by
 have d:(ku l).Pairwise fun p q=>Ny p q=true:=q9 (le:=Ny) (fun p q r j k=>by simp only[Ny,oC,iI]at*;unfold uf at*;omega) (fun p q=>by simp only[Ny,AB,oC,iI];unfold uf;omega) l;have c:(ids (ku l)).Nodup:=((iZ l).map _).nodup_iff.2 h;have e:(ku l).Pairwise fun p q=>p.2.2≠q.2.2:=by
  unfold ids at c;exact dA.1 c
 refine(d.and e).imp fun{a b} g=>?_;have⟨f,i⟩:=g;simp only[Ny,oC,iI]at f;unfold uf at*;omega
theorem Kt {l S:List Pt} (h:(ids l).Nodup) (hS:S.Pairwise uf) (a:∀p,p∈S↔p∈l):S=ku l:=
 qa wz Dl hS (zq h) fun p=>by rw[a,jU]
theorem QG:SWO (ltOf nW):=yn qm wz (fun _ _ _=>sV) (fun x y z=>by unfold uf;omega)
theorem Gl {l l':List Pt} (hu:(ids l).Nodup) (hp:l'.Perm l) (g:l'.Pairwise fun x y=>¬nW y x<0):l'=ku l:=by
 refine Kt hu ?_ fun p=>hp.mem_iff;have c:(ids l').Nodup:=(hp.map _).nodup_iff.2 hu;have d:l'.Pairwise fun p q=>p.2.2≠q.2.2:=dA.1 c;refine(g.and d).imp fun{a b} f=>?_;have⟨e,h⟩:=f;rw[qm]at e;unfold uf at*;omega
theorem Oo {w:World} {base g c n:Nat} {l:List Pt} (i:l.length=n) (k:n<4611686018427387904) (h:w.ownsRow base 29 3 (au g n c) n (l.flatMap bX)) (hu:(ids l).Nodup):
  aK 93 #[au g n c,.func (.func 71) #[] #[]] w fun e w'=>
   e=.returned (.tuple #[])/\w'.ownsRow base 29 3 (au g n c) n ((ku l).flatMap bX)/\w.grownBy w' (some g):=by
 have a:=mV Tryz.Iy bg ai isAgg29 sizeOf29 nG nW QG 71 #[] Bu (fun x y W=>SL x y W) i k h;change aK 93 _ _ _ at a;refine a.mono ?_;rintro e w' ⟨d,l',hp,j,b,f⟩;rw[Gl hu hp j]at b;exact⟨d,b,f⟩
theorem yA {w:World} {base n:Nat} {v:Value} {l:List Pt} (b:l.length=n) (i:n<4611686018427387904) (h:w.ownsRow base 29 3 v n (l.flatMap bX)) (hu:(ids l).Nodup):
  aK 93 #[v,.func (.func 94) #[] #[]] w fun e w'=>
   e=.returned (.tuple #[])/\w'.ownsRow base 29 3 v n ((eP l).flatMap bX)/\ax (fun k=>v.ownBlock=some k) w w':=by
 rcases h.2 with⟨rfl,c⟩|⟨g,j,m,rfl,o,_⟩
 .subst c;obtain rfl:l=[]:=gX b;refine(qg none 0 _ w).mono ?_;rintro e w' ⟨a,rfl⟩;exact⟨a,by simpa[eP]using h,ax.refl _ _⟩
 .refine(Kn b i h hu).mono ?_;rintro e w' ⟨a,f,d⟩;exact⟨a,f,(ax.refl _ w).grown d (fun k e=>.inl e)⟩
theorem LU {w:World} {base n:Nat} {v:Value} {l:List Pt} (b:l.length=n) (i:n<4611686018427387904) (h:w.ownsRow base 29 3 v n (l.flatMap bX)) (hu:(ids l).Nodup):
  aK 93 #[v,.func (.func 71) #[] #[]] w fun e w'=>
   e=.returned (.tuple #[])/\w'.ownsRow base 29 3 v n ((ku l).flatMap bX)/\ax (fun k=>v.ownBlock=some k) w w':=by
 rcases h.2 with⟨rfl,c⟩|⟨g,j,m,rfl,o,_⟩
 .subst c;obtain rfl:l=[]:=gX b;refine(qg none 0 _ w).mono ?_;rintro e w' ⟨a,rfl⟩;exact⟨a,by simpa[ku]using h,ax.refl _ _⟩
 .refine(Oo b i h hu).mono ?_;rintro e w' ⟨a,f,d⟩;exact⟨a,f,(ax.refl _ w).grown d (fun k e=>.inl e)⟩
end
section
open Go.RowKit Go.Sort Go.Shelf Go.Lib Go.Maps
structure vG (w:World) (lo fb n:Nat) (rv gv nv fv:Value) (l:List Pt):Prop where
 row:w.ownsRow lo 29 3 rv n (l.flatMap bX)
 Dw:w.ownsRow lo 4 1 gv n ((List.replicate n false).map Value.bool)
 iD:nH w lo fb n fv
 Qg:lo<=fb
 jc:w.ownsRow lo 163 7 nv (aW n).length ((aW n).flatMap oK)
def Else (w:World) (S:Nat->Prop):Prop:=∀k,k<w.heap.size->S k->∃cs t fr,w.heap[k]? =some (.cells cs t fr)/\t≠29/\t≠4/\t≠236/\t≠163
theorem oU {S:Nat->Prop} {w w':World} {base:Nat} {e:TypeId} {sz:Nat} {v:Value} {n:Nat} {xs:List Value} (h:w.ownsRow base e sz v n xs) (K:ax S w w') (hS:∀k,k<w.heap.size->S k->∃cs t fr,w.heap[k]? =some (.cells cs t fr)/\t≠e):w'.ownsRow base e sz v n xs:=
 aT h K fun a b d=>by
  have⟨cs,t,fr,c,ht⟩:=hS a (h.lt a b).2 d;exact bn h c ht a b rfl
theorem vG.kept {S:Nat->Prop} {w w':World} {lo fb n:Nat} {o j m i:Value} {l:List Pt} (h:vG w lo fb n o j m i l) (K:ax S w w') (hS:Else w S):vG w' lo fb n o j m i l:=by
 refine⟨oU h.row K fun k g f=>?_,oU h.Dw K fun k g f=>?_,⟨bz K h.iD.blk fun f=>?_,oU h.iD.row K fun k g f=>?_⟩,h.Qg,oU h.jc K fun k g f=>?_⟩
 .obtain⟨cs,t,fr,a,b,c,d,e⟩:=hS k g f;exact⟨cs,t,fr,a,b⟩
 .obtain⟨cs,t,fr,a,b,c,d,e⟩:=hS k g f;exact⟨cs,t,fr,a,c⟩
 .have p:=(aZ.1 h.iD.blk).1;have⟨cs,t,fr,a,b,c,d,e⟩:=hS fb p f;have:=a.symm.trans h.iD.blk;injection this with this;injection this with _ this _;exact d this
 .obtain⟨cs,t,fr,a,b,c,d,e⟩:=hS k g f;exact⟨cs,t,fr,a,e⟩
 .obtain⟨cs,t,fr,a,b,c,d,e⟩:=hS k g f;exact⟨cs,t,fr,a,e⟩
abbrev wS (rv xv gv:Value) (fb:Nat) (nv lv yv:Value) (n:Nat):Obj:=.cells #[rv,xv,gv,aj fb,nv,lv,yv,af n] 146 (0,0)
theorem wT:gF 91:=di func91 aO rfl
theorem mD:gF 95:=di func95 aO rfl
theorem vH:gF 92:=di func92 aO rfl
theorem LV:∃i,Tryz.prog.info? 4=some i/\i.zero=some (.bool false)/\i.size=1/\i.bytes=1:=by
 have h:(Tryz.prog.info? 4).map (fun i=>(i.zero,i.size,i.bytes))=some (some (.bool false),1,1):=aO;cases hi:Tryz.prog.info? 4 with
 |none=>rw[hi]at h;cases h
 |some i=>rw[hi]at h;injection h with h;injection h with b a;injection a with a c;exact⟨i,rfl,b,a,c⟩
theorem LW:∃i,Tryz.prog.info? 150=some i/\i.zero=some (.agg #[aL,aL])/\i.size=2/\i.bytes=48:=by
 have h:(Tryz.prog.info? 150).map (fun i=>(i.zero,i.size,i.bytes))=some (some (.agg #[aL,aL]),2,48):=aO;cases hi:Tryz.prog.info? 150 with
 |none=>rw[hi]at h;cases h
 |some i=>rw[hi]at h;injection h with h;injection h with b a;injection a with a c;exact⟨i,rfl,b,a,c⟩
theorem Oq (n:Nat) (d:n<=1000000) (W:World):(Instr.makeSlice 95 (.int .i64 n) (.int .i64 n)).run prog W=.ok (au W.heap.size n n) (W.alloc (.cells (madeCells #[.bool false] n) 4)):=by
 have⟨i,hi,c,b,a⟩:=LV;have h:=run_make (P:=prog) W 95 4 i (.bool false) underlying95 hi c .i64 .i64 n n aa (vo _) (by rw[a];omega) aa;rw[h,ib,b,iM];rfl
theorem Ot (n:Nat) (d:n<=1000000) (W:World):(Instr.makeSlice 144 (.int .i64 n) (.int .i64 n)).run prog W=.ok (au W.heap.size n n) (W.alloc (.cells (madeCells #[aL,aL] (n*2)) 150)):=by
 have⟨i,hi,c,b,a⟩:=LW;have h:=run_make (P:=prog) W 144 150 i (.agg #[aL,aL]) underlying144 hi c .i64 .i64 n n aa (vo _) (by rw[a];omega) aa;rw[h,ib,b];rfl
theorem yB (W:World) (base n:Nat) (a:base<=W.heap.size) (b:n<=1000000):(W.alloc (.cells (madeCells #[.bool false] n) 4)).ownsRow base 4 1 (au W.heap.size n n) n ((List.replicate n false).map Value.bool):=by
 have h:=World.ownsRow_lit (e:=4) (size:=1) W (madeCells #[.bool false] n) n a dD (by rw[size_madeCells,iM]);rwa [toList_madeCells_one,<-Ej]at h
theorem LX (W:World) (base n:Nat) (d:base<=W.heap.size) (f:n<=1000000):cK (W.alloc (.cells (madeCells #[aL,aL] (n*2)) 150)) base W.heap.size n n (fun _=>aL) (fun _=>aL):=by
 have h:=World.ownsRow_lit (e:=150) (size:=2) W (madeCells #[aL,aL] (n*2)) n d dD (by rw[size_madeCells]);have e:(madeCells #[aL,aL] (n*2)).toList=Oi (fun _=>aL) (fun _=>aL) n:=by
  apply xM;intro i;by_cases hi:i<n*2
  .have hd:i/2<n:=aa;have⟨a,b⟩:=tJ (fun _=>aL) (fun _=>aL) hd;have c:(madeCells #[aL,aL] (n*2)).toList[i]? =some (aL):=by
    simp only[madeCells,Ip,Array.getElem?_map,Array.getElem?_range,hi,gK,fP];rcases D6 i with hm|hm<;>simp[hm]
   rw[c];rcases D6 i with hm|hm
   .rw[show i=i/2*2 by omega,a]
   .rw[show i=i/2*2+1 by omega,b]
  .rw[ow (by simp[size_madeCells];omega),ow (by rw[ql];omega)]
 rw[e]at h;exact h
theorem Jb {w3 a:World} {base fb n:Nat} {d m0:Int} {l:Value} {e:TypeId} {sz:Nat} {v:Value} {m:Nat} {xs:List Value} (h:w3.ownsRow base e sz v m xs) (f:e≠236) (i:w3.heap[fb]? =some (lC d m0 l n)) (j:ax (fun k=>k=fb) w3 a):a.ownsRow base e sz v m xs:=
 aT h j fun g b c=>bn h i (iN f) g b c.symm
theorem Ou {w w':World} {c:Nat} {f:Array MapEntry} {d:Nat} {base:Nat} {e:TypeId} {sz:Nat} {v:Value} {n:Nat} {xs:List Value} (h:w.ownsRow base e sz v n xs) (K:ax (fun k=>k=c) w w') (b:w.heap[c]? =some (.map f d)):w'.ownsRow base e sz v n xs:=
 aT h K fun o a j=>by
  subst j;rcases h.2 with⟨rfl,-⟩|⟨g,l,m,rfl,-,i,-⟩
  .cases a
  .injection a with a;subst a;rw[i]at b;cases b
theorem vG.Us {w w':World} {f:Nat} {j:Array MapEntry} {i:Nat} {lo fb n:Nat} {g c d b:Value} {l:List Pt} (h:vG w lo fb n g c d b l) (K:ax (fun k=>k=f) w w') (a:w.heap[f]? =some (.map j i)):vG w' lo fb n g c d b l:=
 ⟨Ou h.row K a,Ou h.Dw K a,⟨bz K h.iD.blk (fun e=>by subst e;have m:=h.iD.blk.symm.trans a;cases m),Ou h.iD.row K a⟩,h.Qg,Ou h.jc K a⟩
def dP (R:List Pt):List Nat:=(ku R).map fun p=>R.idxOf p
theorem QH {R:List Pt} {i:Nat} (hi:i<(dP R).length):bV R (dP R)[i]=(ku R)[i]'(by simpa[dP]using hi):=by
 have a:i<(ku R).length:=by simpa[dP]using hi
 have c:(ku R)[i]∈R:=(jU R _).1 (bB a);have b:=Ie c;simp only[dP,fM,bV];rw[ja,cz b];simp
theorem jV (R:List Pt):(dP R).length=R.length:=by simp[dP,(iZ R).length_eq]
theorem Bv {R:List Pt} {p:Pt} (h:p∈R):bV R (R.idxOf p)=p:=by
 have a:=Ie h;simp only[bV];rw[ja,cz a];simp
theorem qo {R:List Pt} (g:R.Pairwise kE) (hu:(ids R).Nodup):cu R (List.replicate R.length false) (dP R):=by
 have f:R.Nodup:=g.imp fun{a b} h e=>by subst e;exact sU _ h
 have j:(ku R).Nodup:=(iZ R).nodup_iff.2 f;refine⟨g,hu,aA,?_,fun i=>?_,?_⟩
 .unfold dP;refine dA.2 (Ac (fun{p q} hp c h e=>h ?_) j);rw[<-Bv ((jU R p).1 hp),<-Bv ((jU R q).1 c),e]
 .rw[rf];constructor
  .intro h;unfold dP at h;obtain⟨p,hp,rfl⟩:=dh.1 h;rw[aN (Ie ((jU R p).1 hp))]
  .intro h;have hi:i<R.length:=by
    by_cases d:i<R.length
    .exact d
    .rw[aM d]at h;cases h
   unfold dP;refine dh.2 ⟨R[i],(jU R _).2 (bB hi),?_⟩;exact List.Nodup.idxOf_getElem f i hi
 .unfold dP;refine dA.2 (Ac (fun{p q} hp c h=>?_) (zq hu));rw[Bv ((jU R p).1 hp),Bv ((jU R q).1 c)];exact h
theorem fH {j:Nat} (h:0<j):aW j=(dM 0 j).nodes 0:=by unfold aW;rw[aM aa]
theorem kU {j:Nat} {t:FT} {s:Nat} (h:FT.At (aW j) t s):0<j:=by
 have:=h.lt;rw[df]at this;omega
theorem lD {j:Nat} (h:0<j):(dM 0 j).root 0=2*j-2:=by
 have:=fe 0 j h;unfold FT.root;omega
theorem tK {j k:Nat} (h:k<(aW j).length):∃t s,FT.At (aW j) t s/\t.root s=k:=by
 have b:0<j:=by rw[df]at h;omega
 have a:=jT j b;rw[fH b]at h a |-;rw[FT.iB]at h;have c:k<((dM 0 j).subs 0).length:=by rw[FT.fq];exact h
 exact⟨_,_,FT.kR _ 0 a _ (bB c),by rw[FT.oQ];omega⟩
abbrev Ut (t:FT) (s:Nat) (l r:FT) (q:Nat):Prop:=(t=l/\s=q)\/(t=r/\s=q+l.size)
structure yC (w:World) (B j:Nat) (R:List Pt) (YS:List Nat) (m:Nat) (LN LL:Nat->Value):Prop where
 Uu:∀t s,FT.At (aW j) t s->(t.root s=2*j-2\/∃l r q,FT.At (aW j) (.node l r) q/\m<=(FT.node l r).root q/\Ut t s l r q)->w.ownsRow B 27 1 (LN (t.root s)) (nl YS t).length (((nl YS t).map (jI R)).map (Value.int .u32))
 emp:∀l r q,FT.At (aW j) (.node l r) q->(FT.node l r).root q<m->LN (l.root q)=aL/\LN (r.root (q+l.size))=aL
 Bc:∀l r q,FT.At (aW j) (.node l r) q->m<=(FT.node l r).root q->w.ownsRow B 3 1 (LL ((FT.node l r).root q)) (lf l.hi (nl YS (.node l r))).length ((lf l.hi (nl YS (.node l r))).map (Value.int .i64))
 Dr:∀k,k<(aW j).length->m<=k->(∃a n c,LL k=.slice a n c)/\∀g,(LL k).ownBlock=some g->B<=g/\g<w.heap.size
 nil:∀k,k<m->LL k=aL
 QI:∀k,k<(aW j).length->∀g,(LN k).ownBlock=some g->B<=g/\g<w.heap.size
 H7:∀i k,i<(aW j).length->k<(aW j).length->i≠k->∀g,(LN i).ownBlock=some g->(LN k).ownBlock≠some g
 Gf:∀i k,i<(aW j).length->k<(aW j).length->i≠k->∀g,(LL i).ownBlock=some g->(LL k).ownBlock≠some g
section
variable {w w':World} {B base gl n c j k:Nat} {R:List Pt} {YS:List Nat} {LN LL:Nat->Value}
theorem yC.leaf (h:yC w B j R YS (k+1) LN LL) (G:cK w base gl n c LN LL) {a s:Nat} (H:FT.At (aW j) (.leaf a) s) (I:(FT.leaf a).root s=k) (C:ax (fun b=>b=gl) w w') (O:B<=w.heap.size) {vf:Value} (M:∃a m c,vf=.slice a m c) (D:∀g,vf.ownBlock=some g->w.heap.size<=g/\g<w'.heap.size):
  yC w' B j R YS k LN (upd LL k vf):=by
 have J:∀l r q,FT.At (aW j) (.node l r) q->k<=(FT.node l r).root q->k+1<=(FT.node l r).root q:=fun l r q d f=>by
  by_cases e:(FT.node l r).root q=k
  .have:=(FT.At.unique H d (by rw[I,e])).1;cases this
  .omega
 have P:k<(aW j).length:=I▸H.lt;have S:=C.size;refine⟨fun t N d f=>?_,fun l r q d f=>h.emp l r q d aa,fun l r q d f=>?_,fun i d f=>?_,fun i d=>?_,fun i d g f=>?_,h.H7,fun i E d f o g p v=>?_⟩
 .have o:=h.Uu t N d (f.imp id fun⟨l,r,q,x,y,L⟩=>⟨l,r,q,x,J l r q x y,L⟩);exact aT o C fun g z A=>bA G o ai g (by rw[A];rfl) z
 .have p:=J l r q d f;have o:=h.Bc l r q d p;rw[upd_ne aa];exact aT o C fun g z A=>bA G o ai g (by rw[A];rfl) z
 .by_cases e:i=k
  .subst e;rw[upd_same];exact⟨M,fun g u=>by have:=D g u;omega⟩
  .rw[upd_ne e];have⟨x,y⟩:=h.Dr i d aa;exact⟨x,fun g u=>by have:=y g u;omega⟩
 .rw[upd_ne aa];exact h.nil i aa
 .have:=h.QI i d g f;omega
 .have K:∀i,i<(aW j).length->i≠k->∀g,(LL i).ownBlock=some g->g<w.heap.size:=fun i hi Q g u=>by
   by_cases e:i<k
   .rw[h.nil i aa]at u;cases u
   .exact((h.Dr i hi aa).2 g u).2
  by_cases e:i=k
  .subst e;rw[upd_same]at p;rw[upd_ne (iN o)]at v;have:=K E f (iN o) g v;have:=D g p;omega
  .rw[upd_ne e]at p;by_cases F:E=k
   .subst F;rw[upd_same]at v;have:=K i d e g p;have:=D g v;omega
   .rw[upd_ne F]at v;exact h.Gf i E d f o g p v
theorem yC.node (h:yC w B j R YS (k+1) LN LL) (W:cK w base gl n c LN LL) {l r:FT} {s:Nat} (H:FT.At (aW j) (.node l r) s) (af:(FT.node l r).wf) (X:(FT.node l r).root s=k) (M:ax (fun b=>b=gl) w w') (L:B<=w.heap.size) {vl vr vf:Value}
  (ab:w'.ownsRow w.heap.size 27 1 vl ((nl YS (.node l r)).filter fun i=>decide (i<l.hi)).length ((((nl YS (.node l r)).filter fun i=>decide (i<l.hi)).map (jI R)).map (Value.int .u32)))
  (ad:w'.ownsRow w.heap.size 27 1 vr ((nl YS (.node l r)).filter fun i=>!decide (i<l.hi)).length ((((nl YS (.node l r)).filter fun i=>!decide (i<l.hi)).map (jI R)).map (Value.int .u32)))
  (P:w'.ownsRow w.heap.size 3 1 vf (lf l.hi (nl YS (.node l r))).length ((lf l.hi (nl YS (.node l r))).map (Value.int .i64))) (O:∀g,vl.ownBlock=some g->vr.ownBlock≠some g):
  yC w' B j R YS k (upd (upd LN (l.root s) vl) (r.root (s+l.size)) vr) (upd LL k vf):=by
 have J:=kU H;have an:=FT.wJ l r s;have ao:=H.left.lt;have ap:=H.right.lt;have N:=FT.zk (fH J▸H);rw[lD J]at N;have Z:∀l' f q,FT.At (aW j) (.node l' f) q->(FT.node l' f).root q=k->l'=l/\f=r/\q=s:=fun l' f q d a=>by
  have⟨C,u⟩:=FT.At.unique d H (by rw[a,X]);cases C;exact⟨rfl,rfl,u⟩
 have Y:∀l' f q,FT.At (aW j) (.node l' f) q->(FT.node l' f).root q≠k->l'.root q≠l.root s/\l'.root q≠r.root (s+l.size)/\f.root (q+l'.size)≠l.root s/\f.root (q+l'.size)≠r.root (s+l.size):=fun l' f q d a=>by
  have hu:=fun e=>a ((FT.I7 (fH J▸d) (fH J▸H) e).trans X);exact⟨fun e=>hu (.inl e),fun e=>hu (.inr (.inl e)),fun e=>hu (.inr (.inr (.inl e))),fun e=>hu (.inr (.inr (.inr e)))⟩
 have aq:=M.size;have ac:=ab.lt;have ae:=ad.lt;have Q:=P.lt;have S:∀{v:Value} {m:Nat} {xs:List Value},w.ownsRow B 27 1 v m xs->w'.ownsRow B 27 1 v m xs:=fun p=>aT p M fun g C u=>bA W p ai g (by rw[u];rfl) C;have ak:∀{v:Value} {m:Nat} {xs:List Value},w.ownsRow B 3 1 v m xs->w'.ownsRow B 3 1 v m xs:=fun p=>aT p M fun g C u=>bA W p ai g (by rw[u];rfl) C;refine⟨fun t ah d a=>?_,fun l' f q d a=>?_,fun l' f q d a=>?_,fun i d a=>?_,fun i d=>?_,fun i d g a=>?_,fun i I d a p g D A=>?_,fun i I d a p g D A=>?_⟩
 .rcases a with a|⟨l',f,q,x,z,E⟩
  .rw[a,upd_ne (iN N.2),upd_ne (iN N.1),<-a];exact S (h.Uu t ah d (.inl a))
  .by_cases e:(FT.node l' f).root q=k
   .obtain⟨rfl,rfl,rfl⟩:=Z l' f q x e;rcases E with⟨rfl,rfl⟩|⟨rfl,rfl⟩
    .rw[upd_ne aa,upd_same,sS YS t f af];exact bH ab L
    .rw[upd_same,oG YS l' t af];exact bH ad L
   .obtain⟨F,y,G,K⟩:=Y l' f q x e;have p:=h.Uu t ah d (.inr ⟨l',f,q,x,aa,E⟩);rcases E with⟨rfl,rfl⟩|⟨rfl,rfl⟩
    .rw[upd_ne y,upd_ne F];exact S p
    .rw[upd_ne K,upd_ne G];exact S p
 .obtain⟨F,y,G,K⟩:=Y l' f q d aa;have⟨T,aj⟩:=h.emp l' f q d aa;rw[upd_ne y,upd_ne F,upd_ne K,upd_ne G];exact⟨T,aj⟩
 .by_cases e:(FT.node l' f).root q=k
  .obtain⟨rfl,rfl,rfl⟩:=Z l' f q d e;rw[e,upd_same];exact bH P L
  .rw[upd_ne e];exact ak (h.Bc l' f q d aa)
 .by_cases e:i=k
  .subst e;rw[upd_same];have⟨x,T,C⟩:=fF P;exact⟨⟨_,_,_,C⟩,fun g o=>by have:=Q g o;omega⟩
  .rw[upd_ne e];have⟨x,z⟩:=h.Dr i d aa;exact⟨x,fun g o=>by have:=z g o;omega⟩
 .rw[upd_ne aa];exact h.nil i aa
 .by_cases e:i=r.root (s+l.size)
  .subst e;rw[upd_same]at a;have:=ae g a;omega
  .rw[upd_ne e]at a;by_cases u:i=l.root s
   .subst u;rw[upd_same]at a;have:=ac g a;omega
   .rw[upd_ne u]at a;have:=h.QI i d g a;omega
 .have U:∀i,i<(aW j).length->∀g,(upd (upd LN (l.root s) vl) (r.root (s+l.size)) vr i).ownBlock=some g->(i=r.root (s+l.size)/\vr.ownBlock=some g/\w.heap.size<=g)\/(i=l.root s/\vl.ownBlock=some g/\w.heap.size<=g)\/(i≠l.root s/\i≠r.root (s+l.size)/\(LN i).ownBlock=some g/\g<w.heap.size):=fun i hi g o=>by
   by_cases e:i=r.root (s+l.size)
   .subst e;rw[upd_same]at o;exact .inl ⟨rfl,o,(ae g o).1⟩
   .rw[upd_ne e]at o;by_cases u:i=l.root s
    .subst u;rw[upd_same]at o;exact .inr (.inl ⟨rfl,o,(ac g o).1⟩)
    .rw[upd_ne u]at o;exact .inr (.inr ⟨u,e,o,(h.QI i hi g o).2⟩)
  rcases U i d g D with⟨x,z,E⟩|⟨x,z,E⟩|⟨al,x,z,E⟩<;>rcases U I a g A with⟨F,y,G⟩|⟨F,y,G⟩|⟨am,F,y,G⟩
  .omega
  .exact O g y z
  .omega
  .exact O g z y
  .omega
  .omega
  .omega
  .omega
  .exact h.H7 i I d a p g z y
 .have ag:∀i,i<(aW j).length->i≠k->∀g,(LL i).ownBlock=some g->g<w.heap.size:=fun i hi O g o=>by
   by_cases e:i<k
   .rw[h.nil i aa]at o;cases o
   .exact((h.Dr i hi aa).2 g o).2
  by_cases e:i=k
  .subst e;rw[upd_same]at D;rw[upd_ne (iN p)]at A;have:=ag I a (iN p) g A;have:=Q g D;omega
  .rw[upd_ne e]at D;by_cases V:I=k
   .subst V;rw[upd_same]at A;have:=ag i d e g D;have:=Q g A;omega
   .rw[upd_ne V]at A;exact h.Gf i I d a p g D A
theorem yC.cur (h:yC w B j R YS (k+1) LN LL) {t:FT} {s:Nat} (a:FT.At (aW j) t s) (c:k<=t.root s):w.ownsRow B 27 1 (LN (t.root s)) (nl YS t).length (((nl YS t).map (jI R)).map (Value.int .u32)):=by
 have b:=kU a;refine h.Uu t s a ?_;rcases FT.Oc (fH b▸a)with⟨rfl,rfl⟩|⟨l,r,q,h1,h2⟩
 .exact .inl (lD b)
 .refine .inr ⟨l,r,q,fH b▸h1,?_,h2⟩;have:=FT.wJ l r q;rcases h2 with⟨rfl,rfl⟩|⟨rfl,rfl⟩<;>omega
theorem yC.all (h:yC w B j R YS 0 LN LL) {t:FT} {s:Nat} (a:FT.At (aW j) t s):w.ownsRow B 27 1 (LN (t.root s)) (nl YS t).length (((nl YS t).map (jI R)).map (Value.int .u32)):=by
 have b:=kU a;refine h.Uu t s a ?_;rcases FT.Oc (fH b▸a)with⟨rfl,rfl⟩|⟨l,r,q,h1,h2⟩
 .exact .inl (lD b)
 .exact .inr ⟨l,r,q,fH b▸h1,aX _,h2⟩
end
end
end Go.Proofs.YtkjdbndekceffaaGreat
