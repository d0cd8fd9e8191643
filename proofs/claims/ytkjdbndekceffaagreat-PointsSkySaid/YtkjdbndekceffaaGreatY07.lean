/- Made small by a program. -/
import Derived.Test.YtkjdbndekceffaaGreatY05
set_option linter.unusedSimpArgs false
set_option linter.unusedVariables false
set_option maxRecDepth 100000
set_option maxHeartbeats 16000000
namespace Go.Proofs.YtkjdbndekceffaaGreat
open Tryz
section
open Go
namespace FT
theorem At.unique {N:List Nd}:∀{t b:FT} {s c:Nat},At N t s->At N b c->t.root s=b.root c->t=b/\s=c
 |leaf a,b,s,c,h,h',e=>by
  have g:=h.get;rw[e,h'.get]at g;injection g with g;cases b with
  |leaf a'=>
   simp only[top,Nd.mk.injEq]at g;obtain⟨-,-,-,k,-⟩:=g;have d:a'=a:=aa;subst d;unfold root at e;simp only[size]at e;exact⟨rfl,aa⟩
  |node l r=>
   simp only[top,Nd.mk.injEq]at g;omega
 |node l r,b,s,c,h,h',e=>by
  have g:=h.get;rw[e,h'.get]at g;injection g with g;cases b with
  |leaf a'=>
   simp only[top,Nd.mk.injEq]at g;omega
  |node l' f=>
   simp only[top,Nd.mk.injEq]at g;obtain⟨-,i,j,-⟩:=g;have m:=l.size_pos;have n:=l'.size_pos;have o:=r.size_pos;have p:=f.size_pos;obtain⟨rfl,rfl⟩:=At.unique h.left h'.left (by unfold root;omega);obtain⟨rfl,-⟩:=At.unique h.right h'.right (by unfold root;omega);exact⟨rfl,rfl⟩
def subs:FT->Nat->List (FT×Nat)
 |leaf a,s=>[(leaf a,s)]
 |node l r,s=>l.subs s++r.subs (s+l.size)++[(node l r,s)]
theorem fw:∀(t:FT) (s:Nat),(t.subs s).length=t.size
 |leaf a,s=>rfl
 |node l r,s=>by simp only[subs,size,bQ,fw l,fw r,ed,fC]
theorem oV:∀(t:FT) (s i:Nat) (h:i<(t.subs s).length),(t.subs s)[i].1.root (t.subs s)[i].2=s+i
 |leaf a,s,i,h=>by
  have:i=0:=by simpa[subs]using h
  subst this;simp[subs,root,size]
 |node l r,s,i,h=>by
  have h':=h;rw[fw]at h';simp only[subs];by_cases b:i<l.size
  .rw[qK (by rw[bQ,fw,fw];omega),qK (by rw[fw];exact b)];exact oV l s i _
  .by_cases d:i<l.size+r.size
   .rw[qK (by rw[bQ,fw,fw];omega),vX (by rw[fw];omega)];have c:=oV r (s+l.size) (i-(l.subs s).length) (by rw[fw,fw];omega);rw[c,fw];omega
   .simp only[size]at h';rw[vX (by rw[bQ,fw,fw];omega)];simp only[List.getElem_singleton];unfold root;simp only[size];omega
theorem kS {N:List Nd}:∀(t:FT) (s:Nat),At N t s->∀p∈t.subs s,At N p.1 p.2
 |leaf a,s,h,p,hp=>by
  have:p=(leaf a,s):=by simpa[subs]using hp
  subst this;exact h
 |node l r,s,h,p,hp=>by
  simp only[subs,bO,ji]at hp;rcases hp with(hp|hp)|hp
  .exact kS l s h.left p hp
  .exact kS r _ h.right p hp
  .subst hp;exact h
theorem at_mem {t:FT} {b:FT} {a:Nat} (h:At (t.nodes 0) b a):(b,a)∈t.subs 0:=by
 have j:At (t.nodes 0) t 0:=⟨[],[],aA,rfl⟩;have d:=h.lt;rw[iD]at d;have c:b.root a<(t.subs 0).length:=by rw[fw];exact d
 have g:=oV t 0 _ c;have i:=kS t 0 j _ (bG c);have⟨e,f⟩:=At.unique h i (by rw[g];omega);have:(b,a)=(t.subs 0)[b.root a]:=Prod.ext e f;rw[this];exact bG c
theorem Bg:∀(t:FT) (s:Nat),∀p∈t.subs s,p=(t,s)\/∃l r q,(node l r,q)∈t.subs s/\(p=(l,q)\/p=(r,q+l.size))
 |leaf a,s,p,hp=>.inl (by simpa[subs]using hp)
 |node l r,s,p,hp=>by
  simp only[subs,bO,ji]at hp |-;rcases hp with(hp|hp)|hp
  .rcases Bg l s p hp with h|⟨l',d,q,b,c⟩
   .exact .inr ⟨l,r,s,.inr rfl,.inl h⟩
   .exact .inr ⟨l',d,q,.inl (.inl b),c⟩
  .rcases Bg r _ p hp with h|⟨l',d,q,b,c⟩
   .exact .inr ⟨l,r,s,.inr rfl,.inr h⟩
   .exact .inr ⟨l',d,q,.inl (.inr b),c⟩
  .exact .inl hp
def pars:FT->Nat->Nat->List Nat
 |leaf _,_,p=>[p]
 |node l r,s,p=>l.pars s ((node l r).root s)++r.pars (s+l.size) ((node l r).root s)++[p]
theorem iT:∀(t:FT) (s p:Nat),(t.pars s p).length=t.size
 |leaf a,s,p=>rfl
 |node l r,s,p=>by simp only[pars,size,bQ,iT l,iT r,ed,fC]
theorem Dt:∀(t:FT) (s p:Nat),(t.pars s p)[t.root s-s]? =some p
 |leaf a,s,p=>by simp[pars,root,size]
 |node l r,s,p=>by
  have e:(node l r).root s-s=l.size+r.size:=by unfold root;simp only[size];omega
  rw[e];simp only[pars];rw[nz (by rw[bQ,iT,iT];omega),bQ,iT,iT,iM];rfl
theorem sV:∀(t:FT) (s:Nat),∀p∈t.subs s,s<=p.2/\p.2+p.1.size<=s+t.size
 |leaf a,s,p,hp=>by
  have:p=(leaf a,s):=by simpa[subs]using hp
  subst this;exact⟨aB _,aB _⟩
 |node l r,s,p,hp=>by
  simp only[subs,bO,ji]at hp;simp only[size];rcases hp with(hp|hp)|hp
  .have:=sV l s p hp;omega
  .have:=sV r _ p hp;omega
  .subst hp;simp only[size];omega
theorem IY {l r:FT} {s p i:Nat} (h:i<l.size):((node l r).pars s p)[i]? =(l.pars s ((node l r).root s))[i]? :=by
 simp only[pars];rw[dY,lQ (by rw[iT];exact h)]
theorem IZ {l r:FT} {s p i:Nat} (a:l.size<=i) (h:i<l.size+r.size):((node l r).pars s p)[i]? =(r.pars (s+l.size) ((node l r).root s))[i-l.size]? :=by
 simp only[pars];rw[lQ (by rw[bQ,iT,iT];exact h),nz (by rw[iT];exact a),iT]
theorem wI:∀(t:FT) (s p:Nat) (l r:FT) (q:Nat),(node l r,q)∈t.subs s->(t.pars s p)[l.root q-s]? =some ((node l r).root q)/\(t.pars s p)[r.root (q+l.size)-s]? =some ((node l r).root q)
 |leaf a,s,p,l,r,q,h=>by simp[subs]at h
 |node b e,s,p,l,r,q,h=>by
  simp only[subs,bO,ji]at h;have pl:=l.size_pos;have k:=r.size_pos;have j:=b.size_pos;have m:=e.size_pos;have g:l.root q=q+l.size-1:=rfl;have i:r.root (q+l.size)=q+l.size+r.size-1:=rfl;rcases h with(h|h)|h
  .obtain⟨c,d⟩:=wI b s ((node b e).root s) l r q h;have f:=sV b s _ h;simp only[size]at f;rw[IY aa,IY aa];exact⟨c,d⟩
  .obtain⟨c,d⟩:=wI e _ ((node b e).root s) l r q h;have f:=sV e _ _ h;simp only[size]at f;rw[IZ aa aa,IZ aa aa];rw[show l.root q-s-b.size=l.root q-(s+b.size) by omega,show r.root (q+l.size)-s-b.size=r.root (q+l.size)-(s+b.size) by omega];exact⟨c,d⟩
  .simp only[uX,node.injEq]at h;obtain⟨⟨rfl,rfl⟩,rfl⟩:=h;have c:=Dt l q ((node l r).root q);have d:=Dt r (q+l.size) ((node l r).root q);rw[IY aa,IZ aa aa];rw[show r.root (q+l.size)-q-l.size=r.root (q+l.size)-(q+l.size) by omega];exact⟨c,d⟩
theorem I1 {t l r l' d:FT} {q c:Nat} (h:At (t.nodes 0) (node l r) q) (h':At (t.nodes 0) (node l' d) c)
  (e:l.root q=l'.root c\/l.root q=d.root (c+l'.size)\/r.root (q+l.size)=l'.root c\/r.root (q+l.size)=d.root (c+l'.size)):(node l r).root q=(node l' d).root c:=by
 have⟨a,b⟩:=wI t 0 0 l r q (at_mem h);have⟨f,g⟩:=wI t 0 0 l' d c (at_mem h');rcases e with e|e|e|e
 .rw[e,f]at a;injection a with a;exact a.symm
 .rw[e,g]at a;injection a with a;exact a.symm
 .rw[e,f]at b;injection b with b;exact b.symm
 .rw[e,g]at b;injection b with b;exact b.symm
theorem wJ (l r:FT) (q:Nat):l.root q<r.root (q+l.size)/\r.root (q+l.size)<(node l r).root q:=by
 have:=l.size_pos;have:=r.size_pos;unfold root;simp only[size];omega
theorem zf {t l r:FT} {q:Nat} (h:At (t.nodes 0) (node l r) q):l.root q≠t.root 0/\r.root (q+l.size)≠t.root 0:=by
 have a:=sV t 0 _ (at_mem h);simp only[size]at a;have:=r.size_pos;unfold root;omega
theorem N9 {t b:FT} {a:Nat} (h:At (t.nodes 0) b a):(b=t/\a=0)\/∃l r q,At (t.nodes 0) (node l r) q/\((b=l/\a=q)\/(b=r/\a=q+l.size)):=by
 have c:At (t.nodes 0) t 0:=⟨[],[],aA,rfl⟩;rcases Bg t 0 _ (at_mem h)with h1|⟨l,r,q,h1,h2⟩
 .simp only[uX]at h1;exact .inl h1
 .refine .inr ⟨l,r,q,kS t 0 c _ h1,?_⟩;simpa only[uX]using h2
theorem qx:∀(t:FT) (s:Nat),t.wf->∀p∈t.subs s,p.1.wf
 |leaf a,s,h,p,hp=>by
  have:p=(leaf a,s):=by simpa[subs]using hp
  subst this;exact h
 |node l r,s,h,p,hp=>by
  simp only[subs,bO,ji]at hp;rcases hp with(hp|hp)|hp
  .exact qx l s h.1 p hp
  .exact qx r _ h.2.1 p hp
  .subst hp;exact h
theorem zO:∀(t:FT) (s:Nat),t.wf->∀p∈t.subs s,p.1.hi<=t.hi
 |leaf a,s,h,p,hp=>by
  have:p=(leaf a,s):=by simpa[subs]using hp
  subst this;exact aB _
 |node l r,s,h,p,hp=>by
  simp only[subs,bO,ji]at hp;have b:=eY r h.2.1;have c:=h.2.2;show _<=r.hi;rcases hp with(hp|hp)|hp
  .have:=zO l s h.1 p hp;omega
  .exact zO r _ h.2.1 p hp
  .subst hp;exact aB _
end FT
def dW (YS:List Nat) (x:Nat):List Nat:=YS.filter fun i=>decide (i≠x)
theorem erase_filter {L:List Nat} (c:L.Nodup) {i x:Nat} (hi:i<L.length) (b:L[i]=x):L.eraseIdx i=L.filter fun k=>decide (k≠x):=by
 induction L generalizing i with
 |nil=>simp at hi
 |cons a L ih=>
  rw[mH]at c;cases i with
  |zero=>
   simp only[nA]at b;subst b;rw[List.eraseIdx_cons_zero,zW aA];symm;refine mF.2 fun k e=>?_;simp only[bN];rintro rfl;exact c.1 e
  |succ i=>
   simp only[uE]at b;have d:i<L.length:=aP hi;rw[List.eraseIdx_cons_succ,Ig,ih c.2 d b];simp only[bN];rintro rfl;exact c.1 (b▸bG d)
theorem Km (YS:List Nat) (x:Nat) (t:FT):nl (dW YS x) t=(nl YS t).filter fun k=>decide (k≠x):=by
 unfold nl dW;rw[rA,rA];refine oG fun k _=>?_;rw[Bool.and_comm]
theorem wK {YS:List Nat} {x:Nat} {t:FT} (h:¬(t.lo<=x/\x<t.hi)):nl (dW YS x) t=nl YS t:=by
 rw[Km];refine mF.2 fun k a=>?_;have:=(bD.1 a).2;simp only[bN]at this |-;rintro rfl;exact h this
theorem LK {YS:List Nat} (a:YS.Nodup) {x i:Nat} {t:FT} (hi:i<(nl YS t).length) (b:(nl YS t)[i]=x):nl (dW YS x) t=(nl YS t).eraseIdx i:=by
 rw[Km];exact(erase_filter (L:=nl YS t) (show(nl YS t).Nodup from lS _ a) hi b).symm
section
variable {m:Nat} {L:List Nat} {i x:Nat}
theorem sW (hi:i<L.length):((lf m L).eraseIdx (i+1)).length=L.length:=by
 rw[zY,rW,aO aa];omega
theorem wL (hi:i<L.length):(lf m (L.eraseIdx i)).length=L.length:=by
 rw[rW,zY,aO hi];omega
theorem CG {j:Nat} (a:j<=i):(L.eraseIdx i).take j=L.take j:=by
 by_cases h:i<L.length
 .rw[xy,DY (by rw[eX];omega),AB,Nat.min_eq_left a]
 .rw[List.eraseIdx_of_length_le aa]
theorem Ur (hi:i<L.length) {j:Nat} (a:j<=i) (b:j<((lf m L).eraseIdx (i+1)).length) (c:j<(lf m (L.eraseIdx i)).length):((lf m L).eraseIdx (i+1))[j]=(lf m (L.eraseIdx i))[j]:=by
 rw[List.getElem_eraseIdx,dif_pos aa,qd,qd,CG a]
theorem Us (hi:i<L.length) (e:L[i]=x) {j:Nat} (k:i<j) (f:j<((lf m L).eraseIdx (i+1)).length) (g:j<(lf m (L.eraseIdx i)).length):((lf m L).eraseIdx (i+1))[j]-(if x<m then 1 else 0)=(lf m (L.eraseIdx i))[j]:=by
 have a:(L.take (j+1)).countP (fun i=>decide (i<m))=((L.eraseIdx i).take j).countP (fun i=>decide (i<m))+(if x<m then 1 else 0):=by
  have b:(L.eraseIdx i).take j=(L.take (j+1)).eraseIdx i:=by
   rw[xy,xy,List.take_append,AB,eX,AB,List.drop_take];rw[show min j i=i by omega,show min i (j+1)=i by omega,show j-min i L.length=j+1-(i+1) by omega]
  rw[b,xy,List.countP_append];have l:i<(L.take (j+1)).length:=by rw[eX];omega
  have c:L.take (j+1)=(L.take (j+1)).take i++x::(L.take (j+1)).drop (i+1):=by
   have d:(L.take (j+1))[i]=x:=by rw[xM];exact e
   rw[<-d,List.getElem_cons_drop,jB]
  conv=>lhs;rw[c]
  rw[List.countP_append,uR];by_cases h:x<m<;>simp[h]<;>omega
 rw[List.getElem_eraseIdx,dif_neg aa,qd,qd,a];split<;>simp
theorem Qx (hi:i<L.length) (a:L[i]=x) (b:i+1<(lf m L).length) (c:i<(lf m L).length):(lf m L)[i+1]-(lf m L)[i]=if x<m then 1 else 0:=by
 rw[qd,qd,ig hi,List.countP_append,a];by_cases h:x<m<;>simp[h]<;>omega
def zy (m:Nat) (L:List Nat) (i j:Nat):List Int:=(lf m (L.eraseIdx i)).take j++((lf m L).eraseIdx (i+1)).drop j
theorem LM (hi:i<L.length):zy m L i (i+1)=(lf m L).eraseIdx (i+1):=by
 have b:=sW (m:=m) hi;have c:=wL (m:=m) hi;unfold zy;have e:(lf m (L.eraseIdx i)).take (i+1)=((lf m L).eraseIdx (i+1)).take (i+1):=by
  refine rF (by simp[b,c]) fun j a d=>?_;rw[xM,xM];rw[eX]at a;exact(Ur hi aa _ _).symm
 rw[e,jB]
theorem Oa (hi:i<L.length):zy m L i L.length=lf m (L.eraseIdx i):=by
 have a:=sW (m:=m) hi;have b:=wL (m:=m) hi;unfold zy;rw[jJ aa,ow aa,iL]
theorem qy (hi:i<L.length) {j:Nat} (c:j<=L.length):(zy m L i j).length=L.length:=by
 have a:=sW (m:=m) hi;have b:=wL (m:=m) hi;unfold zy;rw[bQ,eX,mJ];omega
theorem Kn (hi:i<L.length) {j:Nat} (a:j<L.length):(zy m L i j)[j]'(by rw[qy hi aa];exact a)=((lf m L).eraseIdx (i+1))[j]'(by rw[sW hi];exact a):=by
 have b:=wL (m:=m) hi;simp only[zy];rw[vX (by rw[eX];omega),List.getElem_drop];congr 1;rw[eX];omega
theorem Ob (hi:i<L.length) (c:L[i]=x) {j:Nat} (b:i<j) (a:j<L.length):(zy m L i j).set j ((zy m L i j)[j]'(by rw[qy hi aa];exact a)-(if x<m then 1 else 0))=zy m L i (j+1):=by
 have d:=sW (m:=m) hi;have e:=wL (m:=m) hi;rw[Kn hi a,Us hi c b aa aa];unfold zy;rw[ui _ _ (by rw[eX];omega),eX,show j-min j (lf m (L.eraseIdx i)).length=0 by omega];rw[ig aa,dY];congr 1;rw[mE aa];rfl
end
namespace FT
theorem sj:∀(t:FT) (s:Nat),t.wf->∀p∈t.subs s,t.lo<=p.1.lo/\p.1.hi<=t.hi
 |leaf a,s,h,p,hp=>by
  have:p=(leaf a,s):=by simpa[subs]using hp
  subst this;exact⟨aB _,aB _⟩
 |node l r,s,h,p,hp=>by
  simp only[subs,bO,ji]at hp;have b:=eY r h.2.1;have d:=eY l h.1;have c:=h.2.2;show l.lo<=_/\_<=r.hi;rcases hp with(hp|hp)|hp
  .have:=sj l s h.1 p hp;omega
  .have:=sj r _ h.2.1 p hp;omega
  .subst hp;exact⟨aB _,aB _⟩
theorem wM:∀(t:FT) (s x:Nat),t.wf->∀p∈t.subs s,p.1.lo<=x->x<p.1.hi->p.1.root p.2∈t.path s x
 |leaf a,s,x,h,p,hp,b,c=>by
  have:p=(leaf a,s):=by simpa[subs]using hp
  subst this;simp[path,root,size]
 |node l r,s,x,h,p,hp,b,c=>by
  simp only[subs,bO,ji]at hp;rw[path];rcases hp with(hp|hp)|hp
  .have:=sj l s h.1 p hp;rw[aO aa];exact kX _ (wM l s x h.1 p hp b c)
  .have:=sj r _ h.2.1 p hp;have:=h.2.2;rw[aM aa];exact kX _ (wM r _ x h.2.1 p hp b c)
  .subst hp;exact nQ
theorem mW:∀(t:FT) (s x:Nat),t.wf->t.lo<=x->x<t.hi->∀k∈t.path s x,∃p∈t.subs s,p.1.root p.2=k/\p.1.lo<=x/\x<p.1.hi
 |leaf a,s,x,h,b,c,k,hk=>by
  have:k=s:=by simpa[path]using hk
  subst this;exact⟨(leaf a,k),by simp[subs],by simp[root,size],b,c⟩
 |node l r,s,x,h,b,c,k,hk=>by
  rw[path,ic]at hk;have f:=h.2.2;rcases hk with rfl|hk
  .exact⟨(node l r,s),by simp[subs],rfl,b,c⟩
  .split at hk
   .rename_i d;have⟨p,hp,e⟩:=mW l s x h.1 b d k hk;exact⟨p,by simp[subs,hp],e⟩
   .rename_i d;have⟨p,hp,e⟩:=mW r _ x h.2.1 aa c k hk;exact⟨p,by simp[subs,hp],e⟩
theorem sZ:∀(t:FT) (s x:Nat),t.wf->t.lo<=x->x<t.hi->(t.path s x).Pairwise (·>·)
 |leaf a,s,x,h,c,d=>by simp[path]
 |node l r,s,x,h,c,d=>by
  have j:=h.2.2;have g:∀(t:FT) (s:Nat),∀p∈t.subs s,p.1.root p.2<=t.root s:=fun t s p hp=>by
   have:=sV t s p hp;have:=p.1.size_pos;have:=t.size_pos;unfold root;omega
  have m:=wJ l r s;by_cases b:x<l.hi
  .rw[path,aO b,lT];refine⟨fun k f=>?_,sZ l s x h.1 c b⟩;obtain⟨p,hp,e,-⟩:=mW l s x h.1 c b k f;have:=g l s p hp;omega
  .have i:r.lo<=x:=aa;rw[path,aM b,lT];refine⟨fun k f=>?_,sZ r _ x h.2.1 i d⟩;obtain⟨p,hp,e,-⟩:=mW r _ x h.2.1 i d k f;have:=g r _ p hp;omega
end FT
theorem cz.drop {R:List Pt} {gone:List Bool} {YS:List Nat} (h:cz R gone YS) {x:Nat} (c:gone[x]? =some false):cz R (gone.set x true) (dW YS x):=by
 have b:=(fo.1 c).1;refine⟨h.AU,h.ids,by rw[kK];exact h.Uh,lS _ h.nodup,fun i=>?_,lS _ h.TY⟩;unfold dW;rw[bD,h.live,bN,List.getElem?_set];by_cases e:x=i
 .subst e;simp[b]
 .rw[aM e];exact⟨fun h=>h.1,fun h=>⟨h,fun a=>e a.symm⟩⟩
end
section
open Go Go.RowKit
def CK (x1 x2 y1 y2:Int) (p:Pt):Bool:=decide (x1<=p.1/\p.1<=x2/\y1<=p.2.1/\p.2.1<=y2)
def hasB (l:List Pt) (x1 x2 y1 y2:Int):List Int:=dR (ids (l.filter (CK x1 x2 y1 y2)))
structure su (R:List Pt) (YS:List Nat) (l:List Pt):Prop where
 jd:(ids l).Nodup
 mem:∀p,p∈l↔∃i∈YS,bU R i=p
theorem sw {l:List Int} (f:l.Pairwise (·<=·)) (x:Int) {i:Nat} (hi:i<l.length):(aV l x).1<=i↔x<=l[i]:=by
 have⟨g,c,d⟩:=l8 (fun i=>decide (x<=l.getD i 0)) l.length (fun i j k b hi=>by
  by_cases e:i=j
  .exact e▸hi
  .have:=fZ.1 f i j aa b aa;simp[b,show i<l.length by omega]at hi |-;omega) l.length 0 l.length 0 aa aa (aB _) aa aa
 constructor
 .intro h;have:=d i h hi;simpa[hi]using this
 .intro h;by_cases a:(aV l x).1<=i
  .exact a
  .have:=c i (by unfold aV at a;omega);simp[hi]at this;omega
theorem sD {l:List Int} (f:l.Pairwise (·<=·)) (x:Int) {i:Nat} (hi:i<l.length):i<(aS l x).1↔l[i]<=x:=by
 have⟨g,c,d⟩:=l8 (fun i=>decide (x<l.getD i 0)) l.length (fun i j k b hi=>by
  by_cases e:i=j
  .exact e▸hi
  .have:=fZ.1 f i j aa b aa;simp[b,show i<l.length by omega]at hi |-;omega) l.length 0 l.length 0 aa aa (aB _) aa aa
 constructor
 .intro h;have:=c i h;simpa[hi]using this
 .intro h;by_cases a:i<(aS l x).1
  .exact a
  .have:=d i (by unfold aS at a;omega) hi;simp[hi]at this;omega
theorem cz.SL {R:List Pt} {gone:List Bool} {YS:List Nat} (h:cz R gone YS):(bS R).Pairwise (·<=·):=dm.2 (h.AU.imp fun h=>by unfold kH at h;omega)
section
variable {R:List Pt} {gone:List Bool} {YS:List Nat} {l:List Pt}
theorem dE {i:Nat} (hi:i<R.length):bU R i=R[i]:=by simp[bU,hi]
theorem wN (c:cz R gone YS) (x1 x2 y1 y2:Int) (i:Nat):i∈(lM R YS x1 x2 y1 y2).1↔i∈YS/\CK x1 x2 y1 y2 (bU R i)=true:=by
 unfold lM;split
 .rename_i h;refine⟨fun k=>absurd k iA,fun⟨j,d⟩=>?_⟩;have hi:=c.lt j;rcases h with h|h|h
  .subst h;simp at hi
  .unfold CK at d;simp at d;omega
  .unfold CK at d;simp at d;omega
 .rename_i h;have e:0<R.length:=by
   cases R with
   |nil=>simp at h
   |cons a b=>simp
  have m:y1<=y2:=aa;have⟨w1,w2,w3⟩:=bK 0 R.length e;show i∈(down _ _ _ _ _ _ _).1↔_;rw[wo _ w1 c.le m i,c.top e];refine and_congr_right fun hi=>?_;have f:=c.lt hi;have g:i<(bS R).length:=by unfold bS;simpa using f
  have l:(bS R)[i]=(bU R i).1:=by rw[dE f];simp[bS]
  rw[sw c.SL x1 g,sD c.SL x2 g,l];unfold CK lG;simp only[bN]
theorem I4 (c:cz R gone YS) (x1 x2 y1 y2:Int):(lM R YS x1 x2 y1 y2).1.Nodup:=by
 unfold lM;split
 .exact pR
 .rename_i h;have d:0<R.length:=by
   cases R with
   |nil=>simp at h
   |cons a b=>simp
  have e:y1<=y2:=aa;have⟨w1,w2,w3⟩:=bK 0 R.length d;exact AR _ w1 c.nodup c.le e
theorem EN (b:cz R gone YS) {i k:Nat} (hi:i<R.length) (a:k<R.length) (e:jI R i=jI R k):i=k:=by
 unfold jI at e;rw[dE hi,dE a]at e;have hid:=dm.1 b.ids;rcases Nat.lt_trichotomy i k with h|h|h
 .exact absurd e (fZ.1 hid i k hi a h)
 .exact h
 .exact absurd e.symm (fZ.1 hid k i a hi h)
theorem Oc {a b:List Int} (f:a.Nodup) (g:b.Nodup) (h:∀x,x∈a↔x∈b):dR a=dR b:=by
 have hp:a.Perm b:=(y5 f g).2 h;have i:(dR a).Pairwise (·<=·):=(rq (le:=fun x y:Int=>decide (x<=y)) (fun a b c d e=>by simp at*;omega) (fun a b=>aF) a).imp (fun h=>aP h);have j:(dR b).Pairwise (·<=·):=(rq (le:=fun x y:Int=>decide (x<=y)) (fun a b c d e=>by simp at*;omega) (fun a b=>aF) b).imp (fun h=>aP h);exact Ib (fun x y _ _ d e=>aa) i j (((oC a _).trans hp).trans (oC b _).symm)
theorem I5 (a:cz R gone YS) (d:su R YS l) (x1 x2 y1 y2:Int):dR ((lM R YS x1 x2 y1 y2).1.map (jI R))=hasB l x1 x2 y1 y2/\(lM R YS x1 x2 y1 y2).1.length=(l.filter (CK x1 x2 y1 y2)).length:=by
 have g:((lM R YS x1 x2 y1 y2).1.map (jI R)).Nodup:=by
  refine dm.2 (zV (fun{i k} hi m h e=>h ?_) (I4 a x1 x2 y1 y2));exact EN a (a.lt ((wN a x1 x2 y1 y2 i).1 hi).1) (a.lt ((wN a x1 x2 y1 y2 k).1 m).1) e
 have j:(ids (l.filter (CK x1 x2 y1 y2))).Nodup:=by
  have h:=dm.1 d.jd;exact dm.2 (lS _ h)
 have f:∀x,x∈(lM R YS x1 x2 y1 y2).1.map (jI R)↔x∈ids (l.filter (CK x1 x2 y1 y2)):=fun x=>by
  unfold ids;rw[cu,cu];constructor
  .rintro⟨i,hi,rfl⟩;have⟨b,c⟩:=(wN a x1 x2 y1 y2 i).1 hi;exact⟨bU R i,bD.2 ⟨(d.mem _).2 ⟨i,b,rfl⟩,c⟩,rfl⟩
  .rintro⟨p,hp,rfl⟩;have⟨b,c⟩:=bD.1 hp;obtain⟨i,hi,rfl⟩:=(d.mem p).1 b;exact⟨i,(wN a x1 x2 y1 y2 i).2 ⟨hi,c⟩,rfl⟩
 refine⟨Oc g j f,?_⟩;have:=((y5 g j).2 f).length_eq;unfold ids at this;simpa using this
theorem su.len (a:cz R gone YS) (b:su R YS l):YS.length=l.length:=by
 have f:(YS.map (jI R)).Nodup:=dm.2 (zV (fun{i k} hi c h e=>h (EN a (a.lt hi) (a.lt c) e)) a.nodup);have d:∀x,x∈YS.map (jI R)↔x∈ids l:=fun x=>by
  unfold ids;rw[cu,cu];constructor
  .rintro⟨i,hi,rfl⟩;exact⟨_,(b.mem _).2 ⟨i,hi,rfl⟩,rfl⟩
  .rintro⟨p,hp,rfl⟩;obtain⟨i,hi,rfl⟩:=(b.mem p).1 hp;exact⟨i,hi,rfl⟩
 have:=((y5 f b.jd).2 d).length_eq;unfold ids at this;simpa using this
theorem su.drop (d:cz R gone YS) (f:su R YS l) {x:Nat} (b:x<R.length) (h:x∈YS):su R (dW YS x) (l.filter fun p=>decide (p≠R[x])):=by
 refine⟨dm.2 (lS _ (dm.1 f.jd)),fun p=>?_⟩;rw[bD,bN,f.mem];unfold dW;constructor
 .rintro⟨⟨i,hi,rfl⟩,a⟩;refine⟨i,bD.2 ⟨hi,?_⟩,rfl⟩;rw[bN];rintro rfl;exact a (dE b)
 .rintro⟨i,hi,rfl⟩;have⟨c,a⟩:=bD.1 hi;refine⟨⟨i,c,rfl⟩,fun e=>?_⟩;rw[bN]at a;apply a;have g:=d.lt c;refine EN d g b ?_;unfold jI;rw[e,dE b]
end
theorem zg {l:List Pt} (hu:(ids l).Nodup) (YS:List Nat) (h:∀i,i∈YS↔i<(eQ l).length):su (eQ l) YS l:=by
 refine⟨hu,fun p=>?_⟩;rw[<-wC];constructor
 .intro hp;have⟨i,hi,e⟩:=jb hp;exact⟨i,(h i).2 hi,by rw[dE hi];exact e⟩
 .rintro⟨i,hi,rfl⟩;have:=(h i).1 hi;rw[dE this];exact bG this
end
section
open Go.RowKit
attribute [local irreducible] wpQuiet
theorem nK (l:List Int):(dR l).Pairwise (·<=·):=
 (rq (le:=fun x y:Int=>decide (x<=y)) (fun a b c d e=>by simp at*;omega) (fun a b=>aF) l).imp (fun h=>aP h)
theorem EO {l S:List Int} (a:S.Pairwise (·<=·)) (hp:S.Perm l):dR l=S:=
 Ib (fun x y _ _ b c=>aa) (nK l) a ((oC l _).trans hp.symm)
end
section
open Go.RowKit
theorem bB (x:Nat) (h:x<2^64) (a:x≠0):1<=Lib.bitLen x/\2^(Lib.bitLen x-1)<=x/\x<2^Lib.bitLen x:=Lib.bitLenAux_bounds 64 x h a
theorem zh:Lib.bitLen 0=0:=rfl
theorem fA {a b:Nat} (e:a<=b) (h:b<2^64):Lib.bitLen a<=Lib.bitLen b:=by
 by_cases c:a=0
 .subst c;rw[zh];exact bH _
 .have d:=bB a aa c;have f:=bB b h aa;have:=(Ic (by decide:1<2)).1 (rz d.2.1 (rz e f.2.2));omega
theorem zi {d e:Nat} (hd:0<d) (h:d<2^62) (a:e<=d/2):Lib.bitLen e+1<=Lib.bitLen d:=by
 have b:Lib.bitLen d=1+Lib.bitLen (d/2):=Lib.bitLen_half _ aa aa;have c:=fA a aa;omega
end
section
open Go Go.RowKit
theorem Bh (p:Nat->Bool):∀(f lo hi k:Nat),hi-lo<=f->hi-lo<1000000->(bsrch p f lo hi k).2<=k+Lib.bitLen (hi-lo):=by
 intro f
 induction f with
 |zero=>
  intro lo hi k a _;simp only[bsrch];omega
 |succ f ih=>
  intro lo hi k a d;simp only[bsrch];by_cases h:lo<hi
  .rw[aO h];have b:Lib.bitLen (hi-lo)=1+Lib.bitLen ((hi-lo)/2):=Lib.bitLen_half _ aa aa;split
   .have:=ih lo (lo+(hi-lo)/2) (k+1) aa aa;rw[show lo+(hi-lo)/2-lo=(hi-lo)/2 by omega]at this;omega
   .have:=ih (lo+(hi-lo)/2+1) hi (k+1) aa aa;have c:Lib.bitLen (hi-(lo+(hi-lo)/2+1))<=Lib.bitLen ((hi-lo)/2):=fA aa aa;omega
  .rw[aM h];simp
theorem kT (l:List Int) (x:Int) (h:l.length<1000000):(aV l x).2<=Lib.bitLen l.length:=by
 have:=Bh (fun i=>decide (x<=l.getD i 0)) l.length 0 l.length 0 aa aa;simpa[aV]using this
theorem kU (l:List Int) (x:Int) (h:l.length<1000000):(aS l x).2<=Lib.bitLen l.length:=by
 have:=Bh (fun i=>decide (x<l.getD i 0)) l.length 0 l.length 0 aa aa;simpa[aS]using this
section
variable {R:List Pt} {gone:List Bool} {YS:List Nat}
theorem cz.Qy (h:cz R gone YS):YS.length<=R.length:=by
 have hp:YS.Perm ((List.range R.length).filter fun i=>decide (i∈YS)):=(y5 h.nodup (List.nodup_range.filter _)).2 fun i=>by
  rw[bD,uV,bN];exact⟨fun hi=>⟨h.lt hi,hi⟩,fun hi=>hi.2⟩
 rw[hp.length_eq];exact bA (gV _ _) aA
theorem LP (i:cz R gone YS) (o:R.length<=100000) (x1 x2 y1 y2:Int):(lM R YS x1 x2 y1 y2).2<=8*Lib.bitLen R.length+1:=by
 unfold lM;split
 .exact bH _
 .rename_i h;have g:0<R.length:=by
   cases R with
   |nil=>simp at h
   |cons a b=>simp
  have⟨w1,w2,w3⟩:=bK 0 R.length g;have j:=i.Qy;have c:=kT (bS R) x1 (by simp[bS];omega);have d:=kU (bS R) x2 (by simp[bS];omega);have e:=kT (jl R YS) y1 (by simp[jl];omega);have f:=kU (jl R YS) y2 (by simp[jl];omega);rw[show(bS R).length=R.length by simp[bS]]at c d;rw[show(jl R YS).length=YS.length by simp[jl]]at e f;have k:=fA j aa;have p:=(bB R.length aa aa).2.2;have l:=vC 0 R.length (Lib.bitLen R.length) aa;have m:=@Lj YS (lG R) y1 y2 (aV (bS R) x1).1 (aS (bS R) x2).1 (dN 0 R.length) w1 0;have n:=FT.AQ (dN 0 R.length) w1 0 (aV (bS R) x1).1 (aS (bS R) x2).1;show _+_+_+_+_<=_;omega
end
end
section
open Go.RowKit Go.Maps
theorem wO:∀(a b:List Int),a.Nodup->(∀x∈a,x∈b)->a.length<=b.length
 |[],b,_,_=>bH _
 |x::a,b,h,c=>by
  rw[mH]at h;have d:=c x aA;have g:∀y∈a,y∈b.erase x:=by
   intro y f;have i:y≠x:=fun e=>h.1 (e▸f);exact(List.mem_erase_of_ne i).2 (c y (by simp[f]))
  have:=wO a (b.erase x) h.2 g;rw[List.length_erase_of_mem d]at this;have:0<b.length:=List.length_pos_of_mem d;simp only[ed];omega
def IsM {H:Type} (kk vk:IntKind) (D:DataW H) (f:Int->Option Int) (s:List Int):Prop:=
 Tidy D/\Maps.size D=s.length/\s.Nodup/\(∀x,x∈s↔(f x).isSome=true)/\
  ∀x,has D (.int kk x)=(f x).isSome/\∀z,D.atKey (.int kk x) z=(match f x with|none=>z|some v=>.lit (.int vk v))
def Gg (f:Int->Option Int) (x v:Int):Int->Option Int:=fun y=>if y=x then some v else f y
theorem IsM.empty {H:Type} (a b:IntKind):IsM (H:=H) a b (.map []) (fun _=>none) []:=
 ⟨tidy_empty,rfl,pR,aA,fun x=>⟨rfl,fun z=>rfl⟩⟩
theorem IsM.put {H:Type} {g m:IntKind} {D:DataW H} {f:Int->Option Int} {s:List Int} (h:IsM g m D f s) (x v:Int):
  IsM g m (D.put (.int g x) (.lit (.int m v))) (Gg f x v) (if x∈s then s else s++[x]):=by
 have⟨i,n,o,j,k⟩:=h;have l:WideAt.IsKeyLit (Lit.int g x):=trivial;refine⟨i.put l _,?_,?_,?_,?_⟩
 .rw[size_put i,(k x).1];by_cases c:x∈s
  .rw[aO c,aO ((j x).1 c),n]
  .rw[aM c,aM (fun h=>c ((j x).2 h)),n,bQ];rfl
 .by_cases c:x∈s
  .rw[aO c];exact o
  .rw[aM c,pJ];exact⟨o,aA,fun a r b p=>by simp at p;subst p;exact fun e=>c (e▸r)⟩
 .intro y;unfold Gg;by_cases d:y=x
  .subst d;by_cases c:y∈s<;>simp[c]
  .by_cases c:x∈s<;>simp[c,d,j]
 .intro y;unfold Gg;by_cases d:y=x
  .subst d;exact⟨by simpa using has_put_same i.isMap l _,fun z=>by simpa using atKey_put_same i.isMap l _ z⟩
  .have q:(Lit.int g y)≠(.int g x):=fun e=>d (by injection e);exact⟨by rw[has_put_other q];simpa[d]using(k y).1,fun z=>by rw[atKey_put_other q];simpa[d]using(k y).2 z⟩
theorem Bi {a b:List Int} (d:a.Nodup) (e:b.Nodup) (h:∀x,x∈a↔x∈b):a.length=b.length:=
 Nat.le_antisymm (wO _ _ d fun x c=>(h x).1 c) (wO _ _ e fun x c=>(h x).2 c)
theorem wP:∀(L s:List Int),s.Nodup->(∀x,x∈s↔x∈L)->s.length=L.length->L.Nodup
 |[],_,_,_,_=>pR
 |x::L,s,c,b,d=>by
  have g:x∈s:=(b x).2 aA;have a:x∉L:=fun a=>by
   have:=wO s L c (fun y i=>by rcases ic.1 ((b y).1 i)with rfl|h;exact a;exact h);simp at d;omega
  refine mH.2 ⟨a,wP L (s.erase x) (c.erase x) (fun y=>?_) ?_⟩
  .rw[c.mem_erase_iff,b y,ic];constructor
   .rintro⟨f,rfl|h⟩
    .exact absurd rfl f
    .exact h
   .exact fun h=>⟨fun e=>a (e▸h),.inr h⟩
  .rw[List.length_erase_of_mem g];simp at d;omega
theorem wQ (L s:List Int) (b:s.Nodup) (a:∀x,x∈s↔x∈L):decide (s.length=L.length)=decide L.Nodup:=by
 rw[uQ];exact⟨wP L s b a,fun h=>Bi b h a⟩
def HZ (l:List Pt):Prop:=∀p∈l,(Lit.int .u32 p.2.2).wf=true
def placeF:List Pt->Nat->(Int->Option Int)
 |_,0=>fun _=>none
 |l,i+1=>Gg (placeF l i) (l.getD i (0,0,0)).2.2 i
theorem zk (l:List Pt):∀(i:Nat),i<=l.length->∀x,(placeF l i x).isSome=true↔x∈ids (l.take i)
 |0,_,x=>by simp[placeF,ids]
 |i+1,h,x=>by
  have ih:=zk l i aa x;have c:l.take (i+1)=l.take i++[l[i]]:=ig aa;have b:l.getD i (0,0,0)=l[i]:=by simp[show i<l.length by omega]
  unfold placeF Gg;rw[c,ids,bP,bO,b];by_cases a:x=l[i].2.2
  .simp[a]
  .rw[aM a,ih];simp[ids,a]
theorem Bj {l:List Pt} (hu:(ids l).Nodup):∀(i:Nat),i<=l.length->∀k,k<i->placeF l i (l.getD k (0,0,0)).2.2=some (k:Int)
 |0,_,k,d=>aa
 |i+1,h,k,d=>by
  have g:∀j,j<l.length->l.getD j (0,0,0)=l[j]! :=fun j c=>by simp[c]
  unfold placeF Gg;by_cases e:k=i
  .subst e;rw[aO rfl]
  .have f:(l.getD k (0,0,0)).2.2≠(l.getD i (0,0,0)).2.2:=by
    intro b;have a:=fZ.1 hu k i (by simp[ids];omega) (by simp[ids];omega) aa;simp[ids]at a;simp[show k<l.length by omega,show i<l.length by omega]at b;exact a b
   rw[aM f];exact Bj hu i aa k aa
def nL (D:DataW Unit) (l:List Pt) (i:Nat):Prop:=∃s,IsM .u32 .i64 D (placeF l i) s
theorem nL.put {D:DataW Unit} {l:List Pt} {i:Nat} (h:nL D l i) (hi:i<l.length):nL (D.put (.int .u32 l[i].2.2) (.lit (.int .i64 (i:Nat)))) l (i+1):=by
 have⟨s,h⟩:=h;have a:=h.put l[i].2.2 i;have b:l.getD i (0,0,0)=l[i]:=by simp[hi]
 have e:placeF l (i+1)=Gg (placeF l i) l[i].2.2 i:=by rw[placeF,b]
 rw[<-e]at a;exact⟨_,a⟩
theorem nL.size {D:DataW Unit} {l:List Pt} (h:nL D l l.length):(((Maps.size D:Nat):Int)==((l.length:Nat):Int))=lF l:=by
 have⟨s,a⟩:=h;have c:(ids l).length=l.length:=by simp[ids]
 have b:=wQ (ids l) s a.2.2.1 (fun x=>(a.2.2.2.1 x).trans (by have:=zk l l.length (aB _) x;rwa [jK]at this));rw[a.2.1,<-c];unfold lF;rw[<-b,lI];simp only[beq_iff_eq,bN];omega
theorem Gh (a:Option Addr) (c:Nat) (l:List Pt) (w:World) (s:bV dw 3 w a l) (O:l.length<=1000000) (x:HZ l):
  aK 89 #[.slice a l.length c] w (fV w (.bool (lF l))):=by
 have B:=ag s;have E:=ag x;clear s x;have N:=@run_makeMap prog;go_enter func89,ntmps89;go_wp2
 go_loopw [9] (fun k wr=>∃i:Nat,k=.int .i64 i/\i<=l.length/\Below w.heap.size w wr/\Hid (∃(D:DataW Unit),wr.ownsMap prog 27 (plainElem prog 3) w.heap.size i D/\nL D l i)) (fun k _=>l.length-(intOf k).toNat)
 case atStart=>exact⟨0,rfl,bH _,(aJ _ _).alloc (aB _) _,⟨.map [],xK _ _ _ _,[],IsM.empty _ _⟩⟩
 case round=>
  obtain⟨i,rfl,hi,e,HO⟩:=hrel;by_cases g:i<l.length
  .obtain⟨b,off,q,M,f⟩:=(B.o.below e).get aa;have K:=f i g 0 aa;have x1:=f i g 1 aa;have x2:=f i g 2 aa;simp only[dw,fG,dx,dH]at K x1 x2;have G:Hid (keyOf prog 27 (.int .u32 l[i].2.2)=some (.int .u32 l[i].2.2)):=x8 underlying27 (E.o _ (bG _));obtain⟨D,t,d⟩:=HO.o;have n:=ag (d.put g);have L:=e.size;have m:=ag q;clear HO f d q;generalize l[i]=p at*;obtain⟨I,J,H⟩:=p;obtain rfl:=m.o;clear m;have h:=t.kept (qN wr (.cells #[ae I,ae J,ak H] 29) none) aA
   go_wp2_with (at_mapUpdate;refine xD _ rfl _ _ _ 26 rfl 27 3 (int_keyed underlying27) underlying26 _ w.heap.size i _ rfl h dI _ _ _ rfl rfl G.o _ [] (uY underlying3 (by simp[Lit.wf,IntKind.min,IntKind.max,IntKind.bits,IntKind.signed];omega)) ?_;intro w3 u r)
   have y:Below w.heap.size wr w3:=(((aJ _ wr).alloc aa _)).grown r aF (fun j F=>by cases F;omega);have A:Hid (∃(D:DataW Unit),w3.ownsMap prog 27 (plainElem prog 3) w.heap.size (i+1) D/\nL D l (i+1)):=⟨_,u,n.o⟩;have z:=e.trans y;clear u r h t n;go_wp2;go_roundw
   case rel=>exact⟨i+1,by go_num,aa,z,A⟩
   case measure=>exact dX
  .obtain rfl:i=l.length:=aa;obtain⟨D,h,d⟩:=HO.o;have v:=d.size;have C:=ag v;clear v d HO
   go_wp2_with (at_len;refine wpList_len_own _ rfl _ 26 rfl 27 3 underlying26 _ w.heap.size _ _ rfl h ?_)
   go_ret;exact⟨by rw[C.o];rfl,e⟩
end
section
open Go.RowKit Go.Sort Go.Shelf Go.Lib Go.Maps
attribute [local irreducible] wpQuiet
attribute [local go_sem] Oper.eT
def upd (f:Nat->Value) (k:Nat) (v:Value):Nat->Value:=fun j=>if j=k then v else f j
theorem upd_same (f:Nat->Value) (k:Nat) (v:Value):upd f k v k=v:=by simp[upd]
theorem upd_ne {f:Nat->Value} {k j:Nat} {v:Value} (h:j≠k):upd f k v j=f j:=by simp[upd,h]
theorem tq (f:Nat->Value) (k:Nat) (v a:Value):upd (upd f k v) k a=upd f k a:=by funext j;simp only[upd];split<;>rfl
theorem Od (f:Nat->Value) {k j:Nat} (v a:Value) (h:k≠j):upd (upd f k v) j a=upd (upd f j a) k v:=by
 funext i;simp only[upd];split<;>split<;>first|rfl|omega
theorem I6 (f:Nat->Value) (k:Nat) (v:Value) (h:f k=v):upd f k v=f:=by
 funext j;simp only[upd];split
 .rename_i e;rw[e,h]
 .rfl
def Oe (LN LL:Nat->Value) (n:Nat):List Value:=(List.range n).flatMap fun k=>[LN k,LL k]
theorem qz (LN LL:Nat->Value) (n:Nat):(Oe LN LL n).length=n*2:=by
 unfold Oe;rw[gp (sz:=2) (fun _=>rfl)];simp
theorem tC (LN LL:Nat->Value) {n k:Nat} (h:k<n):(Oe LN LL n)[k*2]? =some (LN k)/\(Oe LN LL n)[k*2+1]? =some (LL k):=by
 have a:=flat_get (enc:=fun k=>[LN k,LL k]) (sz:=2) (fun _=>rfl) (List.range n) k (aP h) 0 aa;have b:=flat_get (enc:=fun k=>[LN k,LL k]) (sz:=2) (fun _=>rfl) (List.range n) k (aP h) 1 aa;simp only[xI,dH,fG,dx]at a b;exact⟨a,b⟩
theorem Og (LN LL:Nat->Value) {n k:Nat} (h:k<n) (v:Value):(Oe LN LL n).set (k*2) v=Oe (upd LN k v) LL n:=by
 apply xL;intro i;rw[List.getElem?_set];by_cases hi:i<n*2
 .have hd:i/2<n:=aa;have⟨a,b⟩:=tC LN LL hd;have⟨c,d⟩:=tC (upd LN k v) LL hd;rcases D5 i with hm|hm
  .have e:i/2*2=i:=aa;rw[e]at a c;rw[c];by_cases f:k*2=i
   .rw[aO f,aO (by rw[qz];omega),show i/2=k by omega,upd_same]
   .rw[aM f,a,upd_ne aa]
  .have e:i/2*2+1=i:=aa;rw[e]at b d;rw[d,aM aa,b]
 .rw[aM aa,oz (by rw[qz];omega),oz (by rw[qz];omega)]
theorem Oh (LN LL:Nat->Value) {n k:Nat} (h:k<n) (v:Value):(Oe LN LL n).set (k*2+1) v=Oe LN (upd LL k v) n:=by
 apply xL;intro i;rw[List.getElem?_set];by_cases hi:i<n*2
 .have hd:i/2<n:=aa;have⟨a,b⟩:=tC LN LL hd;have⟨c,d⟩:=tC LN (upd LL k v) hd;rcases D5 i with hm|hm
  .have e:i/2*2=i:=aa;rw[e]at a c;rw[c,aM aa,a]
  .have e:i/2*2+1=i:=aa;rw[e]at b d;rw[d];by_cases f:k*2+1=i
   .rw[aO f,aO (by rw[qz];omega),show i/2=k by omega,upd_same]
   .rw[aM f,b,upd_ne aa]
 .rw[aM aa,oz (by rw[qz];omega),oz (by rw[qz];omega)]
abbrev cB (W:World) (base gl n c:Nat) (LN LL:Nat->Value):Prop:=W.ownsRow base 150 2 (ax gl n c) n (Oe LN LL n)
theorem cB.get {W:World} {base gl n c k:Nat} {LN LL:Nat->Value} (h:cB W base gl n c LN LL) (d:k<n):W.cell? (af gl (k*2))=some (LN k)/\W.cell? (af gl (k*2+1))=some (LL k):=by
 have⟨a,b⟩:=tC LN LL d;exact⟨(h.cellAt (k*2) aa).trans a,(h.cellAt (k*2+1) aa).trans b⟩
theorem cB.A7 {W:World} {base gl n c k:Nat} {LN LL:Nat->Value} (h:cB W base gl n c LN LL) (a:k<n) (v:Value):cB (W.setCell (af gl (k*2)) v) base gl n c (upd LN k v) LL:=by
 have:=(h.stored (k*2) v).1;rwa [Og LN LL a]at this
theorem cB.Qz {W:World} {base gl n c k:Nat} {LN LL:Nat->Value} (h:cB W base gl n c LN LL) (a:k<n) (v:Value):cB (W.setCell (af gl (k*2+1)) v) base gl n c LN (upd LL k v):=by
 have:=(h.stored (k*2+1) v).1;rwa [Oh LN LL a]at this
theorem cB.kept {S:Nat->Prop} {W W':World} {base gl n c:Nat} {LN LL:Nat->Value} (h:cB W base gl n c LN LL) (K:ay S W W') (hS:¬S gl):cB W' base gl n c LN LL:=
 aU h K fun g e=>by injection e with e;exact e▸hS
theorem wR {w w':World} {a n:Nat} {D:DataW Unit} (h:w.ownsMap prog 27 (plainElem prog 3) a n D) (e:w'.heap[a]? =w.heap[a]?):w'.ownsMap prog 27 (plainElem prog 3) a n D:=by
 have⟨c,b,d,r⟩:=h;exact⟨c,b,e.trans d,r⟩
theorem Oi {w:World} {b n:Nat} {D:DataW Unit} {x:Int} {i:Nat} (h:w.ownsMap prog 27 (plainElem prog 3) b n D) (f:(Lit.int .u32 x).wf=true) (hd:D.atKey (.int .u32 x) (.lit (.int .i64 0))=.lit (.int .i64 (i:Nat))):
  (Instr.lookup 26 (.map (some b)) (.int .u32 x) false).run prog w=.ok (.int .i64 i) w:=by
 have⟨c,d,a,g⟩:=h.lookup_int (t:=26) (e:=3) (q:=.i64) (key:=.int .u32 x) (int_keyed underlying27) underlying26 underlying3 (zeroValue3 _) (x8 underlying27 f);rw[hd]at a;injection a with a;injection a with _ a;subst a;exact d
def mX (w0:World) (base gl n cl:Nat) (LN LL:Nat->Value) (K kl kr m fb:Nat) (nm:Nat->Int) (L:List Nat) (j jf:Nat) (wr:World) (vl vr vf:Value):Prop:=
 cB wr base gl n cl (upd (upd LN kl vl) kr vr) (upd LL K vf)/\
 wr.ownsRow w0.heap.size 27 1 vl ((L.take j).filter fun i=>decide (i<m)).length ((((L.take j).filter fun i=>decide (i<m)).map nm).map (Value.int .u32))/\
 wr.ownsRow w0.heap.size 27 1 vr ((L.take j).filter fun i=>!decide (i<m)).length ((((L.take j).filter fun i=>!decide (i<m)).map nm).map (Value.int .u32))/\
 wr.ownsRow fb 3 1 vf (jf+1) (((lf m L).take (jf+1)).map (Value.int .i64))/\
 (∀g,vl.ownBlock=some g->vr.ownBlock≠some g)/\ay (fun b=>b=gl\/b=fb) w0 wr
theorem mX.drewN {w0:World} {base gl n cl:Nat} {LN LL:Nat->Value} {K kl kr m fb:Nat} {nm:Nat->Int} {L:List Nat} {j jf:Nat} {wr:World} {vl vr vf:Value} (h:mX w0 base gl n cl LN LL K kl kr m fb nm L j jf wr vl vr vf) (q:Nat):mX w0 base gl n cl LN LL K kl kr m fb nm L j jf (wr.drewN q) vl vr vf:=by
 have⟨a,b,c,d,e,f⟩:=h;exact⟨a,b,c,d,e,f.below (Below.bn _ q)⟩
section
variable {w0:World} {base gl n cl:Nat} {LN LL:Nat->Value} {K kl kr m fb:Nat} {nm:Nat->Int} {L:List Nat} {j jf:Nat} {w3 w4:World} {vl vr vf v1:Value}
theorem mX.left (h:mX w0 base gl n cl LN LL K kl kr m fb nm L j jf w3 vl vr vf) (B:j<L.length) (hi:L[j]<m) (D:kl<n) (E:kl≠kr) (M:gl<w0.heap.size) (I:fb<w0.heap.size) (J:gl≠fb)
  (t:w4.ownsRow w0.heap.size 27 1 v1 (((L.take j).filter fun i=>decide (i<m)).length+1) ((((L.take j).filter fun i=>decide (i<m)).map nm).map (Value.int .u32)++[.int .u32 (nm L[j])])) (r:w3.grownBy w4 vl.ownBlock) (A:v1.ownBlock=vl.ownBlock\/∃b,v1.ownBlock=some b/\w3.heap.size<=b):
  mX w0 base gl n cl LN LL K kl kr m fb nm L (j+1) jf (w4.setCell (af gl (kl*2)) v1) v1 vr vf:=by
 obtain⟨a,b,c,d,e,f⟩:=h;have o:ay (fun k=>vl.ownBlock=some k) w3 w4:=(ay.refl _ w3).grown r (fun k C=>.inl C);have p:ay (fun k=>k=gl) w4 (w4.setCell (af gl (kl*2)) v1):=(ay.refl (fun k=>k=gl) w4).set (a:=(af gl (kl*2))) v1 (.inl rfl);have u:=b.lt;have v:=c.lt;have s:L.take (j+1)=L.take j++[L[j]]:=ig B;have w:(L.take (j+1)).filter (fun i=>decide (i<m))=(L.take j).filter (fun i=>decide (i<m))++[L[j]]:=by rw[s,lU];simp[hi]
 have x:(L.take (j+1)).filter (fun i=>!decide (i<m))=(L.take j).filter (fun i=>!decide (i<m)):=by rw[s,lU];simp[hi]
 have F:∀g,v1.ownBlock=some g->w0.heap.size<=g:=fun g r=>(t.lt g r).1;refine⟨?_,?_,?_,?_,?_,?_⟩
 .have y:=(a.kept o fun h=>by have:=(u gl h).1;omega).A7 D v1;rwa [Od _ _ _ (fun h=>E h.symm),tq]at y
 .rw[w,bQ,bP,bP];exact aU (S:=fun k=>k=gl) t p fun g h=>by have:=F g h;omega
 .rw[x];exact aU (S:=fun k=>k=gl) (aU (S:=fun k=>vl.ownBlock=some k) c o fun g h l=>e g l h) p fun g h=>by have:=(v g h).1;omega
 .refine aU (S:=fun k=>k=gl) (aU (S:=fun k=>vl.ownBlock=some k) d o fun g h l=>bu b d ai g l h) p fun g h l=>?_;subst l;have z:=cB.kept a (ay.refl (fun _=>False) w3) (fun h=>h);exact bu z d ai g rfl h
 .intro g h l;rcases A with q|⟨G,q,H⟩
  .exact e g (q▸h) l
  .rw[q]at h;injection h with h;have:=(v g l).2;omega
 .exact((f.mono (S':=fun k=>(k=gl\/k=fb)\/w0.heap.size<=k) (fun k h=>.inl h)).trans (o.mono (fun k h=>.inr (u k h).1))).strip.set (a:=(af gl (kl*2))) v1 (.inl (.inl rfl))
theorem mX.right (h:mX w0 base gl n cl LN LL K kl kr m fb nm L j jf w3 vl vr vf) (B:j<L.length) (hi:¬L[j]<m) (D:kr<n) (M:kl≠kr) (J:gl<w0.heap.size) (H:fb<w0.heap.size) (I:gl≠fb)
  (t:w4.ownsRow w0.heap.size 27 1 v1 (((L.take j).filter fun i=>!decide (i<m)).length+1) ((((L.take j).filter fun i=>!decide (i<m)).map nm).map (Value.int .u32)++[.int .u32 (nm L[j])])) (r:w3.grownBy w4 vr.ownBlock) (A:v1.ownBlock=vr.ownBlock\/∃b,v1.ownBlock=some b/\w3.heap.size<=b):
  mX w0 base gl n cl LN LL K kl kr m fb nm L (j+1) jf (w4.setCell (af gl (kr*2)) v1) vl v1 vf:=by
 obtain⟨a,b,c,d,e,f⟩:=h;have o:ay (fun k=>vr.ownBlock=some k) w3 w4:=(ay.refl _ w3).grown r (fun k C=>.inl C);have p:ay (fun k=>k=gl) w4 (w4.setCell (af gl (kr*2)) v1):=(ay.refl (fun k=>k=gl) w4).set (a:=(af gl (kr*2))) v1 (.inl rfl);have u:=b.lt;have v:=c.lt;have s:L.take (j+1)=L.take j++[L[j]]:=ig B;have w:(L.take (j+1)).filter (fun i=>!decide (i<m))=(L.take j).filter (fun i=>!decide (i<m))++[L[j]]:=by rw[s,lU];simp[hi]
 have x:(L.take (j+1)).filter (fun i=>decide (i<m))=(L.take j).filter (fun i=>decide (i<m)):=by rw[s,lU];simp[hi]
 have E:∀g,v1.ownBlock=some g->w0.heap.size<=g:=fun g r=>(t.lt g r).1;refine⟨?_,?_,?_,?_,?_,?_⟩
 .have y:=(a.kept o fun h=>by have:=(v gl h).1;omega).A7 D v1;rwa [tq]at y
 .rw[x];exact aU (S:=fun k=>k=gl) (aU (S:=fun k=>vr.ownBlock=some k) b o fun g h l=>e g h l) p fun g h=>by have:=(u g h).1;omega
 .rw[w,bQ,bP,bP];exact aU (S:=fun k=>k=gl) t p fun g h=>by have:=E g h;omega
 .refine aU (S:=fun k=>k=gl) (aU (S:=fun k=>vr.ownBlock=some k) d o fun g h l=>bu c d ai g l h) p fun g h l=>?_;subst l;have z:=cB.kept a (ay.refl (fun _=>False) w3) (fun h=>h);exact bu z d ai g rfl h
 .intro g h l;rcases A with q|⟨F,q,G⟩
  .exact e g h (q▸l)
  .rw[q]at l;injection l with l;have:=(u g h).2;omega
 .exact((f.mono (S':=fun k=>(k=gl\/k=fb)\/w0.heap.size<=k) (fun k h=>.inl h)).trans (o.mono (fun k h=>.inr (v k h).1))).strip.set (a:=(af gl (kr*2))) v1 (.inl (.inl rfl))
end
theorem QA {m:Nat} {L:List Nat} {j:Nat} (h:j<L.length):(lf m L).take (j+1+1)=(lf m L).take (j+1)++[(((L.take (j+1)).filter fun i=>decide (i<m)).length:Int)]:=by
 have a:=rW m L;rw[ig aa,qd];rw[H6]
theorem mX.RX {w0:World} {base gl n cl:Nat} {LN LL:Nat->Value} {K kl kr m fb:Nat} {nm:Nat->Int} {L:List Nat} {j:Nat} {p l:World} {vl vr vf v1:Value} (h:mX w0 base gl n cl LN LL K kl kr m fb nm L (j+1) j p vl vr vf) (y:j<L.length) (v:K<n) (F:gl<w0.heap.size) (D:w0.heap.size=fb+1) (E:gl≠fb)
  (t:l.ownsRow fb 3 1 v1 (j+1+1) (((lf m L).take (j+1)).map (Value.int .i64)++[.int .i64 (((L.take (j+1)).filter fun i=>decide (i<m)).length:Nat)])) (w:p.grownBy l vf.ownBlock):
  mX w0 base gl n cl LN LL K kl kr m fb nm L (j+1) (j+1) (l.setCell (af gl (K*2+1)) v1) vl vr v1:=by
 obtain⟨a,b,c,d,e,f⟩:=h;have q:ay (fun k=>vf.ownBlock=some k) p l:=(ay.refl _ p).grown w (fun k z=>.inl z);have r:ay (fun k=>k=gl) l (l.setCell (af gl (K*2+1)) v1):=(ay.refl (fun k=>k=gl) l).set (a:=(af gl (K*2+1))) v1 (.inl rfl);have B:=b.lt;have C:=c.lt;have A:=d.lt;have a':=cB.kept a (ay.refl (fun _=>False) p) (fun h=>h);have x:vf.ownBlock≠some gl:=fun h=>bu a' d ai gl rfl h;have s:=a.kept q x;refine⟨?_,?_,?_,?_,e,?_⟩
 .have u:=s.Qz v v1;rwa [tq]at u
 .exact aU (S:=fun k=>k=gl) (aU (S:=fun k=>vf.ownBlock=some k) b q fun g h o=>bu b d ai g h o) r fun g h=>by have:=(B g h).1;omega
 .exact aU (S:=fun k=>k=gl) (aU (S:=fun k=>vf.ownBlock=some k) c q fun g h o=>bu c d ai g h o) r fun g h=>by have:=(C g h).1;omega
 .rw[QA y,bP];refine aU (S:=fun k=>k=gl) t r fun g h o=>?_;subst o;exact bu s t ai g rfl h
 .exact((f.mono (S':=fun k=>(k=gl\/k=fb)\/w0.heap.size<=k) (fun k h=>.inl h)).trans (q.mono (fun k h=>by have:=(A k h).1;by_cases e:k=fb;exact .inl (.inr e);exact .inr aa))).strip.set (a:=(af gl (K*2+1))) v1 (.inl (.inl rfl))
theorem yx (l r:FT) (s tb z off cn gl cl base K kl kr m t cL:Nat) (N:List Nd) (LN LL:Nat->Value) (L:List Nat) (nm:Nat->Int) (I:Option Addr) (cu:Nat) (D:DataW Unit) (w:World) (ba:FT.At N (.node l r) s) (n:(FT.node l r).root s=K) (cc:l.root s=kl) (cA:r.root (s+l.size)=kr) (df:l.hi=m) (dQ:m<=1000000) (dB:N.length<=1000000)
  (a2:w.cell? (af tb 4)=some (.slice (some (af z off)) N.length cn)) (bI:bV oM 7 w (some (af z off)) N) (bt:w.cell? (af tb 5)=some (ax gl N.length cl))
  (aM:cB w base gl N.length cl LN LL) (V:z≠gl/\tb≠gl/\∀b o,I=some (af b o)->b≠gl)
  (c7:LN K=.slice I L.length cu) (b4:Rd (.int .u32) w I (L.map nm)) (dL:L.length<=1000000) (b8:LN kl=aL) (b9:LN kr=aL)
  (cg:w.ownsMap prog 27 (plainElem prog 3) t cL D) (Y:∀i∈L,D.atKey (.int .u32 (nm i)) (.lit (.int .i64 0))=.lit (.int .i64 (i:Nat))) (cH:∀i∈L,(Lit.int .u32 (nm i)).wf=true) (c8:∀i∈L,i<=1000000):
  aK 96 #[aj tb,ae K,.map (some t)] w fun e w'=>e=.returned (.tuple #[])/\∃vl vr vf,cB w' base gl N.length cl (upd (upd LN kl vl) kr vr) (upd LL K vf)/\
   w'.ownsRow w.heap.size 27 1 vl (L.filter fun i=>decide (i<m)).length (((L.filter fun i=>decide (i<m)).map nm).map (Value.int .u32))/\
   w'.ownsRow w.heap.size 27 1 vr (L.filter fun i=>!decide (i<m)).length (((L.filter fun i=>!decide (i<m)).map nm).map (Value.int .u32))/\
   w'.ownsRow w.heap.size 3 1 vf (lf m L).length ((lf m L).map (Value.int .i64))/\(∀g,vl.ownBlock=some g->vr.ownBlock≠some g)/\ay (fun b=>b=gl) w w':=by
 obtain⟨dc,n0,aO,aQ,bo,bp,bF,bq⟩:=mR bI ba.get;have C:=ba.lt;have ch:=gX w _ a2;have dE:gl<w.heap.size:=(aM.lt gl rfl).2;simp only at ch;simp only[FT.top]at n0 aO aQ bo bp bq;have cd:=FT.wJ l r s;have bf:=ba.left.lt;have cf:=ba.right.lt;obtain⟨dF,-,-,-,-,cM,-,-⟩:=mR bI ba.left.get;rw[FT.vD,df,cc]at cM;have dh:((s+l.size:Nat):Int)-1=(kl:Int):=by rw[<-cc];unfold FT.root;have:=l.size_pos;omega
 have di:((s+l.size+r.size:Nat):Int)-1=(kr:Int):=by rw[<-cA];unfold FT.root;have:=r.size_pos;omega
 rw[dh]at aO;rw[di]at aQ;rw[n]at n0 aO aQ bo bp bF bq C cd;rw[cc]at bf cd;rw[cA]at cf cd;generalize dO:l.lo=lo at*;generalize dG:r.hi=hi at*;have cr:=ag aM;have ce:=ag aM;have c2:=aM.frozenAt (K*2+1);obtain⟨al,cN⟩:=aM.get C;have cT:=ag a2;have du:=ag bI;have cU:=ag bt;obtain⟨cO,cE⟩:∃cO,cO=LL K:=⟨_,rfl⟩;rw[<-cE]at cN;clear aM bI cE;go_enter func96,ntmps96
 go_upto_region 0 with fail
 go_cut [6,7]from 6 (fun dn dp cQ=>∃x:Nat,dn=aj x/\dp=.pointer (some (af gl (K*2)))/\Hid (cQ.heap[x]? =some (.cells #[.int .u8 2,ae kl,ae kr,ae lo,ae hi,ae 0,ae 0] 163 (0,0)))/\Hid (Below w.heap.size w cQ)/\w.heap.size<=x)
 case first=>
  have dy:=ah a2;have dz:=ah bt;have dX:=ah n0;have dY:=ah aO;have dZ:=ah aQ;have d0:=ah bo;have d3:=ah bp;have d4:=ah bF;have d5:=ah bq;clear a2 bt n0 aO aQ bo bp bF bq;refine au (fun W=>∃p:aR w,W=p.W) [15] [(0,false),(1,false),(2,false),(3,true),(4,false),(5,false),(6,true),(7,false),(8,false),(9,false),(10,true),(11,false),(12,false)] ⟨⟨_,(aJ _ _).drew⟩,rfl⟩ 3 ?_;refine aH 13 rfl fun K n=>?_;go_simp;refine n _ _ (fun _ _=>⟨⟨_,(aJ _ w).alloc (aB _) _|>.drew⟩,rfl⟩) ?_;clear n K;refine aH 14 rfl fun K n=>?_;go_simp;refine n _ _ (fun _ _=>⟨⟨_,(aJ _ w).alloc (aB _) _|>.drew⟩,rfl⟩) ?_;clear n K;refine aI [15] ?_;go_wp2;go_meet;exact⟨w.heap.size,rfl,rfl,kZ _ _,(aJ _ w).alloc (aB _) _|>.drew,aB _⟩
 case rest=>
  obtain⟨x,rfl,rfl,bQ,bL,dV⟩:=hcut;have cI:x<wc.heap.size:=(aY.1 bQ.o).1;have bs:Hid (cB wc base gl N.length cl LN LL):=az cr.o bL.o;have c3:=bs.o.frozenAt (K*2+1);have m1:=(bs.o.get C).2;obtain⟨co,cF⟩:∃co,co=LL K:=⟨_,rfl⟩;rw[<-cF]at m1;clear cF;have Z:=bQ.o;have d7:wc.cell? (af x 0)=some (.int .u8 2):=aD Z;clear Z;clear n0 aO aQ bo bp bF bq a2 bt c2 al cN;have dT:=bL.o.size;obtain⟨fb,bv⟩:∃fb,fb=wc.heap.size:=⟨_,rfl⟩;have dv:(wc.alloc (.cells #[ae 0] 3)).cell? (af gl (K*2+1))=some co:=(((aJ wc.heap.size wc).alloc (aB _) _).cell (p:=(af gl (K*2+1))) (by show gl<_;omega)).trans m1;have dw:(wc.alloc (.cells #[ae 0] 3)).frozen? (af gl (K*2+1))=false:=(((aJ wc.heap.size wc).alloc (aB _) _).frozen (p:=(af gl (K*2+1))) (by show gl<_;omega)).trans c3;obtain⟨f,aC⟩:∃f,f=(wc.alloc (.cells #[ae 0] 3)).setCell (af gl (K*2+1)) (ax wc.heap.size 1 1):=⟨_,rfl⟩;have bR:ay (fun b=>b=gl) wc f:=by rw[aC];exact((ay.refl (fun b=>b=gl) wc).alloc _).set (a:=(af gl (K*2+1))) _ (.inl rfl)
  have E:ay (fun b=>b=gl) w f:=((ay.refl (fun b=>b=gl) w).below bL.o).trans bR;have bS:cB f base gl N.length cl LN (upd LL K (ax fb 1 1)):=by rw[aC,bv];exact cB.Qz (az bs.o ((aJ _ _).alloc (aB _) _)) C _
  have cp:f.ownsRow fb 3 1 (ax fb 1 1) 1 [.int .i64 0]:=by
   have h:=Bc wc fb [.int .i64 0] 3 aa (by unfold maxLen;simp);rw[aC];rw[bv]at h |-;exact aU (S:=fun b=>b=gl) h ((ay.refl (fun b=>b=gl) _).set (a:=(af gl (K*2+1))) _ (.inl rfl)) (fun g e=>by have cv:=NU e;omega)
  have c9:f.heap.size=fb+1:=by rw[aC,bv];simp
  have dW:x<fb:=by rw[bv];exact cI
  have dj:x≠gl:=aa;have bw:gl≠fb:=aa;obtain⟨aq,-⟩:=bY bR cI dj;have Z:=bQ.o;have y1:f.cell? (af x 1)=some (ae kl):=(aq 1).trans (aD Z);have y2:f.cell? (af x 2)=some (ae kr):=(aq 2).trans (aD Z);have dq:f.cell? (af tb 5)=some (ax gl N.length cl):=((bY E ch V.2.1).1 5).trans cU.o;have cR:f.cell? (af tb 4)=some (.slice (some (af z off)) N.length cn):=((bY E ch V.2.1).1 4).trans cT.o;have dr:f.cell? (af gl (K*2))=some (.slice I L.length cu):=(bS.get C).1.trans (by rw[c7]);have cS:f.cell? (af z (off+kl*7+4))=some (ae m):=((bY E dc V.1).1 _).trans cM;have cs:Hid (Rd (.int .u32) f I (L.map nm)):=by
   rcases b4 with h|⟨b,o,e,B,b7⟩
   .exact .inl h
   .exact .inr ⟨b,o,e,bT B E.size,fun i hi=>((bY E B (V.2.2 b o e)).1 _).trans (b7 i hi)⟩
  have dR:w.heap[t]? =f.heap[t]? /\t<f.heap.size:=by
   obtain⟨cw,ct,B,-⟩:=cg;have Y:t<w.heap.size:=(aY.1 B).1;refine⟨(E.block t Y fun e=>?_).symm,bT Y E.size⟩;subst e;rcases ce.o.2 with⟨h,-⟩|⟨g,cZ,c0,h,-,be,-⟩
   .cases h
   .injection h with h;injection h with h;injection h with h;subst h;rw[B]at be;cases be
  have ds:f.cell? (af x 0)=some (.int .u8 2):=(aq 0).trans (aD Z);clear Z aq bR
  go_upto_region 2 with fail
  rw[<-aC];clear aC
  go_upto_region 3 with fail
  go_quiet (fail)
  go_wp2_with fail
  obtain⟨w2,y⟩:∃w2,w2=f.drewN nq:=⟨_,rfl⟩;have cq:Hid (ay (fun b=>b=gl) w w2):=by rw[y];exact E.trans (Below.bn f.heap.size _|>fun h=>(ay.refl _ f).below h)
  have cz:cB w2 base gl N.length cl LN (upd LL K (ax fb 1 1)):=by rw[y];exact bS
  have cx:w2.ownsRow fb 3 1 (ax fb 1 1) 1 [.int .i64 0]:=by rw[y];exact cp
  have u1:w2.cell? (af x 1)=some (ae kl):=by rw[y];exact y1
  have u4:w2.cell? (af tb 4)=some (.slice (some (af z off)) N.length cn):=by rw[y];exact cR
  have br:w2.cell? (af z (off+kl*7+4))=some (ae m):=by rw[y];exact cS
  have bP:Hid (w2.cell? (af x 1)=some (ae kl)/\w2.cell? (af tb 4)=some (.slice (some (af z off)) N.length cn)/\w2.cell? (af z (off+kl*7+4))=some (ae m)):=⟨u1,u4,br⟩;have cX:Hid (Rd (.int .u32) w2 I (L.map nm)):=by rw[y];exact cs.o
  have bO:Hid (w2.ownsMap prog 27 (plainElem prog 3) t cL D/\t≠gl/\t<fb):=by
   rw[y];obtain⟨cw,ct,B,r⟩:=cg;have Y:t<w.heap.size:=(aY.1 B).1;have cD:t≠gl:=by
    rintro rfl;rcases ce.o.2 with⟨h,-⟩|⟨g,cZ,c0,h,-,be,-⟩
    .cases h
    .have aE:=NU (show(ax t N.length cl).ownBlock=some g by rw[h];rfl);subst aE;rw[B]at be;cases be
   exact⟨⟨cw,ct,(E.block t Y cD).trans B,r⟩,cD,aa⟩
  have cG:w2.heap.size=fb+1:=by rw[y];exact c9
  have dU:tb<fb/\z<fb:=aa;have cy:mX w2 base gl N.length cl LN LL K kl kr m fb nm L 0 0 w2 (aL) (aL) (ax fb 1 1):=by
   refine⟨?_,dA _ _ _ _,dA _ _ _ _,?_,fun g h=>(by cases h),ay.refl _ _⟩
   .rw[I6 _ kl _ b8,I6 _ kr _ b9];exact cz
   .have cv:(lf m L).take (0+1)=[0]:=by simp[lf,List.range_succ_eq_map]
    rw[cv];exact cx
  have cV:=ag cy;have M:Hid (∀b o,0<L.length->I=some (af b o)->b<fb):=fun b o c4 e=>by
   obtain⟨dx,d6,aw,dC,-⟩:=b4.get (aP c4);rw[e]at aw;injection aw with aw;injection aw with aw;subst aw;omega
  have cW:=ag Y;have cY:=ag cH;have dt:=ag (And.intro b8 b9);rw[<-y];clear y bS cp y1 y2 cR dq cS dr ds E cs cz cx u1 u4 br cg Y cH cy ce cr bs b8 b9 b4
  go_loopg [51] L.length (fun dk dm wr=>∃(j:Nat) (vl vr vf:Value),dm=.int .i64 j/\j<=L.length/\L.length-j<=dk/\Hid (mX w2 base gl N.length cl LN LL K kl kr m fb nm L j j wr vl vr vf))
  case atStart=>exact⟨0,_,_,_,rfl,bH _,aa,cV⟩
  case round=>
   obtain⟨j,vl,vr,vf,rfl,dJ,dK,aV⟩:=hrel;obtain⟨ar,av,rfl⟩:=fF aV.o.2.1;obtain⟨bi,bj,bl,bm,bk,G⟩:=aV.o;have dM:((L.take j).filter fun i=>decide (i<m)).length<=L.length:=bA (gV _ _) aF;have dN:((L.take j).filter fun i=>!decide (i<m)).length<=L.length:=bA (gV _ _) aF;obtain⟨aq,-⟩:=bY G (b:=x) aa aa;obtain⟨cP,-⟩:=bY G (b:=tb) aa (by have:=V.2.1;omega);obtain⟨gk,-⟩:=bY G (b:=z) aa (by have:=V.1;omega);have u1:=(aq 1).trans bP.o.1;have u4:=(cP 4).trans bP.o.2.1;have br:=(gk (off+kl*7+4)).trans bP.o.2.2;clear aq cP gk;by_cases T:j<L.length
   .obtain⟨i,hi⟩:∃i,i=L[j]:=⟨_,rfl⟩;have bz:i∈L:=by rw[hi];exact bG _
    have dH:=c8 i bz;obtain⟨ad,bB⟩:∃ad,ad=nm i:=⟨_,rfl⟩;have db:∃b o,I=some (af b o)/\wr.cell? (af b (o+j))=some (ak ad):=by
     obtain⟨b,o,e,B,b7⟩:=cX.o.get aF;have aE:=b7 j (aP T);rw[fM,<-hi,<-bB]at aE;have dD:=V.2.2 b o e;have aG:=M.o b o aa e;have aG:=M.o b o aa e;have aG:=M.o b o aa e;have aG:=M.o b o aa e;have aG:=M.o b o aa e;have aG:=M.o b o aa e;have aG:=M.o b o aa e;exact⟨b,o,e,((bY G B aa).1 _).trans aE⟩
    obtain⟨b,o,c1,dg⟩:=db;subst c1;have dd:∀q,(Instr.lookup 26 (.map (some t)) (.int .u32 ad) false).run prog (wr.drewN q)=.ok (.int .i64 i) (wr.drewN q):=fun q=>by
     rw[bB];exact Oi (wR bO.o.1 (G.block t (by have:=bO.o.2.2;omega) (by have:=bO.o.2;omega))) (cY.o i bz) (cW.o i bz)
    have H:Hid (i=L[j]/\ad=nm i):=⟨hi,bB⟩;clear hi bB bz
    go_wp2_with fail
    go_quiet (fail)
    obtain⟨w3,b1⟩:∃w3,w3=wr.drewN nq:=⟨_,rfl⟩;have aW:Hid (mX w2 base gl N.length cl LN LL K kl kr m fb nm L j j w3 (.slice ar ((L.take j).filter fun i=>decide (i<m)).length av) vr vf):=by rw[b1];exact aV.o.drewN nq
    rw[<-b1];clear b1 bi bj bl bm bk G aV u1 u4 br dg dd;obtain⟨aN,bD,bE,cK,cJ,bh⟩:=aW.o;have bx:gl<w3.heap.size:=by have:=bh.size;omega
    by_cases J:i<m
    .have d1:decide ((i:Int)<(m:Int))=true:=aP J;have d2:decide (i<m)=true:=aP J;have al:w3.cell? (af gl (kl*2))=some (.slice ar ((L.take j).filter fun i=>decide (i<m)).length av):=(aN.get bf).1.trans (by rw[upd_ne aa,upd_same]);have f0:=aN.frozenAt (kl*2)
     go_wp2_with (at_builtin;refine bX uj w2.heap.size bD [.int .u32 ad] rfl (by simp[Value.oneCell']) rfl _ _ rfl rfl _ rfl dI aa (by have:=bh.size;omega) ?_;intro v1 w4 X Q bb;have a0:ay (fun k=>(Value.slice ar ((L.take j).filter fun i=>decide (i<m)).length av).ownBlock=some k) w3 w4:=(ay.refl _ w3).grown Q (fun k U=>.inl U);have bd:¬(Value.slice ar ((L.take j).filter fun i=>decide (i<m)).length av).ownBlock=some gl:=(fun h=>by have aE:=(bD.lt gl h).1;omega);obtain⟨a4,a6⟩:=bY a0 bx bd;have cm:=(a4 (kl*2)).trans al;have f4:=(a6 (kl*2)).trans f0;clear a4 a6;obtain⟨an,ao,rfl⟩:=fF X;have aX:=ag X;have aT:=ag Q;have aS:=ag bb;clear X Q bb)
     obtain⟨d,O⟩:∃d,d=w4.setCell (af gl (kl*2)) (.slice an (((L.take j).filter fun i=>decide (i<m)).length+1) ao):=⟨_,rfl⟩;have v:Hid (mX w2 base gl N.length cl LN LL K kl kr m fb nm L (j+1) j d (.slice an (((L.take j).filter fun i=>decide (i<m)).length+1) ao) vr vf):=by
      rw[O];exact mX.left aW.o T (by rw[<-H.o.1];exact J) bf aa aa aa bw (by rw[<-H.o.1,<-H.o.2];exact aX.o) aT.o (gH aS.o)
     have F:((L.take (j+1)).filter fun i=>decide (i<m)).length=((L.take j).filter fun i=>decide (i<m)).length+1:=by
      rw[ig T,lU,<-H.o.1];simp[J]
     rw[<-O];clear O a0 bd cm f4 aX aT aS aN bD bE cK cJ bh aW al f0 bx;generalize a9:((.slice an (((L.take j).filter fun i=>decide (i<m)).length+1) ao):Value)=bU at*;generalize b5:(vr:Value)=bW at*;have b6:∃a c,bU=.slice a (((L.take j).filter fun i=>decide (i<m)).length+1) c:=⟨_,_,a9.symm⟩;clear a9 b5;obtain⟨bZ,b0,rfl⟩:=b6;obtain⟨A,P⟩:∃A,A=((L.take j).filter fun i=>decide (i<m)).length+1:=⟨_,rfl⟩
     first|rw[<-P]at F v |- |rw[<-P]at F v
     have bK:=ag F;have c5:A<=1000001:=aa;clear F P;obtain⟨u,ci,ck,ac,cj,ab⟩:=v.o;have ca:gl<d.heap.size:=by have:=ab.size;omega
     have b2:=ah ((u.get C).2.trans (by rw[upd_same]));have b3:=ah ((u.get bf).1.trans (by rw[upd_ne aa,upd_same]));have f2:=u.frozenAt (K*2+1);have am:=(u.get C).2;rw[upd_same]at am;have aZ:=ag ac;have cb:¬vf.ownBlock=some gl:=fun h=>bu u ac ai gl rfl h;have c6:=ab.size;clear u ci ck ac cj ab;refine au (fun W=>∃p:aR d,W=p.W) [11,12,13,14] [(0,false),(1,false),(2,false),(3,false),(4,true),(5,false),(6,false),(7,false),(8,true),(9,false)] ⟨⟨_,(aJ _ _).drew⟩,rfl⟩ 5 ?_;refine aH 10 rfl fun K n=>?_;go_simp;refine n _ _ (fun _ _=>⟨⟨_,(aJ _ d).alloc (aB _) _|>.drew⟩,rfl⟩) ?_;clear n K;refine aH 11 rfl fun K n=>?_;refine bC nD fb (w:=(d.alloc (.cells #[ae A] 3)).drew) (az aZ.o ((aJ _ d).alloc (aB _) _|>.drew)) [.int .i64 A] rfl (by simp[Value.oneCell']) rfl (.tmp 92) (.tmp 98) rfl rfl d.heap.size rfl (kZ _ _) dI aa aF ?_;intro a8 a3 ap bg bc da de;refine n _ _ (fun _ h=>absurd aA h) ?_;clear n K;refine aI [12,13,14] ?_;have R:d.grownBy ap vf.ownBlock:=dP (bM ((aJ _ d).alloc (aB _) _|>.drew)) bc;have a1:ay (fun k=>vf.ownBlock=some k) d ap:=(ay.refl _ d).grown R (fun k U=>.inl U);obtain⟨a5,a7⟩:=bY a1 ca cb;have dl:=(a5 (K*2+1)).trans am;have f7:=(a7 (K*2+1)).trans f2;have bN:Hid (mX w2 base gl N.length cl LN LL K kl kr m fb nm L (j+1) (j+1) (ap.setCell (af gl (K*2+1)) (ax a8 (j+1+1) a3)) (.slice bZ A b0) bW (ax a8 (j+1+1) a3)):=
      mX.RX v.o T C aa cG bw (by rw[bK.o];exact bg) R
     clear a5 a7 a1 R bc bg am f2 b2 b3 aZ v;go_wp2
     go_roundg (L.length-(j+1))
     case measure=>omega
     case rel=>exact⟨j+1,_,_,_,by go_num,aa,aB _,bN⟩
    .have d1:decide ((i:Int)<(m:Int))=false:=aP J;have d2:decide (i<m)=false:=aP J;have al:w3.cell? (af gl (kr*2))=some vr:=(aN.get cf).1.trans (by rw[upd_same]);have f0:=aN.frozenAt (kr*2)
     go_wp2_with (at_builtin;refine bX uj w2.heap.size bE [.int .u32 ad] rfl (by simp[Value.oneCell']) rfl _ _ rfl rfl _ rfl dI aa (by have:=bh.size;omega) ?_;intro v1 w4 X Q bb;have a0:ay (fun k=>vr.ownBlock=some k) w3 w4:=(ay.refl _ w3).grown Q (fun k U=>.inl U);have bd:¬vr.ownBlock=some gl:=(fun h=>by have aE:=(bE.lt gl h).1;omega);obtain⟨a4,a6⟩:=bY a0 bx bd;have cm:=(a4 (kr*2)).trans al;have f4:=(a6 (kr*2)).trans f0;clear a4 a6;obtain⟨an,ao,rfl⟩:=fF X;have aX:=ag X;have aT:=ag Q;have aS:=ag bb;clear X Q bb)
     obtain⟨d,O⟩:∃d,d=w4.setCell (af gl (kr*2)) (.slice an (((L.take j).filter fun i=>!decide (i<m)).length+1) ao):=⟨_,rfl⟩;have v:Hid (mX w2 base gl N.length cl LN LL K kl kr m fb nm L (j+1) j d (.slice ar ((L.take j).filter fun i=>decide (i<m)).length av) (.slice an (((L.take j).filter fun i=>!decide (i<m)).length+1) ao) vf):=by
      rw[O];exact mX.right aW.o T (by rw[<-H.o.1];exact J) cf aa aa aa bw (by rw[<-H.o.1,<-H.o.2];exact aX.o) aT.o (gH aS.o)
     have F:((L.take (j+1)).filter fun i=>decide (i<m)).length=((L.take j).filter fun i=>decide (i<m)).length:=by
      rw[ig T,lU,<-H.o.1];simp[J]
     rw[<-O];clear O a0 bd cm f4 aX aT aS aN bD bE cK cJ bh aW al f0 bx;generalize a9:((.slice ar ((L.take j).filter fun i=>decide (i<m)).length av):Value)=bU at*;generalize b5:((.slice an (((L.take j).filter fun i=>!decide (i<m)).length+1) ao):Value)=bW at*;have b6:∃a c,bU=.slice a (((L.take j).filter fun i=>decide (i<m)).length) c:=⟨_,_,a9.symm⟩;clear a9 b5;obtain⟨bZ,b0,rfl⟩:=b6;obtain⟨A,P⟩:∃A,A=((L.take j).filter fun i=>decide (i<m)).length:=⟨_,rfl⟩
     first|rw[<-P]at F v |- |rw[<-P]at F v
     have bK:=ag F;have c5:A<=1000001:=aa;clear F P;obtain⟨u,ci,ck,ac,cj,ab⟩:=v.o;have ca:gl<d.heap.size:=by have:=ab.size;omega
     have b2:=ah ((u.get C).2.trans (by rw[upd_same]));have b3:=ah ((u.get bf).1.trans (by rw[upd_ne aa,upd_same]));have f2:=u.frozenAt (K*2+1);have am:=(u.get C).2;rw[upd_same]at am;have aZ:=ag ac;have cb:¬vf.ownBlock=some gl:=fun h=>bu u ac ai gl rfl h;have c6:=ab.size;clear u ci ck ac cj ab;refine au (fun W=>∃p:aR d,W=p.W) [11,12,13,14] [(0,false),(1,false),(2,false),(3,false),(4,true),(5,false),(6,false),(7,false),(8,true),(9,false)] ⟨⟨_,(aJ _ _).drew⟩,rfl⟩ 5 ?_;refine aH 10 rfl fun K n=>?_;go_simp;refine n _ _ (fun _ _=>⟨⟨_,(aJ _ d).alloc (aB _) _|>.drew⟩,rfl⟩) ?_;clear n K;refine aH 11 rfl fun K n=>?_;refine bC nD fb (w:=(d.alloc (.cells #[ae A] 3)).drew) (az aZ.o ((aJ _ d).alloc (aB _) _|>.drew)) [.int .i64 A] rfl (by simp[Value.oneCell']) rfl (.tmp 92) (.tmp 98) rfl rfl d.heap.size rfl (kZ _ _) dI aa aF ?_;intro a8 a3 ap bg bc da de;refine n _ _ (fun _ h=>absurd aA h) ?_;clear n K;refine aI [12,13,14] ?_;have R:d.grownBy ap vf.ownBlock:=dP (bM ((aJ _ d).alloc (aB _) _|>.drew)) bc;have a1:ay (fun k=>vf.ownBlock=some k) d ap:=(ay.refl _ d).grown R (fun k U=>.inl U);obtain⟨a5,a7⟩:=bY a1 ca cb;have dl:=(a5 (K*2+1)).trans am;have f7:=(a7 (K*2+1)).trans f2;have bN:Hid (mX w2 base gl N.length cl LN LL K kl kr m fb nm L (j+1) (j+1) (ap.setCell (af gl (K*2+1)) (ax a8 (j+1+1) a3)) (.slice bZ A b0) bW (ax a8 (j+1+1) a3)):=
      mX.RX v.o T C aa cG bw (by rw[bK.o];exact bg) R
     clear a5 a7 a1 R bc bg am f2 b2 b3 aZ v;go_wp2
     go_roundg (L.length-(j+1))
     case measure=>omega
     case rel=>exact⟨j+1,_,_,_,by go_num,aa,aB _,bN⟩
   .obtain rfl:j=L.length:=aa;clear bi bj bl bm bk G u1 u4 br;go_wp2
    first|go_end0|go_ret
    obtain⟨bi,bj,bl,bm,bk,G⟩:=aV.o;have dS:=cq.o.size;have cC:=rW m L;simp only[jK]at bi bj bl bk;rw[jJ (AP cC),<-cC]at bm;exact⟨rfl,_,_,_,bi,bJ bj aa,bJ bl aa,bJ bm aa,bk,
     ((cq.o.mono (S':=fun k=>k=gl\/w.heap.size<=k) (fun k h=>.inl h)).trans (G.mono (fun k h=>by rcases h with h|h;exact .inl h;exact .inr aa))).strip⟩
theorem yz (a s tb E off cn gl cl base K V:Nat) (N:List Nd) (LN LL:Nat->Value) (w:World) (F:FT.At N (.leaf a) s) (f:(FT.leaf a).root s=K) (ao:N.length<=1000000)
  (i:w.cell? (af tb 4)=some (.slice (some (af E off)) N.length cn)) (B:bV oM 7 w (some (af E off)) N) (u:w.cell? (af tb 5)=some (ax gl N.length cl))
  (k:cB w base gl N.length cl LN LL):
  aK 96 #[aj tb,ae K,.map (some V)] w fun e w'=>e=.returned (.tuple #[])/\∃vf,(∃a m c,vf=.slice a m c)/\cB w' base gl N.length cl LN (upd LL K vf)/\(∀g,vf.ownBlock=some g->w.heap.size<=g/\g<w'.heap.size)/\ay (fun b=>b=gl) w w':=by
 obtain⟨ar,n0,l,n,q,r,y,t⟩:=mR B F.get;have v:=F.lt;have T:=gX w _ i;have aq:gl<w.heap.size:=(k.lt gl rfl).2;simp only at T;simp only[FT.top]at n0 l n q r t;rw[f]at n0 l n q r y t v;have P:=ag k;have R:=k.frozenAt (K*2+1);obtain⟨X,J⟩:=k.get v;have ab:=ag i;have ad:=ag B;have ac:=ag u;obtain⟨L,G⟩:∃L,L=LL K:=⟨_,rfl⟩;rw[<-G]at J;clear k B G;go_enter func96,ntmps96
 go_upto_region 0 with fail
 go_cut [6,7]from 6 (fun Y Z M=>∃x:Nat,Y=aj x/\Z=.pointer (some (af gl (K*2)))/\Hid (M.heap[x]? =some (.cells #[.int .u8 1,ae (-1),ae (-1),ae a,ae (a+1),ae 0,ae a] 163 (0,0)))/\Hid (Below w.heap.size w M)/\w.heap.size<=x)
 case first=>
  have am:=ah i;have an:=ah u;have aA:=ah n0;have aC:=ah l;have aE:=ah n;have aF:=ah q;have aG:=ah r;have aL:=ah y;have aM:=ah t;clear i u n0 l n q r y t;refine au (fun W=>∃p:aR w,W=p.W) [15] [(0,false),(1,false),(2,false),(3,true),(4,false),(5,false),(6,true),(7,false),(8,false),(9,false),(10,true),(11,false),(12,false)] ⟨⟨_,(aJ _ _).drew⟩,rfl⟩ 3 ?_;refine aH 13 rfl fun K f=>?_;go_simp;refine f _ _ (fun _ _=>⟨⟨_,(aJ _ w).alloc (aB _) _|>.drew⟩,rfl⟩) ?_;clear f K;refine aH 14 rfl fun K f=>?_;go_simp;refine f _ _ (fun _ _=>⟨⟨_,(aJ _ w).alloc (aB _) _|>.drew⟩,rfl⟩) ?_;clear f K;refine aI [15] ?_;go_wp2;go_meet;exact⟨w.heap.size,rfl,rfl,kZ _ _,(aJ _ w).alloc (aB _) _|>.drew,aB _⟩
 case rest=>
  obtain⟨x,rfl,rfl,C,h,aw⟩:=hcut;have U:x<wc.heap.size:=(aY.1 C.o).1;have z:Hid (cB wc base gl N.length cl LN LL):=az P.o h.o;have S:=z.o.frozenAt (K*2+1);have m1:=(z.o.get v).2;obtain⟨A,H⟩:∃A,A=LL K:=⟨_,rfl⟩;rw[<-H]at m1;clear H;have ai:(wc.alloc (.cells #[ae 0] 3)).cell? (af gl (K*2+1))=some A:=(((aJ wc.heap.size wc).alloc (aB _) _).cell (p:=(af gl (K*2+1))) (by have:=h.o.size;show gl<_;omega)).trans m1;have ak:(wc.alloc (.cells #[ae 0] 3)).frozen? (af gl (K*2+1))=false:=(((aJ wc.heap.size wc).alloc (aB _) _).frozen (p:=(af gl (K*2+1))) (by have:=h.o.size;show gl<_;omega)).trans S;clear n0 l n q r y t i u R X J;have av:=h.o.size;obtain⟨d,j⟩:∃d,d=(wc.alloc (.cells #[ae 0] 3)).setCell (af gl (K*2+1)) (ax wc.heap.size 1 1):=⟨_,rfl⟩;have D:ay (fun b=>b=gl) wc d:=by rw[j];exact((ay.refl (fun b=>b=gl) wc).alloc _).set (a:=(af gl (K*2+1))) _ (.inl rfl)
  have Q:Hid (cB d base gl N.length cl LN (upd LL K (ax wc.heap.size 1 1))):=by rw[j];exact cB.Qz (az z.o ((aJ _ _).alloc (aB _) _)) v _
  have O:Hid (ay (fun b=>b=gl) w d):=((ay.refl (fun b=>b=gl) w).below h.o).trans D;have ap:d.heap.size=wc.heap.size+1:=by rw[j];simp
  have I:=C.o;have aN:d.cell? (af x 0)=some (.int .u8 1):=((bY D U aa).1 0).trans (aD I);clear I
  go_upto_region 2 with fail
  rw[<-j];clear j;go_wp2;refine jM (kL rfl _ _ _) rfl ?_;exact⟨rfl,ax wc.heap.size 1 1,⟨_,_,_,rfl⟩,Q.o,fun g e=>by have al:=NU e;omega,O.o⟩
end
section
open Go.RowKit Go.Sort Go.Shelf Go.Lib
def nX (p q:Pt):Int:=if je p.2.1 q.2.1=0 then je p.2.2 q.2.2 else je p.2.1 q.2.1
theorem qA (p q:Pt):nX p q<0↔tX p q:=by
 unfold nX tX je
 repeat' split
 all_goals omega
theorem SN (p q:Pt) (w:World):aK 71 #[iV p.1 p.2.1 p.2.2,iV q.1 q.2.1 q.2.2] w fun e w'=>e=.returned (ae (nX p q))/\xx w w':=by
 have a:=ag (fun W=>VS p.2.1 q.2.1 p.2.2 q.2.2 W);unfold nX;generalize(if je p.2.1 q.2.1=0 then je p.2.2 q.2.2 else je p.2.1 q.2.1)=r at*;go_enter func71,ntmps71
 go_wp2_with fail
 refine(a.o _).mono ?_;rintro e w1 ⟨rfl,h⟩;go_wp2;go_ret;exact⟨rfl,(((xx.refl _).alloc _).alloc _).trans h⟩
theorem Bl:gF 71:=dh func71 aN rfl
def Nt (p q:Pt):Bool:=!decide (tX q p)
def kD (l:List Pt):List Pt:=l.mergeSort Nt
theorem iY (l:List Pt):(kD l).Perm l:=oC l Nt
theorem jV (l:List Pt) (p:Pt):p∈kD l↔p∈l:=(iY l).mem_iff
theorem zl {l:List Pt} (h:(ids l).Nodup):(kD l).Pairwise tX:=by
 have d:(kD l).Pairwise fun p q=>Nt p q=true:=rq (le:=Nt) (fun p q r j k=>by simp only[Nt,oF,gY]at*;unfold tX at*;omega) (fun p q=>by simp only[Nt,Au,oF,gY];unfold tX;omega) l;have c:(ids (kD l)).Nodup:=((iY l).map _).nodup_iff.2 h;have e:(kD l).Pairwise fun p q=>p.2.2≠q.2.2:=by
  unfold ids at c;exact dm.1 c
 refine(d.and e).imp fun{a b} g=>?_;have⟨f,i⟩:=g;simp only[Nt,oF,gY]at f;unfold tX at*;omega
theorem Ko {l S:List Pt} (h:(ids l).Nodup) (hS:S.Pairwise tX) (a:∀p,p∈S↔p∈l):S=kD l:=
 qi wz Di hS (zl h) fun p=>by rw[a,jV]
theorem QB:SWO (ltOf nX):=yn qA wz (fun _ _ _=>sS) (fun x y z=>by unfold tX;omega)
theorem Gi {l l':List Pt} (hu:(ids l).Nodup) (hp:l'.Perm l) (g:l'.Pairwise fun x y=>¬nX y x<0):l'=kD l:=by
 refine Ko hu ?_ fun p=>hp.mem_iff;have c:(ids l').Nodup:=(hp.map _).nodup_iff.2 hu;have d:l'.Pairwise fun p q=>p.2.2≠q.2.2:=dm.1 c;refine(g.and d).imp fun{a b} f=>?_;have⟨e,h⟩:=f;rw[qA]at e;unfold tX at*;omega
theorem Oj {w:World} {base g c n:Nat} {l:List Pt} (i:l.length=n) (k:n<4611686018427387904) (h:w.ownsRow base 29 3 (ax g n c) n (l.flatMap dw)) (hu:(ids l).Nodup):
  aK 93 #[ax g n c,.func (.func 71) #[] #[]] w fun e w'=>
   e=.returned (.tuple #[])/\w'.ownsRow base 29 3 (ax g n c) n ((kD l).flatMap dw)/\w.grownBy w' (some g):=by
 have a:=mV Tryz.Iq bf ai isAgg29 sizeOf29 nI nX QB 71 #[] Bl (fun x y W=>SN x y W) i k h;change aK 93 _ _ _ at a;refine a.mono ?_;rintro e w' ⟨d,l',hp,j,b,f⟩;rw[Gi hu hp j]at b;exact⟨d,b,f⟩
theorem yA {w:World} {base n:Nat} {v:Value} {l:List Pt} (b:l.length=n) (i:n<4611686018427387904) (h:w.ownsRow base 29 3 v n (l.flatMap dw)) (hu:(ids l).Nodup):
  aK 93 #[v,.func (.func 94) #[] #[]] w fun e w'=>
   e=.returned (.tuple #[])/\w'.ownsRow base 29 3 v n ((eQ l).flatMap dw)/\ay (fun k=>v.ownBlock=some k) w w':=by
 rcases h.2 with⟨rfl,c⟩|⟨g,j,m,rfl,o,_⟩
 .subst c;obtain rfl:l=[]:=gU b;refine(qp none 0 _ w).mono ?_;rintro e w' ⟨a,rfl⟩;exact⟨a,by simpa[eQ]using h,ay.refl _ _⟩
 .refine(Kk b i h hu).mono ?_;rintro e w' ⟨a,f,d⟩;exact⟨a,f,(ay.refl _ w).grown d (fun k e=>.inl e)⟩
theorem LQ {w:World} {base n:Nat} {v:Value} {l:List Pt} (b:l.length=n) (i:n<4611686018427387904) (h:w.ownsRow base 29 3 v n (l.flatMap dw)) (hu:(ids l).Nodup):
  aK 93 #[v,.func (.func 71) #[] #[]] w fun e w'=>
   e=.returned (.tuple #[])/\w'.ownsRow base 29 3 v n ((kD l).flatMap dw)/\ay (fun k=>v.ownBlock=some k) w w':=by
 rcases h.2 with⟨rfl,c⟩|⟨g,j,m,rfl,o,_⟩
 .subst c;obtain rfl:l=[]:=gU b;refine(qp none 0 _ w).mono ?_;rintro e w' ⟨a,rfl⟩;exact⟨a,by simpa[kD]using h,ay.refl _ _⟩
 .refine(Oj b i h hu).mono ?_;rintro e w' ⟨a,f,d⟩;exact⟨a,f,(ay.refl _ w).grown d (fun k e=>.inl e)⟩
end
section
open Go.RowKit Go.Sort Go.Shelf Go.Lib Go.Maps
structure vH (w:World) (lo fb n:Nat) (rv gv nv fv:Value) (l:List Pt):Prop where
 row:w.ownsRow lo 29 3 rv n (l.flatMap dw)
 Dr:w.ownsRow lo 4 1 gv n ((List.replicate n false).map Value.bool)
 iF:nJ w lo fb n fv
 Qb:lo<=fb
 jd:w.ownsRow lo 163 7 nv (aW n).length ((aW n).flatMap oM)
def Else (w:World) (S:Nat->Prop):Prop:=∀k,k<w.heap.size->S k->∃cs t fr,w.heap[k]? =some (.cells cs t fr)/\t≠29/\t≠4/\t≠236/\t≠163
theorem oW {S:Nat->Prop} {w w':World} {base:Nat} {e:TypeId} {sz:Nat} {v:Value} {n:Nat} {xs:List Value} (h:w.ownsRow base e sz v n xs) (K:ay S w w') (hS:∀k,k<w.heap.size->S k->∃cs t fr,w.heap[k]? =some (.cells cs t fr)/\t≠e):w'.ownsRow base e sz v n xs:=
 aU h K fun a b d=>by
  have⟨cs,t,fr,c,ht⟩:=hS a (h.lt a b).2 d;exact bg h c ht a b rfl
theorem vH.kept {S:Nat->Prop} {w w':World} {lo fb n:Nat} {o j m i:Value} {l:List Pt} (h:vH w lo fb n o j m i l) (K:ay S w w') (hS:Else w S):vH w' lo fb n o j m i l:=by
 refine⟨oW h.row K fun k g f=>?_,oW h.Dr K fun k g f=>?_,⟨bz K h.iF.blk fun f=>?_,oW h.iF.row K fun k g f=>?_⟩,h.Qb,oW h.jd K fun k g f=>?_⟩
 .obtain⟨cs,t,fr,a,b,c,d,e⟩:=hS k g f;exact⟨cs,t,fr,a,b⟩
 .obtain⟨cs,t,fr,a,b,c,d,e⟩:=hS k g f;exact⟨cs,t,fr,a,c⟩
 .have p:=(aY.1 h.iF.blk).1;have⟨cs,t,fr,a,b,c,d,e⟩:=hS fb p f;have:=a.symm.trans h.iF.blk;injection this with this;injection this with _ this _;exact d this
 .obtain⟨cs,t,fr,a,b,c,d,e⟩:=hS k g f;exact⟨cs,t,fr,a,e⟩
 .obtain⟨cs,t,fr,a,b,c,d,e⟩:=hS k g f;exact⟨cs,t,fr,a,e⟩
abbrev wS (rv xv gv:Value) (fb:Nat) (nv lv yv:Value) (n:Nat):Obj:=.cells #[rv,xv,gv,aj fb,nv,lv,yv,ae n] 146 (0,0)
theorem wT:gF 91:=dh func91 aN rfl
theorem mi:gF 95:=dh func95 aN rfl
theorem vI:gF 92:=dh func92 aN rfl
theorem LU:∃i,Tryz.prog.info? 4=some i/\i.zero=some (.bool false)/\i.size=1/\i.bytes=1:=by
 have h:(Tryz.prog.info? 4).map (fun i=>(i.zero,i.size,i.bytes))=some (some (.bool false),1,1):=aN;cases hi:Tryz.prog.info? 4 with
 |none=>rw[hi]at h;cases h
 |some i=>rw[hi]at h;injection h with h;injection h with b a;injection a with a c;exact⟨i,rfl,b,a,c⟩
theorem LV:∃i,Tryz.prog.info? 150=some i/\i.zero=some (.agg #[aL,aL])/\i.size=2/\i.bytes=48:=by
 have h:(Tryz.prog.info? 150).map (fun i=>(i.zero,i.size,i.bytes))=some (some (.agg #[aL,aL]),2,48):=aN;cases hi:Tryz.prog.info? 150 with
 |none=>rw[hi]at h;cases h
 |some i=>rw[hi]at h;injection h with h;injection h with b a;injection a with a c;exact⟨i,rfl,b,a,c⟩
theorem Ol (n:Nat) (d:n<=1000000) (W:World):(Instr.makeSlice 95 (.int .i64 n) (.int .i64 n)).run prog W=.ok (ax W.heap.size n n) (W.alloc (.cells (madeCells #[.bool false] n) 4)):=by
 have⟨i,hi,c,b,a⟩:=LU;have h:=run_make (P:=prog) W 95 4 i (.bool false) underlying95 hi c .i64 .i64 n n aa (vz _) (by rw[a];omega) aa;rw[h,ib,b,iN];rfl
theorem Om (n:Nat) (d:n<=1000000) (W:World):(Instr.makeSlice 144 (.int .i64 n) (.int .i64 n)).run prog W=.ok (ax W.heap.size n n) (W.alloc (.cells (madeCells #[aL,aL] (n*2)) 150)):=by
 have⟨i,hi,c,b,a⟩:=LV;have h:=run_make (P:=prog) W 144 150 i (.agg #[aL,aL]) underlying144 hi c .i64 .i64 n n aa (vz _) (by rw[a];omega) aa;rw[h,ib,b];rfl
theorem yB (W:World) (base n:Nat) (a:base<=W.heap.size) (b:n<=1000000):(W.alloc (.cells (madeCells #[.bool false] n) 4)).ownsRow base 4 1 (ax W.heap.size n n) n ((List.replicate n false).map Value.bool):=by
 have h:=World.ownsRow_lit (e:=4) (size:=1) W (madeCells #[.bool false] n) n a dI (by rw[size_madeCells,iN]);rwa [toList_madeCells_one,<-Ei]at h
theorem LW (W:World) (base n:Nat) (d:base<=W.heap.size) (f:n<=1000000):cB (W.alloc (.cells (madeCells #[aL,aL] (n*2)) 150)) base W.heap.size n n (fun _=>aL) (fun _=>aL):=by
 have h:=World.ownsRow_lit (e:=150) (size:=2) W (madeCells #[aL,aL] (n*2)) n d dI (by rw[size_madeCells]);have e:(madeCells #[aL,aL] (n*2)).toList=Oe (fun _=>aL) (fun _=>aL) n:=by
  apply xL;intro i;by_cases hi:i<n*2
  .have hd:i/2<n:=aa;have⟨a,b⟩:=tC (fun _=>aL) (fun _=>aL) hd;have c:(madeCells #[aL,aL] (n*2)).toList[i]? =some (aL):=by
    simp only[madeCells,Ij,Array.getElem?_map,Array.getElem?_range,hi,gN,fP];rcases D5 i with hm|hm<;>simp[hm]
   rw[c];rcases D5 i with hm|hm
   .rw[show i=i/2*2 by omega,a]
   .rw[show i=i/2*2+1 by omega,b]
  .rw[oz (by simp[size_madeCells];omega),oz (by rw[qz];omega)]
 rw[e]at h;exact h
theorem I7 {w3 a:World} {base fb n:Nat} {d m0:Int} {l:Value} {e:TypeId} {sz:Nat} {v:Value} {m:Nat} {xs:List Value} (h:w3.ownsRow base e sz v m xs) (f:e≠236) (i:w3.heap[fb]? =some (lq d m0 l n)) (j:ay (fun k=>k=fb) w3 a):a.ownsRow base e sz v m xs:=
 aU h j fun g b c=>bg h i (iO f) g b c.symm
theorem Oo {w w':World} {c:Nat} {f:Array MapEntry} {d:Nat} {base:Nat} {e:TypeId} {sz:Nat} {v:Value} {n:Nat} {xs:List Value} (h:w.ownsRow base e sz v n xs) (K:ay (fun k=>k=c) w w') (b:w.heap[c]? =some (.map f d)):w'.ownsRow base e sz v n xs:=
 aU h K fun o a j=>by
  subst j;rcases h.2 with⟨rfl,-⟩|⟨g,l,m,rfl,-,i,-⟩
  .cases a
  .injection a with a;subst a;rw[i]at b;cases b
theorem vH.Ut {w w':World} {f:Nat} {j:Array MapEntry} {i:Nat} {lo fb n:Nat} {g c d b:Value} {l:List Pt} (h:vH w lo fb n g c d b l) (K:ay (fun k=>k=f) w w') (a:w.heap[f]? =some (.map j i)):vH w' lo fb n g c d b l:=
 ⟨Oo h.row K a,Oo h.Dr K a,⟨bz K h.iF.blk (fun e=>by subst e;have m:=h.iF.blk.symm.trans a;cases m),Oo h.iF.row K a⟩,h.Qb,Oo h.jd K a⟩
def dQ (R:List Pt):List Nat:=(kD R).map fun p=>R.idxOf p
theorem QC {R:List Pt} {i:Nat} (hi:i<(dQ R).length):bU R (dQ R)[i]=(kD R)[i]'(by simpa[dQ]using hi):=by
 have a:i<(kD R).length:=by simpa[dQ]using hi
 have c:(kD R)[i]∈R:=(jV R _).1 (bG a);have b:=H7 c;simp only[dQ,fM,bU];rw[ja,bZ b];simp
theorem jW (R:List Pt):(dQ R).length=R.length:=by simp[dQ,(iY R).length_eq]
theorem Bo {R:List Pt} {p:Pt} (h:p∈R):bU R (R.idxOf p)=p:=by
 have a:=H7 h;simp only[bU];rw[ja,bZ a];simp
theorem qB {R:List Pt} (g:R.Pairwise kH) (hu:(ids R).Nodup):cz R (List.replicate R.length false) (dQ R):=by
 have f:R.Nodup:=g.imp fun{a b} h e=>by subst e;exact qh _ h
 have j:(kD R).Nodup:=(iY R).nodup_iff.2 f;refine⟨g,hu,aA,?_,fun i=>?_,?_⟩
 .unfold dQ;refine dm.2 (zV (fun{p q} hp c h e=>h ?_) j);rw[<-Bo ((jV R p).1 hp),<-Bo ((jV R q).1 c),e]
 .rw[ru];constructor
  .intro h;unfold dQ at h;obtain⟨p,hp,rfl⟩:=cu.1 h;rw[aO (H7 ((jV R p).1 hp))]
  .intro h;have hi:i<R.length:=by
    by_cases d:i<R.length
    .exact d
    .rw[aM d]at h;cases h
   unfold dQ;refine cu.2 ⟨R[i],(jV R _).2 (bG hi),?_⟩;exact List.Nodup.idxOf_getElem f i hi
 .unfold dQ;refine dm.2 (zV (fun{p q} hp c h=>?_) (zl hu));rw[Bo ((jV R p).1 hp),Bo ((jV R q).1 c)];exact h
theorem fI {j:Nat} (h:0<j):aW j=(dN 0 j).nodes 0:=by unfold aW;rw[aM aa]
theorem kV {j:Nat} {t:FT} {s:Nat} (h:FT.At (aW j) t s):0<j:=by
 have:=h.lt;rw[cZ]at this;omega
theorem lu {j:Nat} (h:0<j):(dN 0 j).root 0=2*j-2:=by
 have:=fq 0 j h;unfold FT.root;omega
theorem tH {j k:Nat} (h:k<(aW j).length):∃t s,FT.At (aW j) t s/\t.root s=k:=by
 have b:0<j:=by rw[cZ]at h;omega
 have a:=jU j b;rw[fI b]at h a |-;rw[FT.iD]at h;have c:k<((dN 0 j).subs 0).length:=by rw[FT.fw];exact h
 exact⟨_,_,FT.kS _ 0 a _ (bG c),by rw[FT.oV];omega⟩
abbrev Uu (t:FT) (s:Nat) (l r:FT) (q:Nat):Prop:=(t=l/\s=q)\/(t=r/\s=q+l.size)
structure yC (w:World) (B j:Nat) (R:List Pt) (YS:List Nat) (m:Nat) (LN LL:Nat->Value):Prop where
 Uv:∀t s,FT.At (aW j) t s->(t.root s=2*j-2\/∃l r q,FT.At (aW j) (.node l r) q/\m<=(FT.node l r).root q/\Uu t s l r q)->w.ownsRow B 27 1 (LN (t.root s)) (nl YS t).length (((nl YS t).map (jI R)).map (Value.int .u32))
 emp:∀l r q,FT.At (aW j) (.node l r) q->(FT.node l r).root q<m->LN (l.root q)=aL/\LN (r.root (q+l.size))=aL
 AY:∀l r q,FT.At (aW j) (.node l r) q->m<=(FT.node l r).root q->w.ownsRow B 3 1 (LL ((FT.node l r).root q)) (lf l.hi (nl YS (.node l r))).length ((lf l.hi (nl YS (.node l r))).map (Value.int .i64))
 Dm:∀k,k<(aW j).length->m<=k->(∃a n c,LL k=.slice a n c)/\∀g,(LL k).ownBlock=some g->B<=g/\g<w.heap.size
 nil:∀k,k<m->LL k=aL
 QD:∀k,k<(aW j).length->∀g,(LN k).ownBlock=some g->B<=g/\g<w.heap.size
 HY:∀i k,i<(aW j).length->k<(aW j).length->i≠k->∀g,(LN i).ownBlock=some g->(LN k).ownBlock≠some g
 Gc:∀i k,i<(aW j).length->k<(aW j).length->i≠k->∀g,(LL i).ownBlock=some g->(LL k).ownBlock≠some g
section
variable {w w':World} {B base gl n c j k:Nat} {R:List Pt} {YS:List Nat} {LN LL:Nat->Value}
theorem yC.leaf (h:yC w B j R YS (k+1) LN LL) (G:cB w base gl n c LN LL) {a s:Nat} (H:FT.At (aW j) (.leaf a) s) (I:(FT.leaf a).root s=k) (C:ay (fun b=>b=gl) w w') (O:B<=w.heap.size) {vf:Value} (M:∃a m c,vf=.slice a m c) (D:∀g,vf.ownBlock=some g->w.heap.size<=g/\g<w'.heap.size):
  yC w' B j R YS k LN (upd LL k vf):=by
 have J:∀l r q,FT.At (aW j) (.node l r) q->k<=(FT.node l r).root q->k+1<=(FT.node l r).root q:=fun l r q d f=>by
  by_cases e:(FT.node l r).root q=k
  .have:=(FT.At.unique H d (by rw[I,e])).1;cases this
  .omega
 have P:k<(aW j).length:=I▸H.lt;have S:=C.size;refine⟨fun t N d f=>?_,fun l r q d f=>h.emp l r q d aa,fun l r q d f=>?_,fun i d f=>?_,fun i d=>?_,fun i d g f=>?_,h.HY,fun i E d f o g p v=>?_⟩
 .have o:=h.Uv t N d (f.imp id fun⟨l,r,q,x,y,L⟩=>⟨l,r,q,x,J l r q x y,L⟩);exact aU o C fun g z A=>bu G o ai g (by rw[A];rfl) z
 .have p:=J l r q d f;have o:=h.AY l r q d p;rw[upd_ne aa];exact aU o C fun g z A=>bu G o ai g (by rw[A];rfl) z
 .by_cases e:i=k
  .subst e;rw[upd_same];exact⟨M,fun g u=>by have:=D g u;omega⟩
  .rw[upd_ne e];have⟨x,y⟩:=h.Dm i d aa;exact⟨x,fun g u=>by have:=y g u;omega⟩
 .rw[upd_ne aa];exact h.nil i aa
 .have:=h.QD i d g f;omega
 .have K:∀i,i<(aW j).length->i≠k->∀g,(LL i).ownBlock=some g->g<w.heap.size:=fun i hi Q g u=>by
   by_cases e:i<k
   .rw[h.nil i aa]at u;cases u
   .exact((h.Dm i hi aa).2 g u).2
  by_cases e:i=k
  .subst e;rw[upd_same]at p;rw[upd_ne (iO o)]at v;have:=K E f (iO o) g v;have:=D g p;omega
  .rw[upd_ne e]at p;by_cases F:E=k
   .subst F;rw[upd_same]at v;have:=K i d e g p;have:=D g v;omega
   .rw[upd_ne F]at v;exact h.Gc i E d f o g p v
theorem yC.node (h:yC w B j R YS (k+1) LN LL) (W:cB w base gl n c LN LL) {l r:FT} {s:Nat} (H:FT.At (aW j) (.node l r) s) (af:(FT.node l r).wf) (X:(FT.node l r).root s=k) (M:ay (fun b=>b=gl) w w') (L:B<=w.heap.size) {vl vr vf:Value}
  (ab:w'.ownsRow w.heap.size 27 1 vl ((nl YS (.node l r)).filter fun i=>decide (i<l.hi)).length ((((nl YS (.node l r)).filter fun i=>decide (i<l.hi)).map (jI R)).map (Value.int .u32)))
  (ad:w'.ownsRow w.heap.size 27 1 vr ((nl YS (.node l r)).filter fun i=>!decide (i<l.hi)).length ((((nl YS (.node l r)).filter fun i=>!decide (i<l.hi)).map (jI R)).map (Value.int .u32)))
  (P:w'.ownsRow w.heap.size 3 1 vf (lf l.hi (nl YS (.node l r))).length ((lf l.hi (nl YS (.node l r))).map (Value.int .i64))) (O:∀g,vl.ownBlock=some g->vr.ownBlock≠some g):
  yC w' B j R YS k (upd (upd LN (l.root s) vl) (r.root (s+l.size)) vr) (upd LL k vf):=by
 have J:=kV H;have an:=FT.wJ l r s;have ao:=H.left.lt;have ap:=H.right.lt;have N:=FT.zf (fI J▸H);rw[lu J]at N;have Z:∀l' f q,FT.At (aW j) (.node l' f) q->(FT.node l' f).root q=k->l'=l/\f=r/\q=s:=fun l' f q d a=>by
  have⟨C,u⟩:=FT.At.unique d H (by rw[a,X]);cases C;exact⟨rfl,rfl,u⟩
 have Y:∀l' f q,FT.At (aW j) (.node l' f) q->(FT.node l' f).root q≠k->l'.root q≠l.root s/\l'.root q≠r.root (s+l.size)/\f.root (q+l'.size)≠l.root s/\f.root (q+l'.size)≠r.root (s+l.size):=fun l' f q d a=>by
  have hu:=fun e=>a ((FT.I1 (fI J▸d) (fI J▸H) e).trans X);exact⟨fun e=>hu (.inl e),fun e=>hu (.inr (.inl e)),fun e=>hu (.inr (.inr (.inl e))),fun e=>hu (.inr (.inr (.inr e)))⟩
 have aq:=M.size;have ac:=ab.lt;have ae:=ad.lt;have Q:=P.lt;have S:∀{v:Value} {m:Nat} {xs:List Value},w.ownsRow B 27 1 v m xs->w'.ownsRow B 27 1 v m xs:=fun p=>aU p M fun g C u=>bu W p ai g (by rw[u];rfl) C;have ak:∀{v:Value} {m:Nat} {xs:List Value},w.ownsRow B 3 1 v m xs->w'.ownsRow B 3 1 v m xs:=fun p=>aU p M fun g C u=>bu W p ai g (by rw[u];rfl) C;refine⟨fun t ah d a=>?_,fun l' f q d a=>?_,fun l' f q d a=>?_,fun i d a=>?_,fun i d=>?_,fun i d g a=>?_,fun i I d a p g D A=>?_,fun i I d a p g D A=>?_⟩
 .rcases a with a|⟨l',f,q,x,z,E⟩
  .rw[a,upd_ne (iO N.2),upd_ne (iO N.1),<-a];exact S (h.Uv t ah d (.inl a))
  .by_cases e:(FT.node l' f).root q=k
   .obtain⟨rfl,rfl,rfl⟩:=Z l' f q x e;rcases E with⟨rfl,rfl⟩|⟨rfl,rfl⟩
    .rw[upd_ne aa,upd_same,sQ YS t f af];exact bJ ab L
    .rw[upd_same,oI YS l' t af];exact bJ ad L
   .obtain⟨F,y,G,K⟩:=Y l' f q x e;have p:=h.Uv t ah d (.inr ⟨l',f,q,x,aa,E⟩);rcases E with⟨rfl,rfl⟩|⟨rfl,rfl⟩
    .rw[upd_ne y,upd_ne F];exact S p
    .rw[upd_ne K,upd_ne G];exact S p
 .obtain⟨F,y,G,K⟩:=Y l' f q d aa;have⟨T,aj⟩:=h.emp l' f q d aa;rw[upd_ne y,upd_ne F,upd_ne K,upd_ne G];exact⟨T,aj⟩
 .by_cases e:(FT.node l' f).root q=k
  .obtain⟨rfl,rfl,rfl⟩:=Z l' f q d e;rw[e,upd_same];exact bJ P L
  .rw[upd_ne e];exact ak (h.AY l' f q d aa)
 .by_cases e:i=k
  .subst e;rw[upd_same];have⟨x,T,C⟩:=fF P;exact⟨⟨_,_,_,C⟩,fun g o=>by have:=Q g o;omega⟩
  .rw[upd_ne e];have⟨x,z⟩:=h.Dm i d aa;exact⟨x,fun g o=>by have:=z g o;omega⟩
 .rw[upd_ne aa];exact h.nil i aa
 .by_cases e:i=r.root (s+l.size)
  .subst e;rw[upd_same]at a;have:=ae g a;omega
  .rw[upd_ne e]at a;by_cases u:i=l.root s
   .subst u;rw[upd_same]at a;have:=ac g a;omega
   .rw[upd_ne u]at a;have:=h.QD i d g a;omega
 .have U:∀i,i<(aW j).length->∀g,(upd (upd LN (l.root s) vl) (r.root (s+l.size)) vr i).ownBlock=some g->(i=r.root (s+l.size)/\vr.ownBlock=some g/\w.heap.size<=g)\/(i=l.root s/\vl.ownBlock=some g/\w.heap.size<=g)\/(i≠l.root s/\i≠r.root (s+l.size)/\(LN i).ownBlock=some g/\g<w.heap.size):=fun i hi g o=>by
   by_cases e:i=r.root (s+l.size)
   .subst e;rw[upd_same]at o;exact .inl ⟨rfl,o,(ae g o).1⟩
   .rw[upd_ne e]at o;by_cases u:i=l.root s
    .subst u;rw[upd_same]at o;exact .inr (.inl ⟨rfl,o,(ac g o).1⟩)
    .rw[upd_ne u]at o;exact .inr (.inr ⟨u,e,o,(h.QD i hi g o).2⟩)
  rcases U i d g D with⟨x,z,E⟩|⟨x,z,E⟩|⟨al,x,z,E⟩<;>rcases U I a g A with⟨F,y,G⟩|⟨F,y,G⟩|⟨am,F,y,G⟩
  .omega
  .exact O g y z
  .omega
  .exact O g z y
  .omega
  .omega
  .omega
  .omega
  .exact h.HY i I d a p g z y
 .have ag:∀i,i<(aW j).length->i≠k->∀g,(LL i).ownBlock=some g->g<w.heap.size:=fun i hi O g o=>by
   by_cases e:i<k
   .rw[h.nil i aa]at o;cases o
   .exact((h.Dm i hi aa).2 g o).2
  by_cases e:i=k
  .subst e;rw[upd_same]at D;rw[upd_ne (iO p)]at A;have:=ag I a (iO p) g A;have:=Q g D;omega
  .rw[upd_ne e]at D;by_cases V:I=k
   .subst V;rw[upd_same]at A;have:=ag i d e g D;have:=Q g A;omega
   .rw[upd_ne V]at A;exact h.Gc i I d a p g D A
theorem yC.cur (h:yC w B j R YS (k+1) LN LL) {t:FT} {s:Nat} (a:FT.At (aW j) t s) (c:k<=t.root s):w.ownsRow B 27 1 (LN (t.root s)) (nl YS t).length (((nl YS t).map (jI R)).map (Value.int .u32)):=by
 have b:=kV a;refine h.Uv t s a ?_;rcases FT.N9 (fI b▸a)with⟨rfl,rfl⟩|⟨l,r,q,h1,h2⟩
 .exact .inl (lu b)
 .refine .inr ⟨l,r,q,fI b▸h1,?_,h2⟩;have:=FT.wJ l r q;rcases h2 with⟨rfl,rfl⟩|⟨rfl,rfl⟩<;>omega
theorem yC.all (h:yC w B j R YS 0 LN LL) {t:FT} {s:Nat} (a:FT.At (aW j) t s):w.ownsRow B 27 1 (LN (t.root s)) (nl YS t).length (((nl YS t).map (jI R)).map (Value.int .u32)):=by
 have b:=kV a;refine h.Uv t s a ?_;rcases FT.N9 (fI b▸a)with⟨rfl,rfl⟩|⟨l,r,q,h1,h2⟩
 .exact .inl (lu b)
 .exact .inr ⟨l,r,q,fI b▸h1,bH _,h2⟩
end
end
end Go.Proofs.YtkjdbndekceffaaGreat
