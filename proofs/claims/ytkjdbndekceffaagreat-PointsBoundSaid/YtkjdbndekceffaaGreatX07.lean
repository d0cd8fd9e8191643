/- Made small by a program. -/
import Derived.Test.YtkjdbndekceffaaGreatX05
set_option linter.unusedSimpArgs false
set_option linter.unusedVariables false
set_option maxRecDepth 100000
set_option maxHeartbeats 16000000
namespace Go.Proofs.YtkjdbndekceffaaGreat
open Tryz
section
open Go
namespace FT
theorem At.unique {N:List Nd}:∀{t b:FT} {s c:Nat},At N t s->At N b c->t.root s=b.root c->t=b/\s=c
 |leaf a,b,s,c,h,h',e=>by
  have g:=h.get;rw[e,h'.get]at g;injection g with g;cases b with
  |leaf a'=>
   simp only[top,Nd.mk.injEq]at g;obtain⟨-,-,-,k,-⟩:=g;have d:a'=a:=aa;subst d;unfold root at e;simp only[size]at e;exact⟨rfl,aa⟩
  |node l r=>
   simp only[top,Nd.mk.injEq]at g;omega
 |node l r,b,s,c,h,h',e=>by
  have g:=h.get;rw[e,h'.get]at g;injection g with g;cases b with
  |leaf a'=>
   simp only[top,Nd.mk.injEq]at g;omega
  |node l' f=>
   simp only[top,Nd.mk.injEq]at g;obtain⟨-,i,j,-⟩:=g;have m:=l.size_pos;have n:=l'.size_pos;have o:=r.size_pos;have p:=f.size_pos;obtain⟨rfl,rfl⟩:=At.unique h.left h'.left (by unfold root;omega);obtain⟨rfl,-⟩:=At.unique h.right h'.right (by unfold root;omega);exact⟨rfl,rfl⟩
def subs:FT->Nat->List (FT×Nat)
 |leaf a,s=>[(leaf a,s)]
 |node l r,s=>l.subs s++r.subs (s+l.size)++[(node l r,s)]
theorem fD:∀(t:FT) (s:Nat),(t.subs s).length=t.size
 |leaf a,s=>rfl
 |node l r,s=>by simp only[subs,size,bS,fD l,fD r,eu,fF]
theorem oV:∀(t:FT) (s i:Nat) (h:i<(t.subs s).length),(t.subs s)[i].1.root (t.subs s)[i].2=s+i
 |leaf a,s,i,h=>by
  have:i=0:=by simpa[subs]using h
  subst this;simp[subs,root,size]
 |node l r,s,i,h=>by
  have h':=h;rw[fD]at h';simp only[subs];by_cases b:i<l.size
  .rw[qJ (by rw[bS,fD,fD];omega),qJ (by rw[fD];exact b)];exact oV l s i _
  .by_cases d:i<l.size+r.size
   .rw[qJ (by rw[bS,fD,fD];omega),wu (by rw[fD];omega)];have c:=oV r (s+l.size) (i-(l.subs s).length) (by rw[fD,fD];omega);rw[c,fD];omega
   .simp only[size]at h';rw[wu (by rw[bS,fD,fD];omega)];simp only[List.getElem_singleton];unfold root;simp only[size];omega
theorem kW {N:List Nd}:∀(t:FT) (s:Nat),At N t s->∀p∈t.subs s,At N p.1 p.2
 |leaf a,s,h,p,hp=>by
  have:p=(leaf a,s):=by simpa[subs]using hp
  subst this;exact h
 |node l r,s,h,p,hp=>by
  simp only[subs,bT,l5]at hp;rcases hp with(hp|hp)|hp
  .exact kW l s h.left p hp
  .exact kW r _ h.right p hp
  .subst hp;exact h
theorem at_mem {t:FT} {b:FT} {a:Nat} (h:At (t.nodes 0) b a):(b,a)∈t.subs 0:=by
 have j:At (t.nodes 0) t 0:=⟨[],[],ay,rfl⟩;have d:=h.lt;rw[iF]at d;have c:b.root a<(t.subs 0).length:=by rw[fD];exact d
 have g:=oV t 0 _ c;have i:=kW t 0 j _ (bF c);have⟨e,f⟩:=At.unique h i (by rw[g];omega);have:(b,a)=(t.subs 0)[b.root a]:=Prod.ext e f;rw[this];exact bF c
theorem BF:∀(t:FT) (s:Nat),∀p∈t.subs s,p=(t,s)\/∃l r q,(node l r,q)∈t.subs s/\(p=(l,q)\/p=(r,q+l.size))
 |leaf a,s,p,hp=>.inl (by simpa[subs]using hp)
 |node l r,s,p,hp=>by
  simp only[subs,bT,l5]at hp |-;rcases hp with(hp|hp)|hp
  .rcases BF l s p hp with h|⟨l',d,q,b,c⟩
   .exact .inr ⟨l,r,s,.inr rfl,.inl h⟩
   .exact .inr ⟨l',d,q,.inl (.inl b),c⟩
  .rcases BF r _ p hp with h|⟨l',d,q,b,c⟩
   .exact .inr ⟨l,r,s,.inr rfl,.inr h⟩
   .exact .inr ⟨l',d,q,.inl (.inr b),c⟩
  .exact .inl hp
def pars:FT->Nat->Nat->List Nat
 |leaf _,_,p=>[p]
 |node l r,s,p=>l.pars s ((node l r).root s)++r.pars (s+l.size) ((node l r).root s)++[p]
theorem iV:∀(t:FT) (s p:Nat),(t.pars s p).length=t.size
 |leaf a,s,p=>rfl
 |node l r,s,p=>by simp only[pars,size,bS,iV l,iV r,eu,fF]
theorem DT:∀(t:FT) (s p:Nat),(t.pars s p)[t.root s-s]? =some p
 |leaf a,s,p=>by simp[pars,root,size]
 |node l r,s,p=>by
  have e:(node l r).root s-s=l.size+r.size:=by unfold root;simp only[size];omega
  rw[e];simp only[pars];rw[nD (by rw[bS,iV,iV];omega),bS,iV,iV,iR];rfl
theorem tL:∀(t:FT) (s:Nat),∀p∈t.subs s,s<=p.2/\p.2+p.1.size<=s+t.size
 |leaf a,s,p,hp=>by
  have:p=(leaf a,s):=by simpa[subs]using hp
  subst this;exact⟨aB _,aB _⟩
 |node l r,s,p,hp=>by
  simp only[subs,bT,l5]at hp;simp only[size];rcases hp with(hp|hp)|hp
  .have:=tL l s p hp;omega
  .have:=tL r _ p hp;omega
  .subst hp;simp only[size];omega
theorem Jp {l r:FT} {s p i:Nat} (h:i<l.size):((node l r).pars s p)[i]? =(l.pars s ((node l r).root s))[i]? :=by
 simp only[pars];rw[ed,lW (by rw[iV];exact h)]
theorem Jq {l r:FT} {s p i:Nat} (a:l.size<=i) (h:i<l.size+r.size):((node l r).pars s p)[i]? =(r.pars (s+l.size) ((node l r).root s))[i-l.size]? :=by
 simp only[pars];rw[lW (by rw[bS,iV,iV];exact h),nD (by rw[iV];exact a),iV]
theorem wO:∀(t:FT) (s p:Nat) (l r:FT) (q:Nat),(node l r,q)∈t.subs s->(t.pars s p)[l.root q-s]? =some ((node l r).root q)/\(t.pars s p)[r.root (q+l.size)-s]? =some ((node l r).root q)
 |leaf a,s,p,l,r,q,h=>by simp[subs]at h
 |node b e,s,p,l,r,q,h=>by
  simp only[subs,bT,l5]at h;have pl:=l.size_pos;have k:=r.size_pos;have j:=b.size_pos;have m:=e.size_pos;have g:l.root q=q+l.size-1:=rfl;have i:r.root (q+l.size)=q+l.size+r.size-1:=rfl;rcases h with(h|h)|h
  .obtain⟨c,d⟩:=wO b s ((node b e).root s) l r q h;have f:=tL b s _ h;simp only[size]at f;rw[Jp aa,Jp aa];exact⟨c,d⟩
  .obtain⟨c,d⟩:=wO e _ ((node b e).root s) l r q h;have f:=tL e _ _ h;simp only[size]at f;rw[Jq aa aa,Jq aa aa];rw[show l.root q-s-b.size=l.root q-(s+b.size) by omega,show r.root (q+l.size)-s-b.size=r.root (q+l.size)-(s+b.size) by omega];exact⟨c,d⟩
  .simp only[uY,node.injEq]at h;obtain⟨⟨rfl,rfl⟩,rfl⟩:=h;have c:=DT l q ((node l r).root q);have d:=DT r (q+l.size) ((node l r).root q);rw[Jp aa,Jq aa aa];rw[show r.root (q+l.size)-q-l.size=r.root (q+l.size)-(q+l.size) by omega];exact⟨c,d⟩
theorem Jr {t l r l' d:FT} {q c:Nat} (h:At (t.nodes 0) (node l r) q) (h':At (t.nodes 0) (node l' d) c)
  (e:l.root q=l'.root c\/l.root q=d.root (c+l'.size)\/r.root (q+l.size)=l'.root c\/r.root (q+l.size)=d.root (c+l'.size)):(node l r).root q=(node l' d).root c:=by
 have⟨a,b⟩:=wO t 0 0 l r q (at_mem h);have⟨f,g⟩:=wO t 0 0 l' d c (at_mem h');rcases e with e|e|e|e
 .rw[e,f]at a;injection a with a;exact a.symm
 .rw[e,g]at a;injection a with a;exact a.symm
 .rw[e,f]at b;injection b with b;exact b.symm
 .rw[e,g]at b;injection b with b;exact b.symm
theorem wP (l r:FT) (q:Nat):l.root q<r.root (q+l.size)/\r.root (q+l.size)<(node l r).root q:=by
 have:=l.size_pos;have:=r.size_pos;unfold root;simp only[size];omega
theorem zy {t l r:FT} {q:Nat} (h:At (t.nodes 0) (node l r) q):l.root q≠t.root 0/\r.root (q+l.size)≠t.root 0:=by
 have a:=tL t 0 _ (at_mem h);simp only[size]at a;have:=r.size_pos;unfold root;omega
theorem Om {t b:FT} {a:Nat} (h:At (t.nodes 0) b a):(b=t/\a=0)\/∃l r q,At (t.nodes 0) (node l r) q/\((b=l/\a=q)\/(b=r/\a=q+l.size)):=by
 have c:At (t.nodes 0) t 0:=⟨[],[],ay,rfl⟩;rcases BF t 0 _ (at_mem h)with h1|⟨l,r,q,h1,h2⟩
 .simp only[uY]at h1;exact .inl h1
 .refine .inr ⟨l,r,q,kW t 0 c _ h1,?_⟩;simpa only[uY]using h2
theorem qw:∀(t:FT) (s:Nat),t.wf->∀p∈t.subs s,p.1.wf
 |leaf a,s,h,p,hp=>by
  have:p=(leaf a,s):=by simpa[subs]using hp
  subst this;exact h
 |node l r,s,h,p,hp=>by
  simp only[subs,bT,l5]at hp;rcases hp with(hp|hp)|hp
  .exact qw l s h.1 p hp
  .exact qw r _ h.2.1 p hp
  .subst hp;exact h
theorem Af:∀(t:FT) (s:Nat),t.wf->∀p∈t.subs s,p.1.hi<=t.hi
 |leaf a,s,h,p,hp=>by
  have:p=(leaf a,s):=by simpa[subs]using hp
  subst this;exact aB _
 |node l r,s,h,p,hp=>by
  simp only[subs,bT,l5]at hp;have b:=fe r h.2.1;have c:=h.2.2;show _<=r.hi;rcases hp with(hp|hp)|hp
  .have:=Af l s h.1 p hp;omega
  .exact Af r _ h.2.1 p hp
  .subst hp;exact aB _
end FT
def dZ (YS:List Nat) (x:Nat):List Nat:=YS.filter fun i=>decide (i≠x)
theorem erase_filter {L:List Nat} (c:L.Nodup) {i x:Nat} (hi:i<L.length) (b:L[i]=x):L.eraseIdx i=L.filter fun k=>decide (k≠x):=by
 induction L generalizing i with
 |nil=>simp at hi
 |cons a L ih=>
  rw[mO]at c;cases i with
  |zero=>
   simp only[nE]at b;subst b;rw[List.eraseIdx_cons_zero,Ap ay];symm;refine lY.2 fun k e=>?_;simp only[bQ];rintro rfl;exact c.1 e
  |succ i=>
   simp only[uH]at b;have d:i<L.length:=aQ hi;rw[List.eraseIdx_cons_succ,IM,ih c.2 d b];simp only[bQ];rintro rfl;exact c.1 (b▸bF d)
theorem KP (YS:List Nat) (x:Nat) (t:FT):nl (dZ YS x) t=(nl YS t).filter fun k=>decide (k≠x):=by
 unfold nl dZ;rw[rD,rD];refine qQ fun k _=>?_;rw[Bool.and_comm]
theorem wQ {YS:List Nat} {x:Nat} {t:FT} (h:¬(t.lo<=x/\x<t.hi)):nl (dZ YS x) t=nl YS t:=by
 rw[KP];refine lY.2 fun k a=>?_;have:=(bG.1 a).2;simp only[bQ]at this |-;rintro rfl;exact h this
theorem Mf {YS:List Nat} (a:YS.Nodup) {x i:Nat} {t:FT} (hi:i<(nl YS t).length) (b:(nl YS t)[i]=x):nl (dZ YS x) t=(nl YS t).eraseIdx i:=by
 rw[KP];exact(erase_filter (L:=nl YS t) (show(nl YS t).Nodup from lX _ a) hi b).symm
section
variable {m:Nat} {L:List Nat} {i x:Nat}
theorem tN (hi:i<L.length):((lf m L).eraseIdx (i+1)).length=L.length:=by
 rw[Ar,rZ,aO aa];omega
theorem wR (hi:i<L.length):(lf m (L.eraseIdx i)).length=L.length:=by
 rw[rZ,Ar,aO hi];omega
theorem Db {j:Nat} (a:j<=i):(L.eraseIdx i).take j=L.take j:=by
 by_cases h:i<L.length
 .rw[xL,Ef (by rw[eH];omega),Bd,Nat.min_eq_left a]
 .rw[List.eraseIdx_of_length_le aa]
theorem UQ (hi:i<L.length) {j:Nat} (a:j<=i) (b:j<((lf m L).eraseIdx (i+1)).length) (c:j<(lf m (L.eraseIdx i)).length):((lf m L).eraseIdx (i+1))[j]=(lf m (L.eraseIdx i))[j]:=by
 rw[List.getElem_eraseIdx,dif_pos aa,qc,qc,Db a]
theorem UR (hi:i<L.length) (e:L[i]=x) {j:Nat} (k:i<j) (f:j<((lf m L).eraseIdx (i+1)).length) (g:j<(lf m (L.eraseIdx i)).length):((lf m L).eraseIdx (i+1))[j]-(if x<m then 1 else 0)=(lf m (L.eraseIdx i))[j]:=by
 have a:(L.take (j+1)).countP (fun i=>decide (i<m))=((L.eraseIdx i).take j).countP (fun i=>decide (i<m))+(if x<m then 1 else 0):=by
  have b:(L.eraseIdx i).take j=(L.take (j+1)).eraseIdx i:=by
   rw[xL,xL,List.take_append,Bd,eH,Bd,List.drop_take];rw[show min j i=i by omega,show min i (j+1)=i by omega,show j-min i L.length=j+1-(i+1) by omega]
  rw[b,xL,List.countP_append];have l:i<(L.take (j+1)).length:=by rw[eH];omega
  have c:L.take (j+1)=(L.take (j+1)).take i++x::(L.take (j+1)).drop (i+1):=by
   have d:(L.take (j+1))[i]=x:=by rw[xZ];exact e
   rw[<-d,List.getElem_cons_drop,jJ]
  conv=>lhs;rw[c]
  rw[List.countP_append,uT];by_cases h:x<m<;>simp[h]<;>omega
 rw[List.getElem_eraseIdx,dif_neg aa,qc,qc,a];split<;>simp
theorem QT (hi:i<L.length) (a:L[i]=x) (b:i+1<(lf m L).length) (c:i<(lf m L).length):(lf m L)[i+1]-(lf m L)[i]=if x<m then 1 else 0:=by
 rw[qc,qc,ic hi,List.countP_append,a];by_cases h:x<m<;>simp[h]<;>omega
def zR (m:Nat) (L:List Nat) (i j:Nat):List Int:=(lf m (L.eraseIdx i)).take j++((lf m L).eraseIdx (i+1)).drop j
theorem Mg (hi:i<L.length):zR m L i (i+1)=(lf m L).eraseIdx (i+1):=by
 have b:=tN (m:=m) hi;have c:=wR (m:=m) hi;unfold zR;have e:(lf m (L.eraseIdx i)).take (i+1)=((lf m L).eraseIdx (i+1)).take (i+1):=by
  refine rH (by simp[b,c]) fun j a d=>?_;rw[xZ,xZ];rw[eH]at a;exact(UQ hi aa _ _).symm
 rw[e,jJ]
theorem Oo (hi:i<L.length):zR m L i L.length=lf m (L.eraseIdx i):=by
 have a:=tN (m:=m) hi;have b:=wR (m:=m) hi;unfold zR;rw[kD aa,oC aa,iP]
theorem qx (hi:i<L.length) {j:Nat} (c:j<=L.length):(zR m L i j).length=L.length:=by
 have a:=tN (m:=m) hi;have b:=wR (m:=m) hi;unfold zR;rw[bS,eH,lM];omega
theorem KQ (hi:i<L.length) {j:Nat} (a:j<L.length):(zR m L i j)[j]'(by rw[qx hi aa];exact a)=((lf m L).eraseIdx (i+1))[j]'(by rw[tN hi];exact a):=by
 have b:=wR (m:=m) hi;simp only[zR];rw[wu (by rw[eH];omega),List.getElem_drop];congr 1;rw[eH];omega
theorem Oq (hi:i<L.length) (c:L[i]=x) {j:Nat} (b:i<j) (a:j<L.length):(zR m L i j).set j ((zR m L i j)[j]'(by rw[qx hi aa];exact a)-(if x<m then 1 else 0))=zR m L i (j+1):=by
 have d:=tN (m:=m) hi;have e:=wR (m:=m) hi;rw[KQ hi a,UR hi c b aa aa];unfold zR;rw[uu _ _ (by rw[eH];omega),eH,show j-min j (lf m (L.eraseIdx i)).length=0 by omega];rw[ic aa,ed];congr 1;rw[mJ aa];rfl
end
namespace FT
theorem sD:∀(t:FT) (s:Nat),t.wf->∀p∈t.subs s,t.lo<=p.1.lo/\p.1.hi<=t.hi
 |leaf a,s,h,p,hp=>by
  have:p=(leaf a,s):=by simpa[subs]using hp
  subst this;exact⟨aB _,aB _⟩
 |node l r,s,h,p,hp=>by
  simp only[subs,bT,l5]at hp;have b:=fe r h.2.1;have d:=fe l h.1;have c:=h.2.2;show l.lo<=_/\_<=r.hi;rcases hp with(hp|hp)|hp
  .have:=sD l s h.1 p hp;omega
  .have:=sD r _ h.2.1 p hp;omega
  .subst hp;exact⟨aB _,aB _⟩
theorem wS:∀(t:FT) (s x:Nat),t.wf->∀p∈t.subs s,p.1.lo<=x->x<p.1.hi->p.1.root p.2∈t.path s x
 |leaf a,s,x,h,p,hp,b,c=>by
  have:p=(leaf a,s):=by simpa[subs]using hp
  subst this;simp[path,root,size]
 |node l r,s,x,h,p,hp,b,c=>by
  simp only[subs,bT,l5]at hp;rw[path];rcases hp with(hp|hp)|hp
  .have:=sD l s h.1 p hp;rw[aO aa];exact lh _ (wS l s x h.1 p hp b c)
  .have:=sD r _ h.2.1 p hp;have:=h.2.2;rw[aN aa];exact lh _ (wS r _ x h.2.1 p hp b c)
  .subst hp;exact nT
theorem ng:∀(t:FT) (s x:Nat),t.wf->t.lo<=x->x<t.hi->∀k∈t.path s x,∃p∈t.subs s,p.1.root p.2=k/\p.1.lo<=x/\x<p.1.hi
 |leaf a,s,x,h,b,c,k,hk=>by
  have:k=s:=by simpa[path]using hk
  subst this;exact⟨(leaf a,k),by simp[subs],by simp[root,size],b,c⟩
 |node l r,s,x,h,b,c,k,hk=>by
  rw[path,gZ]at hk;have f:=h.2.2;rcases hk with rfl|hk
  .exact⟨(node l r,s),by simp[subs],rfl,b,c⟩
  .split at hk
   .rename_i d;have⟨p,hp,e⟩:=ng l s x h.1 b d k hk;exact⟨p,by simp[subs,hp],e⟩
   .rename_i d;have⟨p,hp,e⟩:=ng r _ x h.2.1 aa c k hk;exact⟨p,by simp[subs,hp],e⟩
theorem tO:∀(t:FT) (s x:Nat),t.wf->t.lo<=x->x<t.hi->(t.path s x).Pairwise (·>·)
 |leaf a,s,x,h,c,d=>by simp[path]
 |node l r,s,x,h,c,d=>by
  have j:=h.2.2;have g:∀(t:FT) (s:Nat),∀p∈t.subs s,p.1.root p.2<=t.root s:=fun t s p hp=>by
   have:=tL t s p hp;have:=p.1.size_pos;have:=t.size_pos;unfold root;omega
  have m:=wP l r s;by_cases b:x<l.hi
  .rw[path,aO b,lZ];refine⟨fun k f=>?_,tO l s x h.1 c b⟩;obtain⟨p,hp,e,-⟩:=ng l s x h.1 c b k f;have:=g l s p hp;omega
  .have i:r.lo<=x:=aa;rw[path,aN b,lZ];refine⟨fun k f=>?_,tO r _ x h.2.1 i d⟩;obtain⟨p,hp,e,-⟩:=ng r _ x h.2.1 i d k f;have:=g r _ p hp;omega
end FT
theorem cz.drop {R:List Pt} {gone:List Bool} {YS:List Nat} (h:cz R gone YS) {x:Nat} (c:gone[x]? =some false):cz R (gone.set x true) (dZ YS x):=by
 have b:=(fH.1 c).1;refine⟨h.Bo,h.ids,by rw[kM];exact h.UG,lX _ h.nodup,fun i=>?_,lX _ h.Uv⟩;unfold dZ;rw[bG,h.live,bQ,List.getElem?_set];by_cases e:x=i
 .subst e;simp[b]
 .rw[aN e];exact⟨fun h=>h.1,fun h=>⟨h,fun a=>e a.symm⟩⟩
end
section
open Go Go.RowKit
def Dc (x1 x2 y1 y2:Int) (p:Pt):Bool:=decide (x1<=p.1/\p.1<=x2/\y1<=p.2.1/\p.2.1<=y2)
def hasB (l:List Pt) (x1 x2 y1 y2:Int):List Int:=eD (ids (l.filter (Dc x1 x2 y1 y2)))
structure sF (R:List Pt) (YS:List Nat) (l:List Pt):Prop where
 jg:(ids l).Nodup
 mem:∀p,p∈l↔∃i∈YS,bU R i=p
theorem sG {l:List Int} (f:l.Pairwise (·<=·)) (x:Int) {i:Nat} (hi:i<l.length):(aW l x).1<=i↔x<=l[i]:=by
 have⟨g,c,d⟩:=mo (fun i=>decide (x<=l.getD i 0)) l.length (fun i j k b hi=>by
  by_cases e:i=j
  .exact e▸hi
  .have:=gQ.1 f i j aa b aa;simp[b,show i<l.length by omega]at hi |-;omega) l.length 0 l.length 0 aa aa (aB _) aa aa
 constructor
 .intro h;have:=d i h hi;simpa[hi]using this
 .intro h;by_cases a:(aW l x).1<=i
  .exact a
  .have:=c i (by unfold aW at a;omega);simp[hi]at this;omega
theorem sH {l:List Int} (f:l.Pairwise (·<=·)) (x:Int) {i:Nat} (hi:i<l.length):i<(aU l x).1↔l[i]<=x:=by
 have⟨g,c,d⟩:=mo (fun i=>decide (x<l.getD i 0)) l.length (fun i j k b hi=>by
  by_cases e:i=j
  .exact e▸hi
  .have:=gQ.1 f i j aa b aa;simp[b,show i<l.length by omega]at hi |-;omega) l.length 0 l.length 0 aa aa (aB _) aa aa
 constructor
 .intro h;have:=c i h;simpa[hi]using this
 .intro h;by_cases a:i<(aU l x).1
  .exact a
  .have:=d i (by unfold aU at a;omega) hi;simp[hi]at this;omega
theorem cz.Tq {R:List Pt} {gone:List Bool} {YS:List Nat} (h:cz R gone YS):(bV R).Pairwise (·<=·):=dz.2 (h.Bo.imp fun h=>by unfold kI at h;omega)
section
variable {R:List Pt} {gone:List Bool} {YS:List Nat} {l:List Pt}
theorem dF {i:Nat} (hi:i<R.length):bU R i=R[i]:=by simp[bU,hi]
theorem wT (c:cz R gone YS) (x1 x2 y1 y2:Int) (i:Nat):i∈(ky R YS x1 x2 y1 y2).1↔i∈YS/\Dc x1 x2 y1 y2 (bU R i)=true:=by
 unfold ky;split
 .rename_i h;refine⟨fun k=>absurd k iC,fun⟨j,d⟩=>?_⟩;have hi:=c.lt j;rcases h with h|h|h
  .subst h;simp at hi
  .unfold Dc at d;simp at d;omega
  .unfold Dc at d;simp at d;omega
 .rename_i h;have e:0<R.length:=by
   cases R with
   |nil=>simp at h
   |cons a b=>simp
  have m:y1<=y2:=aa;have⟨w1,w2,w3⟩:=bJ 0 R.length e;show i∈(down _ _ _ _ _ _ _).1↔_;rw[wE _ w1 c.le m i,c.top e];refine and_congr_right fun hi=>?_;have f:=c.lt hi;have g:i<(bV R).length:=by unfold bV;simpa using f
  have l:(bV R)[i]=(bU R i).1:=by rw[dF f];simp[bV]
  rw[sG c.Tq x1 g,sH c.Tq x2 g,l];unfold Dc lL;simp only[bQ]
theorem Js (c:cz R gone YS) (x1 x2 y1 y2:Int):(ky R YS x1 x2 y1 y2).1.Nodup:=by
 unfold ky;split
 .exact pQ
 .rename_i h;have d:0<R.length:=by
   cases R with
   |nil=>simp at h
   |cons a b=>simp
  have e:y1<=y2:=aa;have⟨w1,w2,w3⟩:=bJ 0 R.length d;exact Bj _ w1 c.nodup c.le e
theorem E5 (b:cz R gone YS) {i k:Nat} (hi:i<R.length) (a:k<R.length) (e:jN R i=jN R k):i=k:=by
 unfold jN at e;rw[dF hi,dF a]at e;have hid:=dz.1 b.ids;rcases Nat.lt_trichotomy i k with h|h|h
 .exact absurd e (gQ.1 hid i k hi a h)
 .exact h
 .exact absurd e.symm (gQ.1 hid k i a hi h)
theorem Ot {a b:List Int} (f:a.Nodup) (g:b.Nodup) (h:∀x,x∈a↔x∈b):eD a=eD b:=by
 have hp:a.Perm b:=(zo f g).2 h;have i:(eD a).Pairwise (·<=·):=(ry (le:=fun x y:Int=>decide (x<=y)) (fun a b c d e=>by simp at*;omega) (fun a b=>aH) a).imp (fun h=>aQ h);have j:(eD b).Pairwise (·<=·):=(ry (le:=fun x y:Int=>decide (x<=y)) (fun a b c d e=>by simp at*;omega) (fun a b=>aH) b).imp (fun h=>aQ h);exact IJ (fun x y _ _ d e=>aa) i j (((ru a _).trans hp).trans (ru b _).symm)
theorem BG (a:cz R gone YS) (d:sF R YS l) (x1 x2 y1 y2:Int):eD ((ky R YS x1 x2 y1 y2).1.map (jN R))=hasB l x1 x2 y1 y2/\(ky R YS x1 x2 y1 y2).1.length=(l.filter (Dc x1 x2 y1 y2)).length:=by
 have g:((ky R YS x1 x2 y1 y2).1.map (jN R)).Nodup:=by
  refine dz.2 (Ao (fun{i k} hi m h e=>h ?_) (Js a x1 x2 y1 y2));exact E5 a (a.lt ((wT a x1 x2 y1 y2 i).1 hi).1) (a.lt ((wT a x1 x2 y1 y2 k).1 m).1) e
 have j:(ids (l.filter (Dc x1 x2 y1 y2))).Nodup:=by
  have h:=dz.1 d.jg;exact dz.2 (lX _ h)
 have f:∀x,x∈(ky R YS x1 x2 y1 y2).1.map (jN R)↔x∈ids (l.filter (Dc x1 x2 y1 y2)):=fun x=>by
  unfold ids;rw[dA,dA];constructor
  .rintro⟨i,hi,rfl⟩;have⟨b,c⟩:=(wT a x1 x2 y1 y2 i).1 hi;exact⟨bU R i,bG.2 ⟨(d.mem _).2 ⟨i,b,rfl⟩,c⟩,rfl⟩
  .rintro⟨p,hp,rfl⟩;have⟨b,c⟩:=bG.1 hp;obtain⟨i,hi,rfl⟩:=(d.mem p).1 b;exact⟨i,(wT a x1 x2 y1 y2 i).2 ⟨hi,c⟩,rfl⟩
 refine⟨Ot g j f,?_⟩;have:=((zo g j).2 f).length_eq;unfold ids at this;simpa using this
theorem sF.len (a:cz R gone YS) (b:sF R YS l):YS.length=l.length:=by
 have f:(YS.map (jN R)).Nodup:=dz.2 (Ao (fun{i k} hi c h e=>h (E5 a (a.lt hi) (a.lt c) e)) a.nodup);have d:∀x,x∈YS.map (jN R)↔x∈ids l:=fun x=>by
  unfold ids;rw[dA,dA];constructor
  .rintro⟨i,hi,rfl⟩;exact⟨_,(b.mem _).2 ⟨i,hi,rfl⟩,rfl⟩
  .rintro⟨p,hp,rfl⟩;obtain⟨i,hi,rfl⟩:=(b.mem p).1 hp;exact⟨i,hi,rfl⟩
 have:=((zo f b.jg).2 d).length_eq;unfold ids at this;simpa using this
theorem sF.drop (d:cz R gone YS) (f:sF R YS l) {x:Nat} (b:x<R.length) (h:x∈YS):sF R (dZ YS x) (l.filter fun p=>decide (p≠R[x])):=by
 refine⟨dz.2 (lX _ (dz.1 f.jg)),fun p=>?_⟩;rw[bG,bQ,f.mem];unfold dZ;constructor
 .rintro⟨⟨i,hi,rfl⟩,a⟩;refine⟨i,bG.2 ⟨hi,?_⟩,rfl⟩;rw[bQ];rintro rfl;exact a (dF b)
 .rintro⟨i,hi,rfl⟩;have⟨c,a⟩:=bG.1 hi;refine⟨⟨i,c,rfl⟩,fun e=>?_⟩;rw[bQ]at a;apply a;have g:=d.lt c;refine E5 d g b ?_;unfold jN;rw[e,dF b]
end
theorem zz {l:List Pt} (hu:(ids l).Nodup) (YS:List Nat) (h:∀i,i∈YS↔i<(eZ l).length):sF (eZ l) YS l:=by
 refine⟨hu,fun p=>?_⟩;rw[<-wI];constructor
 .intro hp;have⟨i,hi,e⟩:=jo hp;exact⟨i,(h i).2 hi,by rw[dF hi];exact e⟩
 .rintro⟨i,hi,rfl⟩;have:=(h i).1 hi;rw[dF this];exact bF this
end
section
open Go.RowKit
attribute [local irreducible] wpQuiet
theorem sI (l:List Int):(eD l).Pairwise (·<=·):=
 (ry (le:=fun x y:Int=>decide (x<=y)) (fun a b c d e=>by simp at*;omega) (fun a b=>aH) l).imp (fun h=>aQ h)
theorem E8 {l S:List Int} (a:S.Pairwise (·<=·)) (hp:S.Perm l):eD l=S:=
 IJ (fun x y _ _ b c=>aa) (sI l) a ((ru l _).trans hp.symm)
end
section
open Go.RowKit
def nM (n:Int):Nat:=if n<2 then 0 else Lib.bitLen (n-1).toNat
theorem UT (n:Int) (w:World) (b:n<=9223372036854775807):
  aK 32 #[ae n] w (fw w (ae (nM n))):=by
 unfold nM;by_cases h:n<2
 .rw[aO h];go_enter func32,ntmps32;go_wp2;go_ret;exact⟨rfl,aI _ _⟩
 .rw[aN h];have a:=Tryz.bits_Len (n-1) w aa aa;generalize Lib.bitLen (n-1).toNat=r at*
  replace a:=ag a
  go_enter func32,ntmps32
  go_wp2_with (go_at_call 86;refine a.o.mono ?_;rintro e w' ⟨rfl,rfl⟩)
  go_ret;exact⟨rfl,aI _ _⟩
theorem bz (x:Nat) (h:x<2^64) (a:x≠0):1<=Lib.bitLen x/\2^(Lib.bitLen x-1)<=x/\x<2^Lib.bitLen x:=Lib.bitLenAux_bounds 64 x h a
theorem zA:Lib.bitLen 0=0:=rfl
theorem eO {a b:Nat} (e:a<=b) (h:b<2^64):Lib.bitLen a<=Lib.bitLen b:=by
 by_cases c:a=0
 .subst c;rw[zA];exact bD _
 .have d:=bz a aa c;have f:=bz b h aa;have:=(IK (by decide:1<2)).1 (pF d.2.1 (pF e f.2.2));omega
theorem BH (n:Nat) (h:n<2^62):nM ((n:Int)+1)=Lib.bitLen n:=by
 unfold nM;by_cases a:n=0
 .subst a;rfl
 .rw[aN aa];congr 1;omega
theorem zB {d e:Nat} (hd:0<d) (h:d<2^62) (a:e<=d/2):Lib.bitLen e+1<=Lib.bitLen d:=by
 have b:Lib.bitLen d=1+Lib.bitLen (d/2):=Lib.bitLen_half _ aa aa;have c:=eO a aa;omega
end
section
open Go Go.RowKit
theorem BI (p:Nat->Bool):∀(f lo hi k:Nat),hi-lo<=f->hi-lo<1000000->(bsrch p f lo hi k).2<=k+Lib.bitLen (hi-lo):=by
 intro f
 induction f with
 |zero=>
  intro lo hi k a _;simp only[bsrch];omega
 |succ f ih=>
  intro lo hi k a d;simp only[bsrch];by_cases h:lo<hi
  .rw[aO h];have b:Lib.bitLen (hi-lo)=1+Lib.bitLen ((hi-lo)/2):=Lib.bitLen_half _ aa aa;split
   .have:=ih lo (lo+(hi-lo)/2) (k+1) aa aa;rw[show lo+(hi-lo)/2-lo=(hi-lo)/2 by omega]at this;omega
   .have:=ih (lo+(hi-lo)/2+1) hi (k+1) aa aa;have c:Lib.bitLen (hi-(lo+(hi-lo)/2+1))<=Lib.bitLen ((hi-lo)/2):=eO aa aa;omega
  .rw[aN h];simp
theorem kX (l:List Int) (x:Int) (h:l.length<1000000):(aW l x).2<=Lib.bitLen l.length:=by
 have:=BI (fun i=>decide (x<=l.getD i 0)) l.length 0 l.length 0 aa aa;simpa[aW]using this
theorem kY (l:List Int) (x:Int) (h:l.length<1000000):(aU l x).2<=Lib.bitLen l.length:=by
 have:=BI (fun i=>decide (x<l.getD i 0)) l.length 0 l.length 0 aa aa;simpa[aU]using this
section
variable {R:List Pt} {gone:List Bool} {YS:List Nat}
theorem cz.QU (h:cz R gone YS):YS.length<=R.length:=by
 have hp:YS.Perm ((List.range R.length).filter fun i=>decide (i∈YS)):=(zo h.nodup (List.nodup_range.filter _)).2 fun i=>by
  rw[bG,uW,bQ];exact⟨fun hi=>⟨h.lt hi,hi⟩,fun hi=>hi.2⟩
 rw[hp.length_eq];exact bA (fO _ _) ay
theorem DU (i:cz R gone YS) (o:R.length<=100000) (x1 x2 y1 y2:Int):(ky R YS x1 x2 y1 y2).2<=8*Lib.bitLen R.length+1:=by
 unfold ky;split
 .exact bD _
 .rename_i h;have g:0<R.length:=by
   cases R with
   |nil=>simp at h
   |cons a b=>simp
  have⟨w1,w2,w3⟩:=bJ 0 R.length g;have j:=i.QU;have c:=kX (bV R) x1 (by simp[bV];omega);have d:=kY (bV R) x2 (by simp[bV];omega);have e:=kX (jv R YS) y1 (by simp[jv];omega);have f:=kY (jv R YS) y2 (by simp[jv];omega);rw[show(bV R).length=R.length by simp[bV]]at c d;rw[show(jv R YS).length=YS.length by simp[jv]]at e f;have k:=eO j aa;have p:=(bz R.length aa aa).2.2;have l:=vE 0 R.length (Lib.bitLen R.length) aa;have m:=@LJ YS (lL R) y1 y2 (aW (bV R) x1).1 (aU (bV R) x2).1 (dP 0 R.length) w1 0;have n:=FT.Bi (dP 0 R.length) w1 0 (aW (bV R) x1).1 (aU (bV R) x2).1;show _+_+_+_+_<=_;omega
end
end
section
open Go.RowKit Go.Maps
theorem wU:∀(a b:List Int),a.Nodup->(∀x∈a,x∈b)->a.length<=b.length
 |[],b,_,_=>bD _
 |x::a,b,h,c=>by
  rw[mO]at h;have d:=c x ay;have g:∀y∈a,y∈b.erase x:=by
   intro y f;have i:y≠x:=fun e=>h.1 (e▸f);exact(List.mem_erase_of_ne i).2 (c y (by simp[f]))
  have:=wU a (b.erase x) h.2 g;rw[List.length_erase_of_mem d]at this;have:0<b.length:=List.length_pos_of_mem d;simp only[eu];omega
def IsM {H:Type} (kk vk:IntKind) (D:DataW H) (f:Int->Option Int) (s:List Int):Prop:=
 Tidy D/\Maps.size D=s.length/\s.Nodup/\(∀x,x∈s↔(f x).isSome=true)/\
  ∀x,has D (.int kk x)=(f x).isSome/\∀z,D.atKey (.int kk x) z=(match f x with|none=>z|some v=>.lit (.int vk v))
def GD (f:Int->Option Int) (x v:Int):Int->Option Int:=fun y=>if y=x then some v else f y
theorem IsM.empty {H:Type} (a b:IntKind):IsM (H:=H) a b (.map []) (fun _=>none) []:=
 ⟨tidy_empty,rfl,pQ,ay,fun x=>⟨rfl,fun z=>rfl⟩⟩
theorem IsM.put {H:Type} {g m:IntKind} {D:DataW H} {f:Int->Option Int} {s:List Int} (h:IsM g m D f s) (x v:Int):
  IsM g m (D.put (.int g x) (.lit (.int m v))) (GD f x v) (if x∈s then s else s++[x]):=by
 have⟨i,n,o,j,k⟩:=h;have l:WideAt.IsKeyLit (Lit.int g x):=trivial;refine⟨i.put l _,?_,?_,?_,?_⟩
 .rw[size_put i,(k x).1];by_cases c:x∈s
  .rw[aO c,aO ((j x).1 c),n]
  .rw[aN c,aN (fun h=>c ((j x).2 h)),n,bS];rfl
 .by_cases c:x∈s
  .rw[aO c];exact o
  .rw[aN c,pG];exact⟨o,ay,fun a r b p=>by simp at p;subst p;exact fun e=>c (e▸r)⟩
 .intro y;unfold GD;by_cases d:y=x
  .subst d;by_cases c:y∈s<;>simp[c]
  .by_cases c:x∈s<;>simp[c,d,j]
 .intro y;unfold GD;by_cases d:y=x
  .subst d;exact⟨by simpa using has_put_same i.isMap l _,fun z=>by simpa using atKey_put_same i.isMap l _ z⟩
  .have q:(Lit.int g y)≠(.int g x):=fun e=>d (by injection e);exact⟨by rw[has_put_other q];simpa[d]using(k y).1,fun z=>by rw[atKey_put_other q];simpa[d]using(k y).2 z⟩
theorem BJ {a b:List Int} (d:a.Nodup) (e:b.Nodup) (h:∀x,x∈a↔x∈b):a.length=b.length:=
 Nat.le_antisymm (wU _ _ d fun x c=>(h x).1 c) (wU _ _ e fun x c=>(h x).2 c)
theorem wV:∀(L s:List Int),s.Nodup->(∀x,x∈s↔x∈L)->s.length=L.length->L.Nodup
 |[],_,_,_,_=>pQ
 |x::L,s,c,b,d=>by
  have g:x∈s:=(b x).2 ay;have a:x∉L:=fun a=>by
   have:=wU s L c (fun y i=>by rcases gZ.1 ((b y).1 i)with rfl|h;exact a;exact h);simp at d;omega
  refine mO.2 ⟨a,wV L (s.erase x) (c.erase x) (fun y=>?_) ?_⟩
  .rw[c.mem_erase_iff,b y,gZ];constructor
   .rintro⟨f,rfl|h⟩
    .exact absurd rfl f
    .exact h
   .exact fun h=>⟨fun e=>a (e▸h),.inr h⟩
  .rw[List.length_erase_of_mem g];simp at d;omega
theorem wW (L s:List Int) (b:s.Nodup) (a:∀x,x∈s↔x∈L):decide (s.length=L.length)=decide L.Nodup:=by
 rw[mQ];exact⟨wV L s b a,fun h=>BJ b h a⟩
def IA (l:List Pt):Prop:=∀p∈l,(Lit.int .u32 p.2.2).wf=true
def placeF:List Pt->Nat->(Int->Option Int)
 |_,0=>fun _=>none
 |l,i+1=>GD (placeF l i) (l.getD i (0,0,0)).2.2 i
theorem zC (l:List Pt):∀(i:Nat),i<=l.length->∀x,(placeF l i x).isSome=true↔x∈ids (l.take i)
 |0,_,x=>by simp[placeF,ids]
 |i+1,h,x=>by
  have ih:=zC l i aa x;have c:l.take (i+1)=l.take i++[l[i]]:=ic aa;have b:l.getD i (0,0,0)=l[i]:=by simp[show i<l.length by omega]
  unfold placeF GD;rw[c,ids,bM,bT,b];by_cases a:x=l[i].2.2
  .simp[a]
  .rw[aN a,ih];simp[ids,a]
theorem BK {l:List Pt} (hu:(ids l).Nodup):∀(i:Nat),i<=l.length->∀k,k<i->placeF l i (l.getD k (0,0,0)).2.2=some (k:Int)
 |0,_,k,d=>aa
 |i+1,h,k,d=>by
  have g:∀j,j<l.length->l.getD j (0,0,0)=l[j]! :=fun j c=>by simp[c]
  unfold placeF GD;by_cases e:k=i
  .subst e;rw[aO rfl]
  .have f:(l.getD k (0,0,0)).2.2≠(l.getD i (0,0,0)).2.2:=by
    intro b;have a:=gQ.1 hu k i (by simp[ids];omega) (by simp[ids];omega) aa;simp[ids]at a;simp[show k<l.length by omega,show i<l.length by omega]at b;exact a b
   rw[aN f];exact BK hu i aa k aa
def nN (D:DataW Unit) (l:List Pt) (i:Nat):Prop:=∃s,IsM .u32 .i64 D (placeF l i) s
theorem nN.put {D:DataW Unit} {l:List Pt} {i:Nat} (h:nN D l i) (hi:i<l.length):nN (D.put (.int .u32 l[i].2.2) (.lit (.int .i64 (i:Nat)))) l (i+1):=by
 have⟨s,h⟩:=h;have a:=h.put l[i].2.2 i;have b:l.getD i (0,0,0)=l[i]:=by simp[hi]
 have e:placeF l (i+1)=GD (placeF l i) l[i].2.2 i:=by rw[placeF,b]
 rw[<-e]at a;exact⟨_,a⟩
theorem nN.size {D:DataW Unit} {l:List Pt} (h:nN D l l.length):(((Maps.size D:Nat):Int)==((l.length:Nat):Int))=lK l:=by
 have⟨s,a⟩:=h;have c:(ids l).length=l.length:=by simp[ids]
 have b:=wW (ids l) s a.2.2.1 (fun x=>(a.2.2.2.1 x).trans (by have:=zC l l.length (aB _) x;rwa [jO]at this));rw[a.2.1,<-c];unfold lK;rw[<-b,mU];simp only[beq_iff_eq,bQ];omega
theorem GG (a:Option Addr) (c:Nat) (l:List Pt) (w:World) (s:bY dw 3 w a l) (O:l.length<=1000000) (x:IA l):
  aK 89 #[.slice a l.length c] w (fw w (.bool (lK l))):=by
 have B:=ag s;have E:=ag x;clear s x;have N:=@run_makeMap prog;go_enter func89,ntmps89;go_wp2
 go_loopw [9] (fun k wr=>∃i:Nat,k=.int .i64 i/\i<=l.length/\Below w.heap.size w wr/\Hid (∃(D:DataW Unit),wr.ownsMap prog 27 (plainElem prog 3) w.heap.size i D/\nN D l i)) (fun k _=>l.length-(intOf k).toNat)
 case atStart=>exact⟨0,rfl,bD _,(aI _ _).alloc (aB _) _,⟨.map [],xX _ _ _ _,[],IsM.empty _ _⟩⟩
 case round=>
  obtain⟨i,rfl,hi,e,HO⟩:=hrel;by_cases g:i<l.length
  .obtain⟨b,off,q,M,f⟩:=(B.o.below e).get aa;have K:=f i g 0 aa;have x1:=f i g 1 aa;have x2:=f i g 2 aa;simp only[dw,fZ,dC,dK]at K x1 x2;have G:Hid (keyOf prog 27 (.int .u32 l[i].2.2)=some (.int .u32 l[i].2.2)):=yt underlying27 (E.o _ (bF _));obtain⟨D,t,d⟩:=HO.o;have n:=ag (d.put g);have L:=e.size;have m:=ag q;clear HO f d q;generalize l[i]=p at*;obtain⟨I,J,H⟩:=p;obtain rfl:=m.o;clear m;have h:=t.kept (qM wr (.cells #[ae I,ae J,ak H] 29) none) ay
   go_wp2_with (at_mapUpdate;refine xR _ rfl _ _ _ 26 rfl 27 3 (int_keyed underlying27) underlying26 _ w.heap.size i _ rfl h dJ _ _ _ rfl rfl G.o _ [] (uZ underlying3 (by simp[Lit.wf,IntKind.min,IntKind.max,IntKind.bits,IntKind.signed];omega)) ?_;intro w3 u r)
   have y:Below w.heap.size wr w3:=(((aI _ wr).alloc aa _)).grown r aH (fun j F=>by cases F;omega);have A:Hid (∃(D:DataW Unit),w3.ownsMap prog 27 (plainElem prog 3) w.heap.size (i+1) D/\nN D l (i+1)):=⟨_,u,n.o⟩;have z:=e.trans y;clear u r h t n;go_wp2;go_roundw
   case rel=>exact⟨i+1,by go_num,aa,z,A⟩
   case measure=>exact eT
  .obtain rfl:i=l.length:=aa;obtain⟨D,h,d⟩:=HO.o;have v:=d.size;have C:=ag v;clear v d HO
   go_wp2_with (at_len;refine wpList_len_own _ rfl _ 26 rfl 27 3 underlying26 _ w.heap.size _ _ rfl h ?_)
   go_ret;exact⟨by rw[C.o];rfl,e⟩
end
section
open Go.RowKit Go.Sort Go.Shelf Go.Lib Go.Maps
attribute [local irreducible] wpQuiet
attribute [local go_sem] Oper.fB
def upd (f:Nat->Value) (k:Nat) (v:Value):Nat->Value:=fun j=>if j=k then v else f j
theorem upd_same (f:Nat->Value) (k:Nat) (v:Value):upd f k v k=v:=by simp[upd]
theorem upd_ne {f:Nat->Value} {k j:Nat} {v:Value} (h:j≠k):upd f k v j=f j:=by simp[upd,h]
theorem tQ (f:Nat->Value) (k:Nat) (v a:Value):upd (upd f k v) k a=upd f k a:=by funext j;simp only[upd];split<;>rfl
theorem Ou (f:Nat->Value) {k j:Nat} (v a:Value) (h:k≠j):upd (upd f k v) j a=upd (upd f j a) k v:=by
 funext i;simp only[upd];split<;>split<;>first|rfl|omega
theorem Jt (f:Nat->Value) (k:Nat) (v:Value) (h:f k=v):upd f k v=f:=by
 funext j;simp only[upd];split
 .rename_i e;rw[e,h]
 .rfl
def Ov (LN LL:Nat->Value) (n:Nat):List Value:=(List.range n).flatMap fun k=>[LN k,LL k]
theorem qy (LN LL:Nat->Value) (n:Nat):(Ov LN LL n).length=n*2:=by
 unfold Ov;rw[gq (sz:=2) (fun _=>rfl)];simp
theorem tT (LN LL:Nat->Value) {n k:Nat} (h:k<n):(Ov LN LL n)[k*2]? =some (LN k)/\(Ov LN LL n)[k*2+1]? =some (LL k):=by
 have a:=flat_get (enc:=fun k=>[LN k,LL k]) (sz:=2) (fun _=>rfl) (List.range n) k (aQ h) 0 aa;have b:=flat_get (enc:=fun k=>[LN k,LL k]) (sz:=2) (fun _=>rfl) (List.range n) k (aQ h) 1 aa;simp only[xW,dK,fZ,dC]at a b;exact⟨a,b⟩
theorem Ow (LN LL:Nat->Value) {n k:Nat} (h:k<n) (v:Value):(Ov LN LL n).set (k*2) v=Ov (upd LN k v) LL n:=by
 apply xY;intro i;rw[List.getElem?_set];by_cases hi:i<n*2
 .have hd:i/2<n:=aa;have⟨a,b⟩:=tT LN LL hd;have⟨c,d⟩:=tT (upd LN k v) LL hd;rcases Eh i with hm|hm
  .have e:i/2*2=i:=aa;rw[e]at a c;rw[c];by_cases f:k*2=i
   .rw[aO f,aO (by rw[qy];omega),show i/2=k by omega,upd_same]
   .rw[aN f,a,upd_ne aa]
  .have e:i/2*2+1=i:=aa;rw[e]at b d;rw[d,aN aa,b]
 .rw[aN aa,oD (by rw[qy];omega),oD (by rw[qy];omega)]
theorem Ox (LN LL:Nat->Value) {n k:Nat} (h:k<n) (v:Value):(Ov LN LL n).set (k*2+1) v=Ov LN (upd LL k v) n:=by
 apply xY;intro i;rw[List.getElem?_set];by_cases hi:i<n*2
 .have hd:i/2<n:=aa;have⟨a,b⟩:=tT LN LL hd;have⟨c,d⟩:=tT LN (upd LL k v) hd;rcases Eh i with hm|hm
  .have e:i/2*2=i:=aa;rw[e]at a c;rw[c,aN aa,a]
  .have e:i/2*2+1=i:=aa;rw[e]at b d;rw[d];by_cases f:k*2+1=i
   .rw[aO f,aO (by rw[qy];omega),show i/2=k by omega,upd_same]
   .rw[aN f,b,upd_ne aa]
 .rw[aN aa,oD (by rw[qy];omega),oD (by rw[qy];omega)]
abbrev cK (W:World) (base gl n c:Nat) (LN LL:Nat->Value):Prop:=W.ownsRow base 150 2 (aA gl n c) n (Ov LN LL n)
theorem cK.get {W:World} {base gl n c k:Nat} {LN LL:Nat->Value} (h:cK W base gl n c LN LL) (d:k<n):W.cell? (af gl (k*2))=some (LN k)/\W.cell? (af gl (k*2+1))=some (LL k):=by
 have⟨a,b⟩:=tT LN LL d;exact⟨(h.cellAt (k*2) aa).trans a,(h.cellAt (k*2+1) aa).trans b⟩
theorem cK.Bu {W:World} {base gl n c k:Nat} {LN LL:Nat->Value} (h:cK W base gl n c LN LL) (a:k<n) (v:Value):cK (W.setCell (af gl (k*2)) v) base gl n c (upd LN k v) LL:=by
 have:=(h.stored (k*2) v).1;rwa [Ow LN LL a]at this
theorem cK.QV {W:World} {base gl n c k:Nat} {LN LL:Nat->Value} (h:cK W base gl n c LN LL) (a:k<n) (v:Value):cK (W.setCell (af gl (k*2+1)) v) base gl n c LN (upd LL k v):=by
 have:=(h.stored (k*2+1) v).1;rwa [Ox LN LL a]at this
theorem cK.kept {S:Nat->Prop} {W W':World} {base gl n c:Nat} {LN LL:Nat->Value} (h:cK W base gl n c LN LL) (K:ax S W W') (hS:¬S gl):cK W' base gl n c LN LL:=
 aR h K fun g e=>by injection e with e;exact e▸hS
theorem wX {w w':World} {a n:Nat} {D:DataW Unit} (h:w.ownsMap prog 27 (plainElem prog 3) a n D) (e:w'.heap[a]? =w.heap[a]?):w'.ownsMap prog 27 (plainElem prog 3) a n D:=by
 have⟨c,b,d,r⟩:=h;exact⟨c,b,e.trans d,r⟩
theorem Oy {w:World} {b n:Nat} {D:DataW Unit} {x:Int} {i:Nat} (h:w.ownsMap prog 27 (plainElem prog 3) b n D) (f:(Lit.int .u32 x).wf=true) (hd:D.atKey (.int .u32 x) (.lit (.int .i64 0))=.lit (.int .i64 (i:Nat))):
  (Instr.lookup 26 (.map (some b)) (.int .u32 x) false).run prog w=.ok (.int .i64 i) w:=by
 have⟨c,d,a,g⟩:=h.lookup_int (t:=26) (e:=3) (q:=.i64) (key:=.int .u32 x) (int_keyed underlying27) underlying26 underlying3 (zeroValue3 _) (yt underlying27 f);rw[hd]at a;injection a with a;injection a with _ a;subst a;exact d
def ni (w0:World) (base gl n cl:Nat) (LN LL:Nat->Value) (K kl kr m fb:Nat) (nm:Nat->Int) (L:List Nat) (j jf:Nat) (wr:World) (vl vr vf:Value):Prop:=
 cK wr base gl n cl (upd (upd LN kl vl) kr vr) (upd LL K vf)/\
 wr.ownsRow w0.heap.size 27 1 vl ((L.take j).filter fun i=>decide (i<m)).length ((((L.take j).filter fun i=>decide (i<m)).map nm).map (Value.int .u32))/\
 wr.ownsRow w0.heap.size 27 1 vr ((L.take j).filter fun i=>!decide (i<m)).length ((((L.take j).filter fun i=>!decide (i<m)).map nm).map (Value.int .u32))/\
 wr.ownsRow fb 3 1 vf (jf+1) (((lf m L).take (jf+1)).map (Value.int .i64))/\
 (∀g,vl.ownBlock=some g->vr.ownBlock≠some g)/\ax (fun b=>b=gl\/b=fb) w0 wr
theorem ni.drewN {w0:World} {base gl n cl:Nat} {LN LL:Nat->Value} {K kl kr m fb:Nat} {nm:Nat->Int} {L:List Nat} {j jf:Nat} {wr:World} {vl vr vf:Value} (h:ni w0 base gl n cl LN LL K kl kr m fb nm L j jf wr vl vr vf) (q:Nat):ni w0 base gl n cl LN LL K kl kr m fb nm L j jf (wr.drewN q) vl vr vf:=by
 have⟨a,b,c,d,e,f⟩:=h;exact⟨a,b,c,d,e,f.below (Below.bu _ q)⟩
section
variable {w0:World} {base gl n cl:Nat} {LN LL:Nat->Value} {K kl kr m fb:Nat} {nm:Nat->Int} {L:List Nat} {j jf:Nat} {w3 w4:World} {vl vr vf v1:Value}
theorem ni.left (h:ni w0 base gl n cl LN LL K kl kr m fb nm L j jf w3 vl vr vf) (B:j<L.length) (hi:L[j]<m) (D:kl<n) (E:kl≠kr) (M:gl<w0.heap.size) (I:fb<w0.heap.size) (J:gl≠fb)
  (t:w4.ownsRow w0.heap.size 27 1 v1 (((L.take j).filter fun i=>decide (i<m)).length+1) ((((L.take j).filter fun i=>decide (i<m)).map nm).map (Value.int .u32)++[.int .u32 (nm L[j])])) (r:w3.grownBy w4 vl.ownBlock) (A:v1.ownBlock=vl.ownBlock\/∃b,v1.ownBlock=some b/\w3.heap.size<=b):
  ni w0 base gl n cl LN LL K kl kr m fb nm L (j+1) jf (w4.setCell (af gl (kl*2)) v1) v1 vr vf:=by
 obtain⟨a,b,c,d,e,f⟩:=h;have o:ax (fun k=>vl.ownBlock=some k) w3 w4:=(ax.refl _ w3).grown r (fun k C=>.inl C);have p:ax (fun k=>k=gl) w4 (w4.setCell (af gl (kl*2)) v1):=(ax.refl (fun k=>k=gl) w4).set (a:=(af gl (kl*2))) v1 (.inl rfl);have u:=b.lt;have v:=c.lt;have s:L.take (j+1)=L.take j++[L[j]]:=ic B;have w:(L.take (j+1)).filter (fun i=>decide (i<m))=(L.take j).filter (fun i=>decide (i<m))++[L[j]]:=by rw[s,mK];simp[hi]
 have x:(L.take (j+1)).filter (fun i=>!decide (i<m))=(L.take j).filter (fun i=>!decide (i<m)):=by rw[s,mK];simp[hi]
 have F:∀g,v1.ownBlock=some g->w0.heap.size<=g:=fun g r=>(t.lt g r).1;refine⟨?_,?_,?_,?_,?_,?_⟩
 .have y:=(a.kept o fun h=>by have:=(u gl h).1;omega).Bu D v1;rwa [Ou _ _ _ (fun h=>E h.symm),tQ]at y
 .rw[w,bS,bM,bM];exact aR (S:=fun k=>k=gl) t p fun g h=>by have:=F g h;omega
 .rw[x];exact aR (S:=fun k=>k=gl) (aR (S:=fun k=>vl.ownBlock=some k) c o fun g h l=>e g l h) p fun g h=>by have:=(v g h).1;omega
 .refine aR (S:=fun k=>k=gl) (aR (S:=fun k=>vl.ownBlock=some k) d o fun g h l=>bB b d ai g l h) p fun g h l=>?_;subst l;have z:=cK.kept a (ax.refl (fun _=>False) w3) (fun h=>h);exact bB z d ai g rfl h
 .intro g h l;rcases A with q|⟨G,q,H⟩
  .exact e g (q▸h) l
  .rw[q]at h;injection h with h;have:=(v g l).2;omega
 .exact((f.mono (S':=fun k=>(k=gl\/k=fb)\/w0.heap.size<=k) (fun k h=>.inl h)).trans (o.mono (fun k h=>.inr (u k h).1))).strip.set (a:=(af gl (kl*2))) v1 (.inl (.inl rfl))
theorem ni.right (h:ni w0 base gl n cl LN LL K kl kr m fb nm L j jf w3 vl vr vf) (B:j<L.length) (hi:¬L[j]<m) (D:kr<n) (M:kl≠kr) (J:gl<w0.heap.size) (H:fb<w0.heap.size) (I:gl≠fb)
  (t:w4.ownsRow w0.heap.size 27 1 v1 (((L.take j).filter fun i=>!decide (i<m)).length+1) ((((L.take j).filter fun i=>!decide (i<m)).map nm).map (Value.int .u32)++[.int .u32 (nm L[j])])) (r:w3.grownBy w4 vr.ownBlock) (A:v1.ownBlock=vr.ownBlock\/∃b,v1.ownBlock=some b/\w3.heap.size<=b):
  ni w0 base gl n cl LN LL K kl kr m fb nm L (j+1) jf (w4.setCell (af gl (kr*2)) v1) vl v1 vf:=by
 obtain⟨a,b,c,d,e,f⟩:=h;have o:ax (fun k=>vr.ownBlock=some k) w3 w4:=(ax.refl _ w3).grown r (fun k C=>.inl C);have p:ax (fun k=>k=gl) w4 (w4.setCell (af gl (kr*2)) v1):=(ax.refl (fun k=>k=gl) w4).set (a:=(af gl (kr*2))) v1 (.inl rfl);have u:=b.lt;have v:=c.lt;have s:L.take (j+1)=L.take j++[L[j]]:=ic B;have w:(L.take (j+1)).filter (fun i=>!decide (i<m))=(L.take j).filter (fun i=>!decide (i<m))++[L[j]]:=by rw[s,mK];simp[hi]
 have x:(L.take (j+1)).filter (fun i=>decide (i<m))=(L.take j).filter (fun i=>decide (i<m)):=by rw[s,mK];simp[hi]
 have E:∀g,v1.ownBlock=some g->w0.heap.size<=g:=fun g r=>(t.lt g r).1;refine⟨?_,?_,?_,?_,?_,?_⟩
 .have y:=(a.kept o fun h=>by have:=(v gl h).1;omega).Bu D v1;rwa [tQ]at y
 .rw[x];exact aR (S:=fun k=>k=gl) (aR (S:=fun k=>vr.ownBlock=some k) b o fun g h l=>e g h l) p fun g h=>by have:=(u g h).1;omega
 .rw[w,bS,bM,bM];exact aR (S:=fun k=>k=gl) t p fun g h=>by have:=E g h;omega
 .refine aR (S:=fun k=>k=gl) (aR (S:=fun k=>vr.ownBlock=some k) d o fun g h l=>bB c d ai g l h) p fun g h l=>?_;subst l;have z:=cK.kept a (ax.refl (fun _=>False) w3) (fun h=>h);exact bB z d ai g rfl h
 .intro g h l;rcases A with q|⟨F,q,G⟩
  .exact e g h (q▸l)
  .rw[q]at l;injection l with l;have:=(u g h).2;omega
 .exact((f.mono (S':=fun k=>(k=gl\/k=fb)\/w0.heap.size<=k) (fun k h=>.inl h)).trans (o.mono (fun k h=>.inr (v k h).1))).strip.set (a:=(af gl (kr*2))) v1 (.inl (.inl rfl))
end
theorem QW {m:Nat} {L:List Nat} {j:Nat} (h:j<L.length):(lf m L).take (j+1+1)=(lf m L).take (j+1)++[(((L.take (j+1)).filter fun i=>decide (i<m)).length:Int)]:=by
 have a:=rZ m L;rw[ic aa,qc];rw[IC]
theorem ni.Sq {w0:World} {base gl n cl:Nat} {LN LL:Nat->Value} {K kl kr m fb:Nat} {nm:Nat->Int} {L:List Nat} {j:Nat} {p l:World} {vl vr vf v1:Value} (h:ni w0 base gl n cl LN LL K kl kr m fb nm L (j+1) j p vl vr vf) (y:j<L.length) (v:K<n) (F:gl<w0.heap.size) (D:w0.heap.size=fb+1) (E:gl≠fb)
  (t:l.ownsRow fb 3 1 v1 (j+1+1) (((lf m L).take (j+1)).map (Value.int .i64)++[.int .i64 (((L.take (j+1)).filter fun i=>decide (i<m)).length:Nat)])) (w:p.grownBy l vf.ownBlock):
  ni w0 base gl n cl LN LL K kl kr m fb nm L (j+1) (j+1) (l.setCell (af gl (K*2+1)) v1) vl vr v1:=by
 obtain⟨a,b,c,d,e,f⟩:=h;have q:ax (fun k=>vf.ownBlock=some k) p l:=(ax.refl _ p).grown w (fun k z=>.inl z);have r:ax (fun k=>k=gl) l (l.setCell (af gl (K*2+1)) v1):=(ax.refl (fun k=>k=gl) l).set (a:=(af gl (K*2+1))) v1 (.inl rfl);have B:=b.lt;have C:=c.lt;have A:=d.lt;have a':=cK.kept a (ax.refl (fun _=>False) p) (fun h=>h);have x:vf.ownBlock≠some gl:=fun h=>bB a' d ai gl rfl h;have s:=a.kept q x;refine⟨?_,?_,?_,?_,e,?_⟩
 .have u:=s.QV v v1;rwa [tQ]at u
 .exact aR (S:=fun k=>k=gl) (aR (S:=fun k=>vf.ownBlock=some k) b q fun g h o=>bB b d ai g h o) r fun g h=>by have:=(B g h).1;omega
 .exact aR (S:=fun k=>k=gl) (aR (S:=fun k=>vf.ownBlock=some k) c q fun g h o=>bB c d ai g h o) r fun g h=>by have:=(C g h).1;omega
 .rw[QW y,bM];refine aR (S:=fun k=>k=gl) t r fun g h o=>?_;subst o;exact bB s t ai g rfl h
 .exact((f.mono (S':=fun k=>(k=gl\/k=fb)\/w0.heap.size<=k) (fun k h=>.inl h)).trans (q.mono (fun k h=>by have:=(A k h).1;by_cases e:k=fb;exact .inl (.inr e);exact .inr aa))).strip.set (a:=(af gl (K*2+1))) v1 (.inl (.inl rfl))
theorem yI (l r:FT) (s tb z off cn gl cl base K kl kr m t cL:Nat) (N:List Nd) (LN LL:Nat->Value) (L:List Nat) (nm:Nat->Int) (I:Option Addr) (ct:Nat) (D:DataW Unit) (w:World) (ba:FT.At N (.node l r) s) (n:(FT.node l r).root s=K) (cb:l.root s=kl) (cA:r.root (s+l.size)=kr) (df:l.hi=m) (dP:m<=1000000) (dB:N.length<=1000000)
  (a2:w.cell? (af tb 4)=some (.slice (some (af z off)) N.length cn)) (bJ:bY oM 7 w (some (af z off)) N) (bs:w.cell? (af tb 5)=some (aA gl N.length cl))
  (aM:cK w base gl N.length cl LN LL) (V:z≠gl/\tb≠gl/\∀b o,I=some (af b o)->b≠gl)
  (c7:LN K=.slice I L.length ct) (b3:Rd (.int .u32) w I (L.map nm)) (dL:L.length<=1000000) (b7:LN kl=aL) (b8:LN kr=aL)
  (cf:w.ownsMap prog 27 (plainElem prog 3) t cL D) (Y:∀i∈L,D.atKey (.int .u32 (nm i)) (.lit (.int .i64 0))=.lit (.int .i64 (i:Nat))) (cG:∀i∈L,(Lit.int .u32 (nm i)).wf=true) (c8:∀i∈L,i<=1000000):
  aK 96 #[aj tb,ae K,.map (some t)] w fun e w'=>e=.returned (.tuple #[])/\∃vl vr vf,cK w' base gl N.length cl (upd (upd LN kl vl) kr vr) (upd LL K vf)/\
   w'.ownsRow w.heap.size 27 1 vl (L.filter fun i=>decide (i<m)).length (((L.filter fun i=>decide (i<m)).map nm).map (Value.int .u32))/\
   w'.ownsRow w.heap.size 27 1 vr (L.filter fun i=>!decide (i<m)).length (((L.filter fun i=>!decide (i<m)).map nm).map (Value.int .u32))/\
   w'.ownsRow w.heap.size 3 1 vf (lf m L).length ((lf m L).map (Value.int .i64))/\(∀g,vl.ownBlock=some g->vr.ownBlock≠some g)/\ax (fun b=>b=gl) w w':=by
 obtain⟨dc,n0,aO,aP,bn,bo,bH,bp⟩:=mY bJ ba.get;have C:=ba.lt;have cg:=gW w _ a2;have dE:gl<w.heap.size:=(aM.lt gl rfl).2;simp only at cg;simp only[FT.top]at n0 aO aP bn bo bp;have cc:=FT.wP l r s;have bf:=ba.left.lt;have ce:=ba.right.lt;obtain⟨dF,-,-,-,-,cM,-,-⟩:=mY bJ ba.left.get;rw[FT.vF,df,cb]at cM;have dh:((s+l.size:Nat):Int)-1=(kl:Int):=by rw[<-cb];unfold FT.root;have:=l.size_pos;omega
 have di:((s+l.size+r.size:Nat):Int)-1=(kr:Int):=by rw[<-cA];unfold FT.root;have:=r.size_pos;omega
 rw[dh]at aO;rw[di]at aP;rw[n]at n0 aO aP bn bo bH bp C cc;rw[cb]at bf cc;rw[cA]at ce cc;generalize dO:l.lo=lo at*;generalize dG:r.hi=hi at*;have cq:=ag aM;have cd:=ag aM;have c2:=aM.frozenAt (K*2+1);obtain⟨al,cN⟩:=aM.get C;have cT:=ag a2;have du:=ag bJ;have cU:=ag bs;obtain⟨cO,cD⟩:∃cO,cO=LL K:=⟨_,rfl⟩;rw[<-cD]at cN;clear aM bJ cD;go_enter func96,ntmps96
 go_upto_region 0 with fail
 go_cut [6,7]from 6 (fun dn dp cQ=>∃x:Nat,dn=aj x/\dp=.pointer (some (af gl (K*2)))/\Hid (cQ.heap[x]? =some (.cells #[.int .u8 2,ae kl,ae kr,ae lo,ae hi,ae 0,ae 0] 163 (0,0)))/\Hid (Below w.heap.size w cQ)/\w.heap.size<=x)
 case first=>
  have dz:=ah a2;have dA:=ah bs;have dX:=ah n0;have dY:=ah aO;have dZ:=ah aP;have d0:=ah bn;have d3:=ah bo;have d4:=ah bH;have d5:=ah bp;clear a2 bs n0 aO aP bn bo bH bp;refine au (fun W=>∃p:aS w,W=p.W) [15] [(0,false),(1,false),(2,false),(3,true),(4,false),(5,false),(6,true),(7,false),(8,false),(9,false),(10,true),(11,false),(12,false)] ⟨⟨_,(aI _ _).drew⟩,rfl⟩ 3 ?_;refine aC 13 rfl fun K n=>?_;go_simp;refine n _ _ (fun _ _=>⟨⟨_,(aI _ w).alloc (aB _) _|>.drew⟩,rfl⟩) ?_;clear n K;refine aC 14 rfl fun K n=>?_;go_simp;refine n _ _ (fun _ _=>⟨⟨_,(aI _ w).alloc (aB _) _|>.drew⟩,rfl⟩) ?_;clear n K;refine aG [15] ?_;go_wp2;go_meet;exact⟨w.heap.size,rfl,rfl,jr _ _,(aI _ w).alloc (aB _) _|>.drew,aB _⟩
 case rest=>
  obtain⟨x,rfl,rfl,bQ,bL,dV⟩:=hcut;have cH:x<wc.heap.size:=(aY.1 bQ.o).1;have br:Hid (cK wc base gl N.length cl LN LL):=az cq.o bL.o;have c3:=br.o.frozenAt (K*2+1);have m1:=(br.o.get C).2;obtain⟨cm,cE⟩:∃cm,cm=LL K:=⟨_,rfl⟩;rw[<-cE]at m1;clear cE;have Z:=bQ.o;have d7:wc.cell? (af x 0)=some (.int .u8 2):=aD Z;clear Z;clear n0 aO aP bn bo bH bp a2 bs c2 al cN;have dT:=bL.o.size;obtain⟨fb,bt⟩:∃fb,fb=wc.heap.size:=⟨_,rfl⟩;have dv:(wc.alloc (.cells #[ae 0] 3)).cell? (af gl (K*2+1))=some cm:=(((aI wc.heap.size wc).alloc (aB _) _).cell (p:=(af gl (K*2+1))) (by show gl<_;omega)).trans m1;have dw:(wc.alloc (.cells #[ae 0] 3)).frozen? (af gl (K*2+1))=false:=(((aI wc.heap.size wc).alloc (aB _) _).frozen (p:=(af gl (K*2+1))) (by show gl<_;omega)).trans c3;obtain⟨f,aE⟩:∃f,f=(wc.alloc (.cells #[ae 0] 3)).setCell (af gl (K*2+1)) (aA wc.heap.size 1 1):=⟨_,rfl⟩;have bR:ax (fun b=>b=gl) wc f:=by rw[aE];exact((ax.refl (fun b=>b=gl) wc).alloc _).set (a:=(af gl (K*2+1))) _ (.inl rfl)
  have E:ax (fun b=>b=gl) w f:=((ax.refl (fun b=>b=gl) w).below bL.o).trans bR;have bS:cK f base gl N.length cl LN (upd LL K (aA fb 1 1)):=by rw[aE,bt];exact cK.QV (az br.o ((aI _ _).alloc (aB _) _)) C _
  have co:f.ownsRow fb 3 1 (aA fb 1 1) 1 [.int .i64 0]:=by
   have h:=BB wc fb [.int .i64 0] 3 aa (by unfold maxLen;simp);rw[aE];rw[bt]at h |-;exact aR (S:=fun b=>b=gl) h ((ax.refl (fun b=>b=gl) _).set (a:=(af gl (K*2+1))) _ (.inl rfl)) (fun g e=>by have cv:=Oe e;omega)
  have c9:f.heap.size=fb+1:=by rw[aE,bt];simp
  have dW:x<fb:=by rw[bt];exact cH
  have dj:x≠gl:=aa;have bv:gl≠fb:=aa;obtain⟨aq,-⟩:=cu bR cH dj;have Z:=bQ.o;have y1:f.cell? (af x 1)=some (ae kl):=(aq 1).trans (aD Z);have y2:f.cell? (af x 2)=some (ae kr):=(aq 2).trans (aD Z);have dq:f.cell? (af tb 5)=some (aA gl N.length cl):=((cu E cg V.2.1).1 5).trans cU.o;have cR:f.cell? (af tb 4)=some (.slice (some (af z off)) N.length cn):=((cu E cg V.2.1).1 4).trans cT.o;have dr:f.cell? (af gl (K*2))=some (.slice I L.length ct):=(bS.get C).1.trans (by rw[c7]);have cS:f.cell? (af z (off+kl*7+4))=some (ae m):=((cu E dc V.1).1 _).trans cM;have cr:Hid (Rd (.int .u32) f I (L.map nm)):=by
   rcases b3 with h|⟨b,o,e,B,b6⟩
   .exact .inl h
   .exact .inr ⟨b,o,e,bX B E.size,fun i hi=>((cu E B (V.2.2 b o e)).1 _).trans (b6 i hi)⟩
  have dQ:w.heap[t]? =f.heap[t]? /\t<f.heap.size:=by
   obtain⟨cw,cs,B,-⟩:=cf;have Y:t<w.heap.size:=(aY.1 B).1;refine⟨(E.block t Y fun e=>?_).symm,bX Y E.size⟩;subst e;rcases cd.o.2 with⟨h,-⟩|⟨g,cZ,c0,h,-,be,-⟩
   .cases h
   .injection h with h;injection h with h;injection h with h;subst h;rw[B]at be;cases be
  have ds:f.cell? (af x 0)=some (.int .u8 2):=(aq 0).trans (aD Z);clear Z aq bR
  go_upto_region 2 with fail
  rw[<-aE];clear aE
  go_upto_region 3 with fail
  go_quiet (fail)
  go_wp2_with fail
  obtain⟨w2,y⟩:∃w2,w2=f.drewN nq:=⟨_,rfl⟩;have cp:Hid (ax (fun b=>b=gl) w w2):=by rw[y];exact E.trans (Below.bu f.heap.size _|>fun h=>(ax.refl _ f).below h)
  have cz:cK w2 base gl N.length cl LN (upd LL K (aA fb 1 1)):=by rw[y];exact bS
  have cx:w2.ownsRow fb 3 1 (aA fb 1 1) 1 [.int .i64 0]:=by rw[y];exact co
  have u1:w2.cell? (af x 1)=some (ae kl):=by rw[y];exact y1
  have u4:w2.cell? (af tb 4)=some (.slice (some (af z off)) N.length cn):=by rw[y];exact cR
  have bq:w2.cell? (af z (off+kl*7+4))=some (ae m):=by rw[y];exact cS
  have bP:Hid (w2.cell? (af x 1)=some (ae kl)/\w2.cell? (af tb 4)=some (.slice (some (af z off)) N.length cn)/\w2.cell? (af z (off+kl*7+4))=some (ae m)):=⟨u1,u4,bq⟩;have cX:Hid (Rd (.int .u32) w2 I (L.map nm)):=by rw[y];exact cr.o
  have bO:Hid (w2.ownsMap prog 27 (plainElem prog 3) t cL D/\t≠gl/\t<fb):=by
   rw[y];obtain⟨cw,cs,B,r⟩:=cf;have Y:t<w.heap.size:=(aY.1 B).1;have cC:t≠gl:=by
    rintro rfl;rcases cd.o.2 with⟨h,-⟩|⟨g,cZ,c0,h,-,be,-⟩
    .cases h
    .have aF:=Oe (show(aA t N.length cl).ownBlock=some g by rw[h];rfl);subst aF;rw[B]at be;cases be
   exact⟨⟨cw,cs,(E.block t Y cC).trans B,r⟩,cC,aa⟩
  have cF:w2.heap.size=fb+1:=by rw[y];exact c9
  have dU:tb<fb/\z<fb:=aa;have cy:ni w2 base gl N.length cl LN LL K kl kr m fb nm L 0 0 w2 (aL) (aL) (aA fb 1 1):=by
   refine⟨?_,dx _ _ _ _,dx _ _ _ _,?_,fun g h=>(by cases h),ax.refl _ _⟩
   .rw[Jt _ kl _ b7,Jt _ kr _ b8];exact cz
   .have cv:(lf m L).take (0+1)=[0]:=by simp[lf,List.range_succ_eq_map]
    rw[cv];exact cx
  have cV:=ag cy;have M:Hid (∀b o,0<L.length->I=some (af b o)->b<fb):=fun b o c4 e=>by
   obtain⟨dy,d6,aw,dC,-⟩:=b3.get (aQ c4);rw[e]at aw;injection aw with aw;injection aw with aw;subst aw;omega
  have cW:=ag Y;have cY:=ag cG;have dt:=ag (And.intro b7 b8);rw[<-y];clear y bS co y1 y2 cR dq cS dr ds E cr cz cx u1 u4 bq cf Y cG cy cd cq br b7 b8 b3
  go_loopg [51] L.length (fun dk dm wr=>∃(j:Nat) (vl vr vf:Value),dm=.int .i64 j/\j<=L.length/\L.length-j<=dk/\Hid (ni w2 base gl N.length cl LN LL K kl kr m fb nm L j j wr vl vr vf))
  case atStart=>exact⟨0,_,_,_,rfl,bD _,aa,cV⟩
  case round=>
   obtain⟨j,vl,vr,vf,rfl,dI,dK,aV⟩:=hrel;obtain⟨ar,av,rfl⟩:=fI aV.o.2.1;obtain⟨bi,bj,bl,bm,bk,G⟩:=aV.o;have dM:((L.take j).filter fun i=>decide (i<m)).length<=L.length:=bA (fO _ _) aH;have dN:((L.take j).filter fun i=>!decide (i<m)).length<=L.length:=bA (fO _ _) aH;obtain⟨aq,-⟩:=cu G (b:=x) aa aa;obtain⟨cP,-⟩:=cu G (b:=tb) aa (by have:=V.2.1;omega);obtain⟨gk,-⟩:=cu G (b:=z) aa (by have:=V.1;omega);have u1:=(aq 1).trans bP.o.1;have u4:=(cP 4).trans bP.o.2.1;have bq:=(gk (off+kl*7+4)).trans bP.o.2.2;clear aq cP gk;by_cases T:j<L.length
   .obtain⟨i,hi⟩:∃i,i=L[j]:=⟨_,rfl⟩;have bx:i∈L:=by rw[hi];exact bF _
    have dH:=c8 i bx;obtain⟨ad,bz⟩:∃ad,ad=nm i:=⟨_,rfl⟩;have db:∃b o,I=some (af b o)/\wr.cell? (af b (o+j))=some (ak ad):=by
     obtain⟨b,o,e,B,b6⟩:=cX.o.get aH;have aF:=b6 j (aQ T);rw[fP,<-hi,<-bz]at aF;have dD:=V.2.2 b o e;have aJ:=M.o b o aa e;have aJ:=M.o b o aa e;have aJ:=M.o b o aa e;have aJ:=M.o b o aa e;have aJ:=M.o b o aa e;have aJ:=M.o b o aa e;have aJ:=M.o b o aa e;exact⟨b,o,e,((cu G B aa).1 _).trans aF⟩
    obtain⟨b,o,c1,dg⟩:=db;subst c1;have dd:∀q,(Instr.lookup 26 (.map (some t)) (.int .u32 ad) false).run prog (wr.drewN q)=.ok (.int .i64 i) (wr.drewN q):=fun q=>by
     rw[bz];exact Oy (wX bO.o.1 (G.block t (by have:=bO.o.2.2;omega) (by have:=bO.o.2;omega))) (cY.o i bx) (cW.o i bx)
    have H:Hid (i=L[j]/\ad=nm i):=⟨hi,bz⟩;clear hi bz bx
    go_wp2_with fail
    go_quiet (fail)
    obtain⟨w3,b0⟩:∃w3,w3=wr.drewN nq:=⟨_,rfl⟩;have aW:Hid (ni w2 base gl N.length cl LN LL K kl kr m fb nm L j j w3 (.slice ar ((L.take j).filter fun i=>decide (i<m)).length av) vr vf):=by rw[b0];exact aV.o.drewN nq
    rw[<-b0];clear b0 bi bj bl bm bk G aV u1 u4 bq dg dd;obtain⟨aN,bE,bG,cJ,cI,bh⟩:=aW.o;have bw:gl<w3.heap.size:=by have:=bh.size;omega
    by_cases J:i<m
    .have d1:decide ((i:Int)<(m:Int))=true:=aQ J;have d2:decide (i<m)=true:=aQ J;have al:w3.cell? (af gl (kl*2))=some (.slice ar ((L.take j).filter fun i=>decide (i<m)).length av):=(aN.get bf).1.trans (by rw[upd_ne aa,upd_same]);have f0:=aN.frozenAt (kl*2)
     go_wp2_with (at_builtin;refine bZ uw w2.heap.size bE [.int .u32 ad] rfl (by simp[Value.oneCell']) rfl _ _ rfl rfl _ rfl dJ aa (by have:=bh.size;omega) ?_;intro v1 w4 X Q bb;have a0:ax (fun k=>(Value.slice ar ((L.take j).filter fun i=>decide (i<m)).length av).ownBlock=some k) w3 w4:=(ax.refl _ w3).grown Q (fun k U=>.inl U);have bd:¬(Value.slice ar ((L.take j).filter fun i=>decide (i<m)).length av).ownBlock=some gl:=(fun h=>by have aF:=(bE.lt gl h).1;omega);obtain⟨a4,a6⟩:=cu a0 bw bd;have ck:=(a4 (kl*2)).trans al;have f4:=(a6 (kl*2)).trans f0;clear a4 a6;obtain⟨an,ao,rfl⟩:=fI X;have aX:=ag X;have aU:=ag Q;have aT:=ag bb;clear X Q bb)
     obtain⟨d,O⟩:∃d,d=w4.setCell (af gl (kl*2)) (.slice an (((L.take j).filter fun i=>decide (i<m)).length+1) ao):=⟨_,rfl⟩;have v:Hid (ni w2 base gl N.length cl LN LL K kl kr m fb nm L (j+1) j d (.slice an (((L.take j).filter fun i=>decide (i<m)).length+1) ao) vr vf):=by
      rw[O];exact ni.left aW.o T (by rw[<-H.o.1];exact J) bf aa aa aa bv (by rw[<-H.o.1,<-H.o.2];exact aX.o) aU.o (gI aT.o)
     have F:((L.take (j+1)).filter fun i=>decide (i<m)).length=((L.take j).filter fun i=>decide (i<m)).length+1:=by
      rw[ic T,mK,<-H.o.1];simp[J]
     rw[<-O];clear O a0 bd ck f4 aX aU aT aN bE bG cJ cI bh aW al f0 bw;generalize a9:((.slice an (((L.take j).filter fun i=>decide (i<m)).length+1) ao):Value)=bT at*;generalize b4:(vr:Value)=bU at*;have b5:∃a c,bT=.slice a (((L.take j).filter fun i=>decide (i<m)).length+1) c:=⟨_,_,a9.symm⟩;clear a9 b4;obtain⟨bV,bW,rfl⟩:=b5;obtain⟨A,P⟩:∃A,A=((L.take j).filter fun i=>decide (i<m)).length+1:=⟨_,rfl⟩
     first|rw[<-P]at F v |- |rw[<-P]at F v
     have bK:=ag F;have c5:A<=1000001:=aa;clear F P;obtain⟨u,ch,cj,ac,ci,ab⟩:=v.o;have b9:gl<d.heap.size:=by have:=ab.size;omega
     have b1:=ah ((u.get C).2.trans (by rw[upd_same]));have b2:=ah ((u.get bf).1.trans (by rw[upd_ne aa,upd_same]));have f2:=u.frozenAt (K*2+1);have am:=(u.get C).2;rw[upd_same]at am;have aZ:=ag ac;have ca:¬vf.ownBlock=some gl:=fun h=>bB u ac ai gl rfl h;have c6:=ab.size;clear u ch cj ac ci ab;refine au (fun W=>∃p:aS d,W=p.W) [11,12,13,14] [(0,false),(1,false),(2,false),(3,false),(4,true),(5,false),(6,false),(7,false),(8,true),(9,false)] ⟨⟨_,(aI _ _).drew⟩,rfl⟩ 5 ?_;refine aC 10 rfl fun K n=>?_;go_simp;refine n _ _ (fun _ _=>⟨⟨_,(aI _ d).alloc (aB _) _|>.drew⟩,rfl⟩) ?_;clear n K;refine aC 11 rfl fun K n=>?_;refine bC nG fb (w:=(d.alloc (.cells #[ae A] 3)).drew) (az aZ.o ((aI _ d).alloc (aB _) _|>.drew)) [.int .i64 A] rfl (by simp[Value.oneCell']) rfl (.tmp 92) (.tmp 98) rfl rfl d.heap.size rfl (jr _ _) dJ aa aH ?_;intro a8 a3 ap bg bc da de;refine n _ _ (fun _ h=>absurd ay h) ?_;clear n K;refine aG [12,13,14] ?_;have R:d.grownBy ap vf.ownBlock:=dR (bN ((aI _ d).alloc (aB _) _|>.drew)) bc;have a1:ax (fun k=>vf.ownBlock=some k) d ap:=(ax.refl _ d).grown R (fun k U=>.inl U);obtain⟨a5,a7⟩:=cu a1 b9 ca;have dl:=(a5 (K*2+1)).trans am;have f7:=(a7 (K*2+1)).trans f2;have bM:Hid (ni w2 base gl N.length cl LN LL K kl kr m fb nm L (j+1) (j+1) (ap.setCell (af gl (K*2+1)) (aA a8 (j+1+1) a3)) (.slice bV A bW) bU (aA a8 (j+1+1) a3)):=
      ni.Sq v.o T C aa cF bv (by rw[bK.o];exact bg) R
     clear a5 a7 a1 R bc bg am f2 b1 b2 aZ v;go_wp2
     go_roundg (L.length-(j+1))
     case measure=>omega
     case rel=>exact⟨j+1,_,_,_,by go_num,aa,aB _,bM⟩
    .have d1:decide ((i:Int)<(m:Int))=false:=aQ J;have d2:decide (i<m)=false:=aQ J;have al:w3.cell? (af gl (kr*2))=some vr:=(aN.get ce).1.trans (by rw[upd_same]);have f0:=aN.frozenAt (kr*2)
     go_wp2_with (at_builtin;refine bZ uw w2.heap.size bG [.int .u32 ad] rfl (by simp[Value.oneCell']) rfl _ _ rfl rfl _ rfl dJ aa (by have:=bh.size;omega) ?_;intro v1 w4 X Q bb;have a0:ax (fun k=>vr.ownBlock=some k) w3 w4:=(ax.refl _ w3).grown Q (fun k U=>.inl U);have bd:¬vr.ownBlock=some gl:=(fun h=>by have aF:=(bG.lt gl h).1;omega);obtain⟨a4,a6⟩:=cu a0 bw bd;have ck:=(a4 (kr*2)).trans al;have f4:=(a6 (kr*2)).trans f0;clear a4 a6;obtain⟨an,ao,rfl⟩:=fI X;have aX:=ag X;have aU:=ag Q;have aT:=ag bb;clear X Q bb)
     obtain⟨d,O⟩:∃d,d=w4.setCell (af gl (kr*2)) (.slice an (((L.take j).filter fun i=>!decide (i<m)).length+1) ao):=⟨_,rfl⟩;have v:Hid (ni w2 base gl N.length cl LN LL K kl kr m fb nm L (j+1) j d (.slice ar ((L.take j).filter fun i=>decide (i<m)).length av) (.slice an (((L.take j).filter fun i=>!decide (i<m)).length+1) ao) vf):=by
      rw[O];exact ni.right aW.o T (by rw[<-H.o.1];exact J) ce aa aa aa bv (by rw[<-H.o.1,<-H.o.2];exact aX.o) aU.o (gI aT.o)
     have F:((L.take (j+1)).filter fun i=>decide (i<m)).length=((L.take j).filter fun i=>decide (i<m)).length:=by
      rw[ic T,mK,<-H.o.1];simp[J]
     rw[<-O];clear O a0 bd ck f4 aX aU aT aN bE bG cJ cI bh aW al f0 bw;generalize a9:((.slice ar ((L.take j).filter fun i=>decide (i<m)).length av):Value)=bT at*;generalize b4:((.slice an (((L.take j).filter fun i=>!decide (i<m)).length+1) ao):Value)=bU at*;have b5:∃a c,bT=.slice a (((L.take j).filter fun i=>decide (i<m)).length) c:=⟨_,_,a9.symm⟩;clear a9 b4;obtain⟨bV,bW,rfl⟩:=b5;obtain⟨A,P⟩:∃A,A=((L.take j).filter fun i=>decide (i<m)).length:=⟨_,rfl⟩
     first|rw[<-P]at F v |- |rw[<-P]at F v
     have bK:=ag F;have c5:A<=1000001:=aa;clear F P;obtain⟨u,ch,cj,ac,ci,ab⟩:=v.o;have b9:gl<d.heap.size:=by have:=ab.size;omega
     have b1:=ah ((u.get C).2.trans (by rw[upd_same]));have b2:=ah ((u.get bf).1.trans (by rw[upd_ne aa,upd_same]));have f2:=u.frozenAt (K*2+1);have am:=(u.get C).2;rw[upd_same]at am;have aZ:=ag ac;have ca:¬vf.ownBlock=some gl:=fun h=>bB u ac ai gl rfl h;have c6:=ab.size;clear u ch cj ac ci ab;refine au (fun W=>∃p:aS d,W=p.W) [11,12,13,14] [(0,false),(1,false),(2,false),(3,false),(4,true),(5,false),(6,false),(7,false),(8,true),(9,false)] ⟨⟨_,(aI _ _).drew⟩,rfl⟩ 5 ?_;refine aC 10 rfl fun K n=>?_;go_simp;refine n _ _ (fun _ _=>⟨⟨_,(aI _ d).alloc (aB _) _|>.drew⟩,rfl⟩) ?_;clear n K;refine aC 11 rfl fun K n=>?_;refine bC nG fb (w:=(d.alloc (.cells #[ae A] 3)).drew) (az aZ.o ((aI _ d).alloc (aB _) _|>.drew)) [.int .i64 A] rfl (by simp[Value.oneCell']) rfl (.tmp 92) (.tmp 98) rfl rfl d.heap.size rfl (jr _ _) dJ aa aH ?_;intro a8 a3 ap bg bc da de;refine n _ _ (fun _ h=>absurd ay h) ?_;clear n K;refine aG [12,13,14] ?_;have R:d.grownBy ap vf.ownBlock:=dR (bN ((aI _ d).alloc (aB _) _|>.drew)) bc;have a1:ax (fun k=>vf.ownBlock=some k) d ap:=(ax.refl _ d).grown R (fun k U=>.inl U);obtain⟨a5,a7⟩:=cu a1 b9 ca;have dl:=(a5 (K*2+1)).trans am;have f7:=(a7 (K*2+1)).trans f2;have bM:Hid (ni w2 base gl N.length cl LN LL K kl kr m fb nm L (j+1) (j+1) (ap.setCell (af gl (K*2+1)) (aA a8 (j+1+1) a3)) (.slice bV A bW) bU (aA a8 (j+1+1) a3)):=
      ni.Sq v.o T C aa cF bv (by rw[bK.o];exact bg) R
     clear a5 a7 a1 R bc bg am f2 b1 b2 aZ v;go_wp2
     go_roundg (L.length-(j+1))
     case measure=>omega
     case rel=>exact⟨j+1,_,_,_,by go_num,aa,aB _,bM⟩
   .obtain rfl:j=L.length:=aa;clear bi bj bl bm bk G u1 u4 bq;go_wp2
    first|go_end0|go_ret
    obtain⟨bi,bj,bl,bm,bk,G⟩:=aV.o;have dS:=cp.o.size;have cB:=rZ m L;simp only[jO]at bi bj bl bk;rw[kD (yo cB),<-cB]at bm;exact⟨rfl,_,_,_,bi,bI bj aa,bI bl aa,bI bm aa,bk,
     ((cp.o.mono (S':=fun k=>k=gl\/w.heap.size<=k) (fun k h=>.inl h)).trans (G.mono (fun k h=>by rcases h with h|h;exact .inl h;exact .inr aa))).strip⟩
theorem yJ (a s tb E off cn gl cl base K V:Nat) (N:List Nd) (LN LL:Nat->Value) (w:World) (F:FT.At N (.leaf a) s) (f:(FT.leaf a).root s=K) (ao:N.length<=1000000)
  (i:w.cell? (af tb 4)=some (.slice (some (af E off)) N.length cn)) (B:bY oM 7 w (some (af E off)) N) (u:w.cell? (af tb 5)=some (aA gl N.length cl))
  (k:cK w base gl N.length cl LN LL):
  aK 96 #[aj tb,ae K,.map (some V)] w fun e w'=>e=.returned (.tuple #[])/\∃vf,(∃a m c,vf=.slice a m c)/\cK w' base gl N.length cl LN (upd LL K vf)/\(∀g,vf.ownBlock=some g->w.heap.size<=g/\g<w'.heap.size)/\ax (fun b=>b=gl) w w':=by
 obtain⟨ar,n0,l,n,q,r,y,t⟩:=mY B F.get;have v:=F.lt;have T:=gW w _ i;have aq:gl<w.heap.size:=(k.lt gl rfl).2;simp only at T;simp only[FT.top]at n0 l n q r t;rw[f]at n0 l n q r y t v;have P:=ag k;have R:=k.frozenAt (K*2+1);obtain⟨X,J⟩:=k.get v;have ab:=ag i;have ad:=ag B;have ac:=ag u;obtain⟨L,G⟩:∃L,L=LL K:=⟨_,rfl⟩;rw[<-G]at J;clear k B G;go_enter func96,ntmps96
 go_upto_region 0 with fail
 go_cut [6,7]from 6 (fun Y Z M=>∃x:Nat,Y=aj x/\Z=.pointer (some (af gl (K*2)))/\Hid (M.heap[x]? =some (.cells #[.int .u8 1,ae (-1),ae (-1),ae a,ae (a+1),ae 0,ae a] 163 (0,0)))/\Hid (Below w.heap.size w M)/\w.heap.size<=x)
 case first=>
  have am:=ah i;have an:=ah u;have ay:=ah n0;have aE:=ah l;have aF:=ah n;have aH:=ah q;have aJ:=ah r;have aL:=ah y;have aM:=ah t;clear i u n0 l n q r y t;refine au (fun W=>∃p:aS w,W=p.W) [15] [(0,false),(1,false),(2,false),(3,true),(4,false),(5,false),(6,true),(7,false),(8,false),(9,false),(10,true),(11,false),(12,false)] ⟨⟨_,(aI _ _).drew⟩,rfl⟩ 3 ?_;refine aC 13 rfl fun K f=>?_;go_simp;refine f _ _ (fun _ _=>⟨⟨_,(aI _ w).alloc (aB _) _|>.drew⟩,rfl⟩) ?_;clear f K;refine aC 14 rfl fun K f=>?_;go_simp;refine f _ _ (fun _ _=>⟨⟨_,(aI _ w).alloc (aB _) _|>.drew⟩,rfl⟩) ?_;clear f K;refine aG [15] ?_;go_wp2;go_meet;exact⟨w.heap.size,rfl,rfl,jr _ _,(aI _ w).alloc (aB _) _|>.drew,aB _⟩
 case rest=>
  obtain⟨x,rfl,rfl,C,h,aw⟩:=hcut;have U:x<wc.heap.size:=(aY.1 C.o).1;have z:Hid (cK wc base gl N.length cl LN LL):=az P.o h.o;have S:=z.o.frozenAt (K*2+1);have m1:=(z.o.get v).2;obtain⟨A,H⟩:∃A,A=LL K:=⟨_,rfl⟩;rw[<-H]at m1;clear H;have ai:(wc.alloc (.cells #[ae 0] 3)).cell? (af gl (K*2+1))=some A:=(((aI wc.heap.size wc).alloc (aB _) _).cell (p:=(af gl (K*2+1))) (by have:=h.o.size;show gl<_;omega)).trans m1;have ak:(wc.alloc (.cells #[ae 0] 3)).frozen? (af gl (K*2+1))=false:=(((aI wc.heap.size wc).alloc (aB _) _).frozen (p:=(af gl (K*2+1))) (by have:=h.o.size;show gl<_;omega)).trans S;clear n0 l n q r y t i u R X J;have av:=h.o.size;obtain⟨d,j⟩:∃d,d=(wc.alloc (.cells #[ae 0] 3)).setCell (af gl (K*2+1)) (aA wc.heap.size 1 1):=⟨_,rfl⟩;have D:ax (fun b=>b=gl) wc d:=by rw[j];exact((ax.refl (fun b=>b=gl) wc).alloc _).set (a:=(af gl (K*2+1))) _ (.inl rfl)
  have Q:Hid (cK d base gl N.length cl LN (upd LL K (aA wc.heap.size 1 1))):=by rw[j];exact cK.QV (az z.o ((aI _ _).alloc (aB _) _)) v _
  have O:Hid (ax (fun b=>b=gl) w d):=((ax.refl (fun b=>b=gl) w).below h.o).trans D;have ap:d.heap.size=wc.heap.size+1:=by rw[j];simp
  have I:=C.o;have aN:d.cell? (af x 0)=some (.int .u8 1):=((cu D U aa).1 0).trans (aD I);clear I
  go_upto_region 2 with fail
  rw[<-j];clear j;go_wp2;refine lq (kN rfl _ _ _) rfl ?_;exact⟨rfl,aA wc.heap.size 1 1,⟨_,_,_,rfl⟩,Q.o,fun g e=>by have al:=Oe e;omega,O.o⟩
end
section
open Go.RowKit Go.Sort Go.Shelf Go.Lib
def og (p q:Pt):Int:=if jh p.2.1 q.2.1=0 then jh p.2.2 q.2.2 else jh p.2.1 q.2.1
theorem qz (p q:Pt):og p q<0↔um p q:=by
 unfold og um jh
 repeat' split
 all_goals omega
theorem Tt (p q:Pt) (w:World):aK 71 #[jc p.1 p.2.1 p.2.2,jc q.1 q.2.1 q.2.2] w fun e w'=>e=.returned (ae (og p q))/\xK w w':=by
 have a:=ag (fun W=>Wi p.2.1 q.2.1 p.2.2 q.2.2 W);unfold og;generalize(if jh p.2.1 q.2.1=0 then jh p.2.2 q.2.2 else jh p.2.1 q.2.1)=r at*;go_enter func71,ntmps71
 go_wp2_with fail
 refine(a.o _).mono ?_;rintro e w1 ⟨rfl,h⟩;go_wp2;go_ret;exact⟨rfl,(((xK.refl _).alloc _).alloc _).trans h⟩
theorem BL:eY 71:=bO func71 aM rfl
def NJ (p q:Pt):Bool:=!decide (um q p)
def kC (l:List Pt):List Pt:=l.mergeSort NJ
theorem ja (l:List Pt):(kC l).Perm l:=ru l NJ
theorem jV (l:List Pt) (p:Pt):p∈kC l↔p∈l:=(ja l).mem_iff
theorem zD {l:List Pt} (h:(ids l).Nodup):(kC l).Pairwise um:=by
 have d:(kC l).Pairwise fun p q=>NJ p q=true:=ry (le:=NJ) (fun p q r j k=>by simp only[NJ,oG,gT]at*;unfold um at*;omega) (fun p q=>by simp only[NJ,A8,oG,gT];unfold um;omega) l;have c:(ids (kC l)).Nodup:=((ja l).map _).nodup_iff.2 h;have e:(kC l).Pairwise fun p q=>p.2.2≠q.2.2:=by
  unfold ids at c;exact dz.1 c
 refine(d.and e).imp fun{a b} g=>?_;have⟨f,i⟩:=g;simp only[NJ,oG,gT]at f;unfold um at*;omega
theorem KR {l S:List Pt} (h:(ids l).Nodup) (hS:S.Pairwise um) (a:∀p,p∈S↔p∈l):S=kC l:=
 qh wG DC hS (zD h) fun p=>by rw[a,jV]
theorem QX:SWO (ltOf og):=yE qz wG (fun _ _ _=>tH) (fun x y z=>by unfold um;omega)
theorem GI {l l':List Pt} (hu:(ids l).Nodup) (hp:l'.Perm l) (g:l'.Pairwise fun x y=>¬og y x<0):l'=kC l:=by
 refine KR hu ?_ fun p=>hp.mem_iff;have c:(ids l').Nodup:=(hp.map _).nodup_iff.2 hu;have d:l'.Pairwise fun p q=>p.2.2≠q.2.2:=dz.1 c;refine(g.and d).imp fun{a b} f=>?_;have⟨e,h⟩:=f;rw[qz]at e;unfold um at*;omega
theorem Oz {w:World} {base g c n:Nat} {l:List Pt} (i:l.length=n) (k:n<4611686018427387904) (h:w.ownsRow base 29 3 (aA g n c) n (l.flatMap dw)) (hu:(ids l).Nodup):
  aK 93 #[aA g n c,.func (.func 71) #[] #[]] w fun e w'=>
   e=.returned (.tuple #[])/\w'.ownsRow base 29 3 (aA g n c) n ((kC l).flatMap dw)/\w.grownBy w' (some g):=by
 have a:=mZ Tryz.I1 bg ai isAgg29 sizeOf29 nK og QX 71 #[] BL (fun x y W=>Tt x y W) i k h;change aK 93 _ _ _ at a;refine a.mono ?_;rintro e w' ⟨d,l',hp,j,b,f⟩;rw[GI hu hp j]at b;exact⟨d,b,f⟩
theorem yK {w:World} {base n:Nat} {v:Value} {l:List Pt} (b:l.length=n) (i:n<4611686018427387904) (h:w.ownsRow base 29 3 v n (l.flatMap dw)) (hu:(ids l).Nodup):
  aK 93 #[v,.func (.func 94) #[] #[]] w fun e w'=>
   e=.returned (.tuple #[])/\w'.ownsRow base 29 3 v n ((eZ l).flatMap dw)/\ax (fun k=>v.ownBlock=some k) w w':=by
 rcases h.2 with⟨rfl,c⟩|⟨g,j,m,rfl,o,_⟩
 .subst c;obtain rfl:l=[]:=gU b;refine(qo none 0 _ w).mono ?_;rintro e w' ⟨a,rfl⟩;exact⟨a,by simpa[eZ]using h,ax.refl _ _⟩
 .refine(KN b i h hu).mono ?_;rintro e w' ⟨a,f,d⟩;exact⟨a,f,(ax.refl _ w).grown d (fun k e=>.inl e)⟩
theorem Mh {w:World} {base n:Nat} {v:Value} {l:List Pt} (b:l.length=n) (i:n<4611686018427387904) (h:w.ownsRow base 29 3 v n (l.flatMap dw)) (hu:(ids l).Nodup):
  aK 93 #[v,.func (.func 71) #[] #[]] w fun e w'=>
   e=.returned (.tuple #[])/\w'.ownsRow base 29 3 v n ((kC l).flatMap dw)/\ax (fun k=>v.ownBlock=some k) w w':=by
 rcases h.2 with⟨rfl,c⟩|⟨g,j,m,rfl,o,_⟩
 .subst c;obtain rfl:l=[]:=gU b;refine(qo none 0 _ w).mono ?_;rintro e w' ⟨a,rfl⟩;exact⟨a,by simpa[kC]using h,ax.refl _ _⟩
 .refine(Oz b i h hu).mono ?_;rintro e w' ⟨a,f,d⟩;exact⟨a,f,(ax.refl _ w).grown d (fun k e=>.inl e)⟩
end
section
open Go.RowKit Go.Sort Go.Shelf Go.Lib Go.Maps
structure vJ (w:World) (lo fb n:Nat) (rv gv nv fv:Value) (l:List Pt):Prop where
 row:w.ownsRow lo 29 3 rv n (l.flatMap dw)
 DR:w.ownsRow lo 4 1 gv n ((List.replicate n false).map Value.bool)
 iH:nL w lo fb n fv
 Qu:lo<=fb
 jg:w.ownsRow lo 163 7 nv (aX n).length ((aX n).flatMap oM)
def Else (w:World) (S:Nat->Prop):Prop:=∀k,k<w.heap.size->S k->∃cs t fr,w.heap[k]? =some (.cells cs t fr)/\t≠29/\t≠4/\t≠236/\t≠163
theorem oW {S:Nat->Prop} {w w':World} {base:Nat} {e:TypeId} {sz:Nat} {v:Value} {n:Nat} {xs:List Value} (h:w.ownsRow base e sz v n xs) (K:ax S w w') (hS:∀k,k<w.heap.size->S k->∃cs t fr,w.heap[k]? =some (.cells cs t fr)/\t≠e):w'.ownsRow base e sz v n xs:=
 aR h K fun a b d=>by
  have⟨cs,t,fr,c,ht⟩:=hS a (h.lt a b).2 d;exact bn h c ht a b rfl
theorem vJ.kept {S:Nat->Prop} {w w':World} {lo fb n:Nat} {o j m i:Value} {l:List Pt} (h:vJ w lo fb n o j m i l) (K:ax S w w') (hS:Else w S):vJ w' lo fb n o j m i l:=by
 refine⟨oW h.row K fun k g f=>?_,oW h.DR K fun k g f=>?_,⟨bq K h.iH.blk fun f=>?_,oW h.iH.row K fun k g f=>?_⟩,h.Qu,oW h.jg K fun k g f=>?_⟩
 .obtain⟨cs,t,fr,a,b,c,d,e⟩:=hS k g f;exact⟨cs,t,fr,a,b⟩
 .obtain⟨cs,t,fr,a,b,c,d,e⟩:=hS k g f;exact⟨cs,t,fr,a,c⟩
 .have p:=(aY.1 h.iH.blk).1;have⟨cs,t,fr,a,b,c,d,e⟩:=hS fb p f;have:=a.symm.trans h.iH.blk;injection this with this;injection this with _ this _;exact d this
 .obtain⟨cs,t,fr,a,b,c,d,e⟩:=hS k g f;exact⟨cs,t,fr,a,e⟩
 .obtain⟨cs,t,fr,a,b,c,d,e⟩:=hS k g f;exact⟨cs,t,fr,a,e⟩
abbrev wY (rv xv gv:Value) (fb:Nat) (nv lv yv:Value) (n:Nat):Obj:=.cells #[rv,xv,gv,aj fb,nv,lv,yv,ae n] 146 (0,0)
theorem wZ:eY 91:=bO func91 aM rfl
theorem mF:eY 95:=bO func95 aM rfl
theorem vK:eY 92:=bO func92 aM rfl
theorem Mi:∃i,Tryz.prog.info? 4=some i/\i.zero=some (.bool false)/\i.size=1/\i.bytes=1:=by
 have h:(Tryz.prog.info? 4).map (fun i=>(i.zero,i.size,i.bytes))=some (some (.bool false),1,1):=aM;cases hi:Tryz.prog.info? 4 with
 |none=>rw[hi]at h;cases h
 |some i=>rw[hi]at h;injection h with h;injection h with b a;injection a with a c;exact⟨i,rfl,b,a,c⟩
theorem Mj:∃i,Tryz.prog.info? 150=some i/\i.zero=some (.agg #[aL,aL])/\i.size=2/\i.bytes=48:=by
 have h:(Tryz.prog.info? 150).map (fun i=>(i.zero,i.size,i.bytes))=some (some (.agg #[aL,aL]),2,48):=aM;cases hi:Tryz.prog.info? 150 with
 |none=>rw[hi]at h;cases h
 |some i=>rw[hi]at h;injection h with h;injection h with b a;injection a with a c;exact⟨i,rfl,b,a,c⟩
theorem OA (n:Nat) (d:n<=1000000) (W:World):(Instr.makeSlice 95 (.int .i64 n) (.int .i64 n)).run prog W=.ok (aA W.heap.size n n) (W.alloc (.cells (madeCells #[.bool false] n) 4)):=by
 have⟨i,hi,c,b,a⟩:=Mi;have h:=run_make (P:=prog) W 95 4 i (.bool false) underlying95 hi c .i64 .i64 n n aa (vC _) (by rw[a];omega) aa;rw[h,gY,b,iJ];rfl
theorem OB (n:Nat) (d:n<=1000000) (W:World):(Instr.makeSlice 144 (.int .i64 n) (.int .i64 n)).run prog W=.ok (aA W.heap.size n n) (W.alloc (.cells (madeCells #[aL,aL] (n*2)) 150)):=by
 have⟨i,hi,c,b,a⟩:=Mj;have h:=run_make (P:=prog) W 144 150 i (.agg #[aL,aL]) underlying144 hi c .i64 .i64 n n aa (vC _) (by rw[a];omega) aa;rw[h,gY,b];rfl
theorem yL (W:World) (base n:Nat) (a:base<=W.heap.size) (b:n<=1000000):(W.alloc (.cells (madeCells #[.bool false] n) 4)).ownsRow base 4 1 (aA W.heap.size n n) n ((List.replicate n false).map Value.bool):=by
 have h:=World.ownsRow_lit (e:=4) (size:=1) W (madeCells #[.bool false] n) n a dJ (by rw[size_madeCells,iJ]);rwa [toList_madeCells_one,<-Et]at h
theorem Mk (W:World) (base n:Nat) (d:base<=W.heap.size) (f:n<=1000000):cK (W.alloc (.cells (madeCells #[aL,aL] (n*2)) 150)) base W.heap.size n n (fun _=>aL) (fun _=>aL):=by
 have h:=World.ownsRow_lit (e:=150) (size:=2) W (madeCells #[aL,aL] (n*2)) n d dJ (by rw[size_madeCells]);have e:(madeCells #[aL,aL] (n*2)).toList=Ov (fun _=>aL) (fun _=>aL) n:=by
  apply xY;intro i;by_cases hi:i<n*2
  .have hd:i/2<n:=aa;have⟨a,b⟩:=tT (fun _=>aL) (fun _=>aL) hd;have c:(madeCells #[aL,aL] (n*2)).toList[i]? =some (aL):=by
    simp only[madeCells,IU,Array.getElem?_map,Array.getElem?_range,hi,gF,fT];rcases Eh i with hm|hm<;>simp[hm]
   rw[c];rcases Eh i with hm|hm
   .rw[show i=i/2*2 by omega,a]
   .rw[show i=i/2*2+1 by omega,b]
  .rw[oD (by simp[size_madeCells];omega),oD (by rw[qy];omega)]
 rw[e]at h;exact h
theorem Ju {w3 a:World} {base fb n:Nat} {d m0:Int} {l:Value} {e:TypeId} {sz:Nat} {v:Value} {m:Nat} {xs:List Value} (h:w3.ownsRow base e sz v m xs) (f:e≠236) (i:w3.heap[fb]? =some (lG d m0 l n)) (j:ax (fun k=>k=fb) w3 a):a.ownsRow base e sz v m xs:=
 aR h j fun g b c=>bn h i (iT f) g b c.symm
theorem OC {w w':World} {c:Nat} {f:Array MapEntry} {d:Nat} {base:Nat} {e:TypeId} {sz:Nat} {v:Value} {n:Nat} {xs:List Value} (h:w.ownsRow base e sz v n xs) (K:ax (fun k=>k=c) w w') (b:w.heap[c]? =some (.map f d)):w'.ownsRow base e sz v n xs:=
 aR h K fun o a j=>by
  subst j;rcases h.2 with⟨rfl,-⟩|⟨g,l,m,rfl,-,i,-⟩
  .cases a
  .injection a with a;subst a;rw[i]at b;cases b
theorem vJ.UU {w w':World} {f:Nat} {j:Array MapEntry} {i:Nat} {lo fb n:Nat} {g c d b:Value} {l:List Pt} (h:vJ w lo fb n g c d b l) (K:ax (fun k=>k=f) w w') (a:w.heap[f]? =some (.map j i)):vJ w' lo fb n g c d b l:=
 ⟨OC h.row K a,OC h.DR K a,⟨bq K h.iH.blk (fun e=>by subst e;have m:=h.iH.blk.symm.trans a;cases m),OC h.iH.row K a⟩,h.Qu,OC h.jg K a⟩
def dS (R:List Pt):List Nat:=(kC R).map fun p=>R.idxOf p
theorem QY {R:List Pt} {i:Nat} (hi:i<(dS R).length):bU R (dS R)[i]=(kC R)[i]'(by simpa[dS]using hi):=by
 have a:i<(kC R).length:=by simpa[dS]using hi
 have c:(kC R)[i]∈R:=(jV R _).1 (bF a);have b:=IE c;simp only[dS,fP,bU];rw[jb,cB b];simp
theorem jW (R:List Pt):(dS R).length=R.length:=by simp[dS,(ja R).length_eq]
theorem BM {R:List Pt} {p:Pt} (h:p∈R):bU R (R.idxOf p)=p:=by
 have a:=IE h;simp only[bU];rw[jb,cB a];simp
theorem qA {R:List Pt} (g:R.Pairwise kI) (hu:(ids R).Nodup):cz R (List.replicate R.length false) (dS R):=by
 have f:R.Nodup:=g.imp fun{a b} h e=>by subst e;exact tC _ h
 have j:(kC R).Nodup:=(ja R).nodup_iff.2 f;refine⟨g,hu,ay,?_,fun i=>?_,?_⟩
 .unfold dS;refine dz.2 (Ao (fun{p q} hp c h e=>h ?_) j);rw[<-BM ((jV R p).1 hp),<-BM ((jV R q).1 c),e]
 .rw[rz];constructor
  .intro h;unfold dS at h;obtain⟨p,hp,rfl⟩:=dA.1 h;rw[aO (IE ((jV R p).1 hp))]
  .intro h;have hi:i<R.length:=by
    by_cases d:i<R.length
    .exact d
    .rw[aN d]at h;cases h
   unfold dS;refine dA.2 ⟨R[i],(jV R _).2 (bF hi),?_⟩;exact List.Nodup.idxOf_getElem f i hi
 .unfold dS;refine dz.2 (Ao (fun{p q} hp c h=>?_) (zD hu));rw[BM ((jV R p).1 hp),BM ((jV R q).1 c)];exact h
theorem fM {j:Nat} (h:0<j):aX j=(dP 0 j).nodes 0:=by unfold aX;rw[aN aa]
theorem kZ {j:Nat} {t:FT} {s:Nat} (h:FT.At (aX j) t s):0<j:=by
 have:=h.lt;rw[dh]at this;omega
theorem lH {j:Nat} (h:0<j):(dP 0 j).root 0=2*j-2:=by
 have:=fA 0 j h;unfold FT.root;omega
theorem tV {j k:Nat} (h:k<(aX j).length):∃t s,FT.At (aX j) t s/\t.root s=k:=by
 have b:0<j:=by rw[dh]at h;omega
 have a:=jU j b;rw[fM b]at h a |-;rw[FT.iF]at h;have c:k<((dP 0 j).subs 0).length:=by rw[FT.fD];exact h
 exact⟨_,_,FT.kW _ 0 a _ (bF c),by rw[FT.oV];omega⟩
abbrev UW (t:FT) (s:Nat) (l r:FT) (q:Nat):Prop:=(t=l/\s=q)\/(t=r/\s=q+l.size)
structure yM (w:World) (B j:Nat) (R:List Pt) (YS:List Nat) (m:Nat) (LN LL:Nat->Value):Prop where
 UX:∀t s,FT.At (aX j) t s->(t.root s=2*j-2\/∃l r q,FT.At (aX j) (.node l r) q/\m<=(FT.node l r).root q/\UW t s l r q)->w.ownsRow B 27 1 (LN (t.root s)) (nl YS t).length (((nl YS t).map (jN R)).map (Value.int .u32))
 emp:∀l r q,FT.At (aX j) (.node l r) q->(FT.node l r).root q<m->LN (l.root q)=aL/\LN (r.root (q+l.size))=aL
 Br:∀l r q,FT.At (aX j) (.node l r) q->m<=(FT.node l r).root q->w.ownsRow B 3 1 (LL ((FT.node l r).root q)) (lf l.hi (nl YS (.node l r))).length ((lf l.hi (nl YS (.node l r))).map (Value.int .i64))
 DJ:∀k,k<(aX j).length->m<=k->(∃a n c,LL k=.slice a n c)/\∀g,(LL k).ownBlock=some g->B<=g/\g<w.heap.size
 nil:∀k,k<m->LL k=aL
 QZ:∀k,k<(aX j).length->∀g,(LN k).ownBlock=some g->B<=g/\g<w.heap.size
 Iz:∀i k,i<(aX j).length->k<(aX j).length->i≠k->∀g,(LN i).ownBlock=some g->(LN k).ownBlock≠some g
 Gw:∀i k,i<(aX j).length->k<(aX j).length->i≠k->∀g,(LL i).ownBlock=some g->(LL k).ownBlock≠some g
section
variable {w w':World} {B base gl n c j k:Nat} {R:List Pt} {YS:List Nat} {LN LL:Nat->Value}
theorem yM.leaf (h:yM w B j R YS (k+1) LN LL) (G:cK w base gl n c LN LL) {a s:Nat} (H:FT.At (aX j) (.leaf a) s) (I:(FT.leaf a).root s=k) (C:ax (fun b=>b=gl) w w') (O:B<=w.heap.size) {vf:Value} (M:∃a m c,vf=.slice a m c) (D:∀g,vf.ownBlock=some g->w.heap.size<=g/\g<w'.heap.size):
  yM w' B j R YS k LN (upd LL k vf):=by
 have J:∀l r q,FT.At (aX j) (.node l r) q->k<=(FT.node l r).root q->k+1<=(FT.node l r).root q:=fun l r q d f=>by
  by_cases e:(FT.node l r).root q=k
  .have:=(FT.At.unique H d (by rw[I,e])).1;cases this
  .omega
 have P:k<(aX j).length:=I▸H.lt;have S:=C.size;refine⟨fun t N d f=>?_,fun l r q d f=>h.emp l r q d aa,fun l r q d f=>?_,fun i d f=>?_,fun i d=>?_,fun i d g f=>?_,h.Iz,fun i E d f o g p v=>?_⟩
 .have o:=h.UX t N d (f.imp id fun⟨l,r,q,x,y,L⟩=>⟨l,r,q,x,J l r q x y,L⟩);exact aR o C fun g z A=>bB G o ai g (by rw[A];rfl) z
 .have p:=J l r q d f;have o:=h.Br l r q d p;rw[upd_ne aa];exact aR o C fun g z A=>bB G o ai g (by rw[A];rfl) z
 .by_cases e:i=k
  .subst e;rw[upd_same];exact⟨M,fun g u=>by have:=D g u;omega⟩
  .rw[upd_ne e];have⟨x,y⟩:=h.DJ i d aa;exact⟨x,fun g u=>by have:=y g u;omega⟩
 .rw[upd_ne aa];exact h.nil i aa
 .have:=h.QZ i d g f;omega
 .have K:∀i,i<(aX j).length->i≠k->∀g,(LL i).ownBlock=some g->g<w.heap.size:=fun i hi Q g u=>by
   by_cases e:i<k
   .rw[h.nil i aa]at u;cases u
   .exact((h.DJ i hi aa).2 g u).2
  by_cases e:i=k
  .subst e;rw[upd_same]at p;rw[upd_ne (iT o)]at v;have:=K E f (iT o) g v;have:=D g p;omega
  .rw[upd_ne e]at p;by_cases F:E=k
   .subst F;rw[upd_same]at v;have:=K i d e g p;have:=D g v;omega
   .rw[upd_ne F]at v;exact h.Gw i E d f o g p v
theorem yM.node (h:yM w B j R YS (k+1) LN LL) (W:cK w base gl n c LN LL) {l r:FT} {s:Nat} (H:FT.At (aX j) (.node l r) s) (af:(FT.node l r).wf) (X:(FT.node l r).root s=k) (M:ax (fun b=>b=gl) w w') (L:B<=w.heap.size) {vl vr vf:Value}
  (ab:w'.ownsRow w.heap.size 27 1 vl ((nl YS (.node l r)).filter fun i=>decide (i<l.hi)).length ((((nl YS (.node l r)).filter fun i=>decide (i<l.hi)).map (jN R)).map (Value.int .u32)))
  (ad:w'.ownsRow w.heap.size 27 1 vr ((nl YS (.node l r)).filter fun i=>!decide (i<l.hi)).length ((((nl YS (.node l r)).filter fun i=>!decide (i<l.hi)).map (jN R)).map (Value.int .u32)))
  (P:w'.ownsRow w.heap.size 3 1 vf (lf l.hi (nl YS (.node l r))).length ((lf l.hi (nl YS (.node l r))).map (Value.int .i64))) (O:∀g,vl.ownBlock=some g->vr.ownBlock≠some g):
  yM w' B j R YS k (upd (upd LN (l.root s) vl) (r.root (s+l.size)) vr) (upd LL k vf):=by
 have J:=kZ H;have an:=FT.wP l r s;have ao:=H.left.lt;have ap:=H.right.lt;have N:=FT.zy (fM J▸H);rw[lH J]at N;have Z:∀l' f q,FT.At (aX j) (.node l' f) q->(FT.node l' f).root q=k->l'=l/\f=r/\q=s:=fun l' f q d a=>by
  have⟨C,u⟩:=FT.At.unique d H (by rw[a,X]);cases C;exact⟨rfl,rfl,u⟩
 have Y:∀l' f q,FT.At (aX j) (.node l' f) q->(FT.node l' f).root q≠k->l'.root q≠l.root s/\l'.root q≠r.root (s+l.size)/\f.root (q+l'.size)≠l.root s/\f.root (q+l'.size)≠r.root (s+l.size):=fun l' f q d a=>by
  have hu:=fun e=>a ((FT.Jr (fM J▸d) (fM J▸H) e).trans X);exact⟨fun e=>hu (.inl e),fun e=>hu (.inr (.inl e)),fun e=>hu (.inr (.inr (.inl e))),fun e=>hu (.inr (.inr (.inr e)))⟩
 have aq:=M.size;have ac:=ab.lt;have ae:=ad.lt;have Q:=P.lt;have S:∀{v:Value} {m:Nat} {xs:List Value},w.ownsRow B 27 1 v m xs->w'.ownsRow B 27 1 v m xs:=fun p=>aR p M fun g C u=>bB W p ai g (by rw[u];rfl) C;have ak:∀{v:Value} {m:Nat} {xs:List Value},w.ownsRow B 3 1 v m xs->w'.ownsRow B 3 1 v m xs:=fun p=>aR p M fun g C u=>bB W p ai g (by rw[u];rfl) C;refine⟨fun t ah d a=>?_,fun l' f q d a=>?_,fun l' f q d a=>?_,fun i d a=>?_,fun i d=>?_,fun i d g a=>?_,fun i I d a p g D A=>?_,fun i I d a p g D A=>?_⟩
 .rcases a with a|⟨l',f,q,x,z,E⟩
  .rw[a,upd_ne (iT N.2),upd_ne (iT N.1),<-a];exact S (h.UX t ah d (.inl a))
  .by_cases e:(FT.node l' f).root q=k
   .obtain⟨rfl,rfl,rfl⟩:=Z l' f q x e;rcases E with⟨rfl,rfl⟩|⟨rfl,rfl⟩
    .rw[upd_ne aa,upd_same,tq YS t f af];exact bI ab L
    .rw[upd_same,oI YS l' t af];exact bI ad L
   .obtain⟨F,y,G,K⟩:=Y l' f q x e;have p:=h.UX t ah d (.inr ⟨l',f,q,x,aa,E⟩);rcases E with⟨rfl,rfl⟩|⟨rfl,rfl⟩
    .rw[upd_ne y,upd_ne F];exact S p
    .rw[upd_ne K,upd_ne G];exact S p
 .obtain⟨F,y,G,K⟩:=Y l' f q d aa;have⟨T,aj⟩:=h.emp l' f q d aa;rw[upd_ne y,upd_ne F,upd_ne K,upd_ne G];exact⟨T,aj⟩
 .by_cases e:(FT.node l' f).root q=k
  .obtain⟨rfl,rfl,rfl⟩:=Z l' f q d e;rw[e,upd_same];exact bI P L
  .rw[upd_ne e];exact ak (h.Br l' f q d aa)
 .by_cases e:i=k
  .subst e;rw[upd_same];have⟨x,T,C⟩:=fI P;exact⟨⟨_,_,_,C⟩,fun g o=>by have:=Q g o;omega⟩
  .rw[upd_ne e];have⟨x,z⟩:=h.DJ i d aa;exact⟨x,fun g o=>by have:=z g o;omega⟩
 .rw[upd_ne aa];exact h.nil i aa
 .by_cases e:i=r.root (s+l.size)
  .subst e;rw[upd_same]at a;have:=ae g a;omega
  .rw[upd_ne e]at a;by_cases u:i=l.root s
   .subst u;rw[upd_same]at a;have:=ac g a;omega
   .rw[upd_ne u]at a;have:=h.QZ i d g a;omega
 .have U:∀i,i<(aX j).length->∀g,(upd (upd LN (l.root s) vl) (r.root (s+l.size)) vr i).ownBlock=some g->(i=r.root (s+l.size)/\vr.ownBlock=some g/\w.heap.size<=g)\/(i=l.root s/\vl.ownBlock=some g/\w.heap.size<=g)\/(i≠l.root s/\i≠r.root (s+l.size)/\(LN i).ownBlock=some g/\g<w.heap.size):=fun i hi g o=>by
   by_cases e:i=r.root (s+l.size)
   .subst e;rw[upd_same]at o;exact .inl ⟨rfl,o,(ae g o).1⟩
   .rw[upd_ne e]at o;by_cases u:i=l.root s
    .subst u;rw[upd_same]at o;exact .inr (.inl ⟨rfl,o,(ac g o).1⟩)
    .rw[upd_ne u]at o;exact .inr (.inr ⟨u,e,o,(h.QZ i hi g o).2⟩)
  rcases U i d g D with⟨x,z,E⟩|⟨x,z,E⟩|⟨al,x,z,E⟩<;>rcases U I a g A with⟨F,y,G⟩|⟨F,y,G⟩|⟨am,F,y,G⟩
  .omega
  .exact O g y z
  .omega
  .exact O g z y
  .omega
  .omega
  .omega
  .omega
  .exact h.Iz i I d a p g z y
 .have ag:∀i,i<(aX j).length->i≠k->∀g,(LL i).ownBlock=some g->g<w.heap.size:=fun i hi O g o=>by
   by_cases e:i<k
   .rw[h.nil i aa]at o;cases o
   .exact((h.DJ i hi aa).2 g o).2
  by_cases e:i=k
  .subst e;rw[upd_same]at D;rw[upd_ne (iT p)]at A;have:=ag I a (iT p) g A;have:=Q g D;omega
  .rw[upd_ne e]at D;by_cases V:I=k
   .subst V;rw[upd_same]at A;have:=ag i d e g D;have:=Q g A;omega
   .rw[upd_ne V]at A;exact h.Gw i I d a p g D A
theorem yM.cur (h:yM w B j R YS (k+1) LN LL) {t:FT} {s:Nat} (a:FT.At (aX j) t s) (c:k<=t.root s):w.ownsRow B 27 1 (LN (t.root s)) (nl YS t).length (((nl YS t).map (jN R)).map (Value.int .u32)):=by
 have b:=kZ a;refine h.UX t s a ?_;rcases FT.Om (fM b▸a)with⟨rfl,rfl⟩|⟨l,r,q,h1,h2⟩
 .exact .inl (lH b)
 .refine .inr ⟨l,r,q,fM b▸h1,?_,h2⟩;have:=FT.wP l r q;rcases h2 with⟨rfl,rfl⟩|⟨rfl,rfl⟩<;>omega
theorem yM.all (h:yM w B j R YS 0 LN LL) {t:FT} {s:Nat} (a:FT.At (aX j) t s):w.ownsRow B 27 1 (LN (t.root s)) (nl YS t).length (((nl YS t).map (jN R)).map (Value.int .u32)):=by
 have b:=kZ a;refine h.UX t s a ?_;rcases FT.Om (fM b▸a)with⟨rfl,rfl⟩|⟨l,r,q,h1,h2⟩
 .exact .inl (lH b)
 .exact .inr ⟨l,r,q,fM b▸h1,bD _,h2⟩
end
end
end Go.Proofs.YtkjdbndekceffaaGreat
