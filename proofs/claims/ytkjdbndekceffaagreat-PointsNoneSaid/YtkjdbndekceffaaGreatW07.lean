/- Made small by a program. -/
import Derived.Test.YtkjdbndekceffaaGreatW05
set_option linter.unusedSimpArgs false
set_option linter.unusedVariables false
set_option maxRecDepth 100000
set_option maxHeartbeats 16000000
namespace Go.Proofs.YtkjdbndekceffaaGreat
open Tryz
section
open Go
namespace FT
theorem At.unique {N:List Nd}:∀{t b:FT} {s c:Nat},At N t s->At N b c->t.root s=b.root c->t=b/\s=c
 |leaf a,b,s,c,h,h',e=>by
  have g:=h.get;rw[e,h'.get]at g;injection g with g;cases b with
  |leaf a'=>
   simp only[top,Nd.mk.injEq]at g;obtain⟨-,-,-,k,-⟩:=g;have d:a'=a:=by omega
   subst d;unfold root at e;simp only[size]at e;exact⟨rfl,by omega⟩
  |node l r=>
   simp only[top,Nd.mk.injEq]at g;omega
 |node l r,b,s,c,h,h',e=>by
  have g:=h.get;rw[e,h'.get]at g;injection g with g;cases b with
  |leaf a'=>
   simp only[top,Nd.mk.injEq]at g;omega
  |node l' f=>
   simp only[top,Nd.mk.injEq]at g;obtain⟨-,i,j,-⟩:=g;have m:=l.size_pos;have n:=l'.size_pos;have o:=r.size_pos;have p:=f.size_pos;obtain⟨rfl,rfl⟩:=At.unique h.left h'.left (by unfold root;omega);obtain⟨rfl,-⟩:=At.unique h.right h'.right (by unfold root;omega);exact⟨rfl,rfl⟩
def subs:FT->Nat->List (FT×Nat)
 |leaf a,s=>[(leaf a,s)]
 |node l r,s=>l.subs s++r.subs (s+l.size)++[(node l r,s)]
theorem fu:∀(t:FT) (s:Nat),(t.subs s).length=t.size
 |leaf a,s=>rfl
 |node l r,s=>by simp only[subs,size,bq,fu l,fu r,dY,fB]
theorem nZ:∀(t:FT) (s i:Nat) (h:i<(t.subs s).length),(t.subs s)[i].1.root (t.subs s)[i].2=s+i
 |leaf a,s,i,h=>by
  have:i=0:=by simpa[subs]using h
  subst this;simp[subs,root,size]
 |node l r,s,i,h=>by
  have h':=h;rw[fu]at h';simp only[subs];by_cases b:i<l.size
  .rw[p9 (by rw[bq,fu,fu];omega),p9 (by rw[fu];exact b)];exact nZ l s i _
  .by_cases d:i<l.size+r.size
   .rw[p9 (by rw[bq,fu,fu];omega),uT (by rw[fu];omega)];have c:=nZ r (s+l.size) (i-(l.subs s).length) (by rw[fu,fu];omega);rw[c,fu];omega
   .simp only[size]at h';rw[uT (by rw[bq,fu,fu];omega)];simp only[List.getElem_singleton];unfold root;simp only[size];omega
theorem kg {N:List Nd}:∀(t:FT) (s:Nat),At N t s->∀p∈t.subs s,At N p.1 p.2
 |leaf a,s,h,p,hp=>by
  have:p=(leaf a,s):=by simpa[subs]using hp
  subst this;exact h
 |node l r,s,h,p,hp=>by
  simp only[subs,bT,ll]at hp;rcases hp with(hp|hp)|hp
  .exact kg l s h.left p hp
  .exact kg r _ h.right p hp
  .subst hp;exact h
theorem at_mem {t:FT} {b:FT} {a:Nat} (h:At (t.nodes 0) b a):(b,a)∈t.subs 0:=by
 have j:At (t.nodes 0) t 0:=⟨[],[],by simp,rfl⟩;have d:=h.lt;rw[ib]at d;have c:b.root a<(t.subs 0).length:=by rw[fu];exact d
 have g:=nZ t 0 _ c;have i:=kg t 0 j _ (bN c);have⟨e,f⟩:=At.unique h i (by rw[g];omega);have:(b,a)=(t.subs 0)[b.root a]:=Prod.ext e f;rw[this];exact bN c
theorem Ag:∀(t:FT) (s:Nat),∀p∈t.subs s,p=(t,s)\/∃l r q,(node l r,q)∈t.subs s/\(p=(l,q)\/p=(r,q+l.size))
 |leaf a,s,p,hp=>.inl (by simpa[subs]using hp)
 |node l r,s,p,hp=>by
  simp only[subs,bT,ll]at hp |-;rcases hp with(hp|hp)|hp
  .rcases Ag l s p hp with h|⟨l',d,q,b,c⟩
   .exact .inr ⟨l,r,s,.inr rfl,.inl h⟩
   .exact .inr ⟨l',d,q,.inl (.inl b),c⟩
  .rcases Ag r _ p hp with h|⟨l',d,q,b,c⟩
   .exact .inr ⟨l,r,s,.inr rfl,.inr h⟩
   .exact .inr ⟨l',d,q,.inl (.inr b),c⟩
  .exact .inl hp
def pars:FT->Nat->Nat->List Nat
 |leaf _,_,p=>[p]
 |node l r,s,p=>l.pars s ((node l r).root s)++r.pars (s+l.size) ((node l r).root s)++[p]
theorem iJ:∀(t:FT) (s p:Nat),(t.pars s p).length=t.size
 |leaf a,s,p=>rfl
 |node l r,s,p=>by simp only[pars,size,bq,iJ l,iJ r,dY,fB]
theorem Ct:∀(t:FT) (s p:Nat),(t.pars s p)[t.root s-s]? =some p
 |leaf a,s,p=>by simp[pars,root,size]
 |node l r,s,p=>by
  have e:(node l r).root s-s=l.size+r.size:=by unfold root;simp only[size];omega
  rw[e];simp only[pars];rw[mG (by rw[bq,iJ,iJ];omega),bq,iJ,iJ,kE];rfl
theorem rU:∀(t:FT) (s:Nat),∀p∈t.subs s,s<=p.2/\p.2+p.1.size<=s+t.size
 |leaf a,s,p,hp=>by
  have:p=(leaf a,s):=by simpa[subs]using hp
  subst this;exact⟨ay _,ay _⟩
 |node l r,s,p,hp=>by
  simp only[subs,bT,ll]at hp;simp only[size];rcases hp with(hp|hp)|hp
  .have:=rU l s p hp;omega
  .have:=rU r _ p hp;omega
  .subst hp;simp only[size];omega
theorem HZ {l r:FT} {s p i:Nat} (h:i<l.size):((node l r).pars s p)[i]? =(l.pars s ((node l r).root s))[i]? :=by
 simp only[pars];rw[dW,kY (by rw[iJ];exact h)]
theorem H5 {l r:FT} {s p i:Nat} (a:l.size<=i) (h:i<l.size+r.size):((node l r).pars s p)[i]? =(r.pars (s+l.size) ((node l r).root s))[i-l.size]? :=by
 simp only[pars];rw[kY (by rw[bq,iJ,iJ];exact h),mG (by rw[iJ];exact a),iJ]
theorem vD:∀(t:FT) (s p:Nat) (l r:FT) (q:Nat),(node l r,q)∈t.subs s->(t.pars s p)[l.root q-s]? =some ((node l r).root q)/\(t.pars s p)[r.root (q+l.size)-s]? =some ((node l r).root q)
 |leaf a,s,p,l,r,q,h=>by simp[subs]at h
 |node b e,s,p,l,r,q,h=>by
  simp only[subs,bT,ll]at h;have pl:=l.size_pos;have k:=r.size_pos;have j:=b.size_pos;have m:=e.size_pos;have g:l.root q=q+l.size-1:=rfl;have i:r.root (q+l.size)=q+l.size+r.size-1:=rfl;rcases h with(h|h)|h
  .obtain⟨c,d⟩:=vD b s ((node b e).root s) l r q h;have f:=rU b s _ h;simp only[size]at f;rw[HZ (by omega),HZ (by omega)];exact⟨c,d⟩
  .obtain⟨c,d⟩:=vD e _ ((node b e).root s) l r q h;have f:=rU e _ _ h;simp only[size]at f;rw[H5 (by omega) (by omega),H5 (by omega) (by omega)];rw[show l.root q-s-b.size=l.root q-(s+b.size) by omega,show r.root (q+l.size)-s-b.size=r.root (q+l.size)-(s+b.size) by omega];exact⟨c,d⟩
  .simp only[uh,node.injEq]at h;obtain⟨⟨rfl,rfl⟩,rfl⟩:=h;have c:=Ct l q ((node l r).root q);have d:=Ct r (q+l.size) ((node l r).root q);rw[HZ (by omega),H5 (by omega) (by omega)];rw[show r.root (q+l.size)-q-l.size=r.root (q+l.size)-(q+l.size) by omega];exact⟨c,d⟩
theorem H6 {t l r l' d:FT} {q c:Nat} (h:At (t.nodes 0) (node l r) q) (h':At (t.nodes 0) (node l' d) c)
  (e:l.root q=l'.root c\/l.root q=d.root (c+l'.size)\/r.root (q+l.size)=l'.root c\/r.root (q+l.size)=d.root (c+l'.size)):(node l r).root q=(node l' d).root c:=by
 have⟨a,b⟩:=vD t 0 0 l r q (at_mem h);have⟨f,g⟩:=vD t 0 0 l' d c (at_mem h');rcases e with e|e|e|e
 .rw[e,f]at a;injection a with a;exact a.symm
 .rw[e,g]at a;injection a with a;exact a.symm
 .rw[e,f]at b;injection b with b;exact b.symm
 .rw[e,g]at b;injection b with b;exact b.symm
theorem vE (l r:FT) (q:Nat):l.root q<r.root (q+l.size)/\r.root (q+l.size)<(node l r).root q:=by
 have:=l.size_pos;have:=r.size_pos;unfold root;simp only[size];omega
theorem yA {t l r:FT} {q:Nat} (h:At (t.nodes 0) (node l r) q):l.root q≠t.root 0/\r.root (q+l.size)≠t.root 0:=by
 have a:=rU t 0 _ (at_mem h);simp only[size]at a;have:=r.size_pos;unfold root;omega
theorem MV {t b:FT} {a:Nat} (h:At (t.nodes 0) b a):(b=t/\a=0)\/∃l r q,At (t.nodes 0) (node l r) q/\((b=l/\a=q)\/(b=r/\a=q+l.size)):=by
 have c:At (t.nodes 0) t 0:=⟨[],[],by simp,rfl⟩;rcases Ag t 0 _ (at_mem h)with h1|⟨l,r,q,h1,h2⟩
 .simp only[uh]at h1;exact .inl h1
 .refine .inr ⟨l,r,q,kg t 0 c _ h1,?_⟩;simpa only[uh]using h2
theorem pG:∀(t:FT) (s:Nat),t.wf->∀p∈t.subs s,p.1.wf
 |leaf a,s,h,p,hp=>by
  have:p=(leaf a,s):=by simpa[subs]using hp
  subst this;exact h
 |node l r,s,h,p,hp=>by
  simp only[subs,bT,ll]at hp;rcases hp with(hp|hp)|hp
  .exact pG l s h.1 p hp
  .exact pG r _ h.2.1 p hp
  .subst hp;exact h
theorem y5:∀(t:FT) (s:Nat),t.wf->∀p∈t.subs s,p.1.hi<=t.hi
 |leaf a,s,h,p,hp=>by
  have:p=(leaf a,s):=by simpa[subs]using hp
  subst this;exact ay _
 |node l r,s,h,p,hp=>by
  simp only[subs,bT,ll]at hp;have b:=eQ r h.2.1;have c:=h.2.2;show _<=r.hi;rcases hp with(hp|hp)|hp
  .have:=y5 l s h.1 p hp;omega
  .exact y5 r _ h.2.1 p hp
  .subst hp;exact ay _
end FT
def dV (YS:List Nat) (x:Nat):List Nat:=YS.filter fun i=>decide (i≠x)
theorem erase_filter {L:List Nat} (c:L.Nodup) {i x:Nat} (hi:i<L.length) (b:L[i]=x):L.eraseIdx i=L.filter fun k=>decide (k≠x):=by
 induction L generalizing i with
 |nil=>simp at hi
 |cons a L ih=>
  rw[lY]at c;cases i with
  |zero=>
   simp only[qC]at b;subst b;rw[List.eraseIdx_cons_zero,zg (by simp)];symm;refine mH.2 fun k e=>?_;simp only[bW];rintro rfl;exact c.1 e
  |succ i=>
   simp only[List.getElem_cons_succ]at b;have d:i<L.length:=by simpa using hi
   rw[List.eraseIdx_cons_succ,GN,ih c.2 d b];simp only[bW];rintro rfl;exact c.1 (b▸bN d)
theorem Jv (YS:List Nat) (x:Nat) (t:FT):nl (dV YS x) t=(nl YS t).filter fun k=>decide (k≠x):=by
 unfold nl dV;rw[qF,qF];refine lZ fun k _=>?_;rw[Bool.and_comm]
theorem vF {YS:List Nat} {x:Nat} {t:FT} (h:¬(t.lo<=x/\x<t.hi)):nl (dV YS x) t=nl YS t:=by
 rw[Jv];refine mH.2 fun k a=>?_;have:=(bK.1 a).2;simp only[bW]at this |-;rintro rfl;exact h this
theorem KL {YS:List Nat} (a:YS.Nodup) {x i:Nat} {t:FT} (hi:i<(nl YS t).length) (b:(nl YS t)[i]=x):nl (dV YS x) t=(nl YS t).eraseIdx i:=by
 rw[Jv];exact(erase_filter (L:=nl YS t) (show(nl YS t).Nodup from lg _ a) hi b).symm
section
variable {m:Nat} {L:List Nat} {i x:Nat}
theorem rV (hi:i<L.length):((lf m L).eraseIdx (i+1)).length=L.length:=by
 rw[zi,qW,aK (by omega)];omega
theorem vG (hi:i<L.length):(lf m (L.eraseIdx i)).length=L.length:=by
 rw[qW,zi,aK hi];omega
theorem BG {j:Nat} (a:j<=i):(L.eraseIdx i).take j=L.take j:=by
 by_cases h:i<L.length
 .rw[wH,CV (by rw[eB];omega),zL,Nat.min_eq_left a]
 .rw[List.eraseIdx_of_length_le (by omega)]
theorem Ta (hi:i<L.length) {j:Nat} (a:j<=i) (b:j<((lf m L).eraseIdx (i+1)).length) (c:j<(lf m (L.eraseIdx i)).length):((lf m L).eraseIdx (i+1))[j]=(lf m (L.eraseIdx i))[j]:=by
 rw[List.getElem_eraseIdx,dif_pos (by omega),o5,o5,BG a]
theorem Tc (hi:i<L.length) (e:L[i]=x) {j:Nat} (k:i<j) (f:j<((lf m L).eraseIdx (i+1)).length) (g:j<(lf m (L.eraseIdx i)).length):((lf m L).eraseIdx (i+1))[j]-(if x<m then 1 else 0)=(lf m (L.eraseIdx i))[j]:=by
 have a:(L.take (j+1)).countP (fun i=>decide (i<m))=((L.eraseIdx i).take j).countP (fun i=>decide (i<m))+(if x<m then 1 else 0):=by
  have b:(L.eraseIdx i).take j=(L.take (j+1)).eraseIdx i:=by
   rw[wH,wH,List.take_append,zL,eB,zL,List.drop_take];rw[show min j i=i by omega,show min i (j+1)=i by omega,show j-min i L.length=j+1-(i+1) by omega]
  rw[b,wH,List.countP_append];have l:i<(L.take (j+1)).length:=by rw[eB];omega
  have c:L.take (j+1)=(L.take (j+1)).take i++x::(L.take (j+1)).drop (i+1):=by
   have d:(L.take (j+1))[i]=x:=by rw[wT];exact e
   rw[<-d,List.getElem_cons_drop,ji]
  conv=>lhs;rw[c]
  rw[List.countP_append,tX];by_cases h:x<m<;>simp[h]<;>omega
 rw[List.getElem_eraseIdx,dif_neg (by omega),o5,o5,a];split<;>simp
theorem Pk (hi:i<L.length) (a:L[i]=x) (b:i+1<(lf m L).length) (c:i<(lf m L).length):(lf m L)[i+1]-(lf m L)[i]=if x<m then 1 else 0:=by
 rw[o5,o5,dZ hi,List.countP_append,a];by_cases h:x<m<;>simp[h]<;>omega
def yN (m:Nat) (L:List Nat) (i j:Nat):List Int:=(lf m (L.eraseIdx i)).take j++((lf m L).eraseIdx (i+1)).drop j
theorem KM (hi:i<L.length):yN m L i (i+1)=(lf m L).eraseIdx (i+1):=by
 have b:=rV (m:=m) hi;have c:=vG (m:=m) hi;unfold yN;have e:(lf m (L.eraseIdx i)).take (i+1)=((lf m L).eraseIdx (i+1)).take (i+1):=by
  refine qI (by simp[b,c]) fun j a d=>?_;rw[wT,wT];rw[eB]at a;exact(Ta hi (by omega) _ _).symm
 rw[e,ji]
theorem MW (hi:i<L.length):yN m L i L.length=lf m (L.eraseIdx i):=by
 have a:=rV (m:=m) hi;have b:=vG (m:=m) hi;unfold yN;rw[jQ (by omega),nL (by omega),iE]
theorem pI (hi:i<L.length) {j:Nat} (c:j<=L.length):(yN m L i j).length=L.length:=by
 have a:=rV (m:=m) hi;have b:=vG (m:=m) hi;unfold yN;rw[bq,eB,kS];omega
theorem Jw (hi:i<L.length) {j:Nat} (a:j<L.length):(yN m L i j)[j]'(by rw[pI hi (by omega)];exact a)=((lf m L).eraseIdx (i+1))[j]'(by rw[rV hi];exact a):=by
 have b:=vG (m:=m) hi;simp only[yN];rw[uT (by rw[eB];omega),List.getElem_drop];congr 1;rw[eB];omega
theorem MX (hi:i<L.length) (c:L[i]=x) {j:Nat} (b:i<j) (a:j<L.length):(yN m L i j).set j ((yN m L i j)[j]'(by rw[pI hi (by omega)];exact a)-(if x<m then 1 else 0))=yN m L i (j+1):=by
 have d:=rV (m:=m) hi;have e:=vG (m:=m) hi;rw[Jw hi a,Tc hi c b (by omega) (by omega)];unfold yN;rw[sK _ _ (by rw[eB];omega),eB,show j-min j (lf m (L.eraseIdx i)).length=0 by omega];rw[dZ (by omega),dW];congr 1;rw[kZ (by omega)];rfl
end
namespace FT
theorem rq:∀(t:FT) (s:Nat),t.wf->∀p∈t.subs s,t.lo<=p.1.lo/\p.1.hi<=t.hi
 |leaf a,s,h,p,hp=>by
  have:p=(leaf a,s):=by simpa[subs]using hp
  subst this;exact⟨ay _,ay _⟩
 |node l r,s,h,p,hp=>by
  simp only[subs,bT,ll]at hp;have b:=eQ r h.2.1;have d:=eQ l h.1;have c:=h.2.2;show l.lo<=_/\_<=r.hi;rcases hp with(hp|hp)|hp
  .have:=rq l s h.1 p hp;omega
  .have:=rq r _ h.2.1 p hp;omega
  .subst hp;exact⟨ay _,ay _⟩
theorem vH:∀(t:FT) (s x:Nat),t.wf->∀p∈t.subs s,p.1.lo<=x->x<p.1.hi->p.1.root p.2∈t.path s x
 |leaf a,s,x,h,p,hp,b,c=>by
  have:p=(leaf a,s):=by simpa[subs]using hp
  subst this;simp[path,root,size]
 |node l r,s,x,h,p,hp,b,c=>by
  simp only[subs,bT,ll]at hp;rw[path];rcases hp with(hp|hp)|hp
  .have:=rq l s h.1 p hp;rw[aK (by omega)];exact kC _ (vH l s x h.1 p hp b c)
  .have:=rq r _ h.2.1 p hp;have:=h.2.2;rw[aI (by omega)];exact kC _ (vH r _ x h.2.1 p hp b c)
  .subst hp;exact mZ
theorem mg:∀(t:FT) (s x:Nat),t.wf->t.lo<=x->x<t.hi->∀k∈t.path s x,∃p∈t.subs s,p.1.root p.2=k/\p.1.lo<=x/\x<p.1.hi
 |leaf a,s,x,h,b,c,k,hk=>by
  have:k=s:=by simpa[path]using hk
  subst this;exact⟨(leaf a,k),by simp[subs],by simp[root,size],b,c⟩
 |node l r,s,x,h,b,c,k,hk=>by
  rw[path,gP]at hk;have f:=h.2.2;rcases hk with rfl|hk
  .exact⟨(node l r,s),by simp[subs],rfl,b,c⟩
  .split at hk
   .rename_i d;have⟨p,hp,e⟩:=mg l s x h.1 b d k hk;exact⟨p,by simp[subs,hp],e⟩
   .rename_i d;have⟨p,hp,e⟩:=mg r _ x h.2.1 (by omega) c k hk;exact⟨p,by simp[subs,hp],e⟩
theorem rW:∀(t:FT) (s x:Nat),t.wf->t.lo<=x->x<t.hi->(t.path s x).Pairwise (·>·)
 |leaf a,s,x,h,c,d=>by simp[path]
 |node l r,s,x,h,c,d=>by
  have j:=h.2.2;have g:∀(t:FT) (s:Nat),∀p∈t.subs s,p.1.root p.2<=t.root s:=fun t s p hp=>by
   have:=rU t s p hp;have:=p.1.size_pos;have:=t.size_pos;unfold root;omega
  have m:=vE l r s;by_cases b:x<l.hi
  .rw[path,aK b,lh];refine⟨fun k f=>?_,rW l s x h.1 c b⟩;obtain⟨p,hp,e,-⟩:=mg l s x h.1 c b k f;have:=g l s p hp;omega
  .have i:r.lo<=x:=by omega
   rw[path,aI b,lh];refine⟨fun k f=>?_,rW r _ x h.2.1 i d⟩;obtain⟨p,hp,e,-⟩:=mg r _ x h.2.1 i d k f;have:=g r _ p hp;omega
end FT
theorem cB.drop {R:List Pt} {gone:List Bool} {YS:List Nat} (h:cB R gone YS) {x:Nat} (c:gone[x]? =some false):cB R (gone.set x true) (dV YS x):=by
 have b:=(fC.1 c).1;refine⟨h.zT,h.ids,by rw[jY];exact h.SI,lg _ h.nodup,fun i=>?_,lg _ h.Sw⟩;unfold dV;rw[bK,h.live,bW,List.getElem?_set];by_cases e:x=i
 .subst e;simp[b]
 .rw[aI e];exact⟨fun h=>h.1,fun h=>⟨h,fun a=>e a.symm⟩⟩
end
section
open Go Go.RowKit
def Jy (x1 x2 y1 y2:Int) (p:Pt):Bool:=decide (x1<=p.1/\p.1<=x2/\y1<=p.2.1/\p.2.1<=y2)
def hasB (l:List Pt) (x1 x2 y1 y2:Int):List Int:=eD (ids (l.filter (Jy x1 x2 y1 y2)))
structure ru (R:List Pt) (YS:List Nat) (l:List Pt):Prop where
 iP:(ids l).Nodup
 mem:∀p,p∈l↔∃i∈YS,bV R i=p
theorem ry {l:List Int} (f:l.Pairwise (·<=·)) (x:Int) {i:Nat} (hi:i<l.length):(aR l x).1<=i↔x<=l[i]:=by
 have⟨g,c,d⟩:=lJ (fun i=>decide (x<=l.getD i 0)) l.length (fun i j k b hi=>by
  by_cases e:i=j
  .exact e▸hi
  .have:=gH.1 f i j (by omega) b (by omega);simp[b,show i<l.length by omega]at hi |-;omega) l.length 0 l.length 0 (by omega) (by omega) (ay _) (by omega) (by omega)
 constructor
 .intro h;have:=d i h hi;simpa[hi]using this
 .intro h;by_cases a:(aR l x).1<=i
  .exact a
  .have:=c i (by unfold aR at a;omega);simp[hi]at this;omega
theorem rz {l:List Int} (f:l.Pairwise (·<=·)) (x:Int) {i:Nat} (hi:i<l.length):i<(aP l x).1↔l[i]<=x:=by
 have⟨g,c,d⟩:=lJ (fun i=>decide (x<l.getD i 0)) l.length (fun i j k b hi=>by
  by_cases e:i=j
  .exact e▸hi
  .have:=gH.1 f i j (by omega) b (by omega);simp[b,show i<l.length by omega]at hi |-;omega) l.length 0 l.length 0 (by omega) (by omega) (ay _) (by omega) (by omega)
 constructor
 .intro h;have:=c i h;simpa[hi]using this
 .intro h;by_cases a:i<(aP l x).1
  .exact a
  .have:=d i (by unfold aP at a;omega) hi;simp[hi]at this;omega
theorem cB.Ro {R:List Pt} {gone:List Bool} {YS:List Nat} (h:cB R gone YS):(bU R).Pairwise (·<=·):=dE.2 (h.zT.imp fun h=>by unfold jV at h;omega)
section
variable {R:List Pt} {gone:List Bool} {YS:List Nat} {l:List Pt}
theorem dF {i:Nat} (hi:i<R.length):bV R i=R[i]:=by simp[bV,hi]
theorem vI (c:cB R gone YS) (x1 x2 y1 y2:Int) (i:Nat):i∈(kV R YS x1 x2 y1 y2).1↔i∈YS/\Jy x1 x2 y1 y2 (bV R i)=true:=by
 unfold kV;split
 .rename_i h;refine⟨fun k=>absurd k gZ,fun⟨j,d⟩=>?_⟩;have hi:=c.lt j;rcases h with h|h|h
  .subst h;simp at hi
  .unfold Jy at d;simp at d;omega
  .unfold Jy at d;simp at d;omega
 .rename_i h;have e:0<R.length:=by
   cases R with
   |nil=>simp at h
   |cons a b=>simp
  have m:y1<=y2:=by omega
  have⟨w1,w2,w3⟩:=bO 0 R.length e;show i∈(down _ _ _ _ _ _ _).1↔_;rw[uZ _ w1 c.le m i,c.top e];refine and_congr_right fun hi=>?_;have f:=c.lt hi;have g:i<(bU R).length:=by unfold bU;simpa using f
  have l:(bU R)[i]=(bV R i).1:=by rw[dF f];simp[bU]
  rw[ry c.Ro x1 g,rz c.Ro x2 g,l];unfold Jy kR;simp only[bW]
theorem H7 (c:cB R gone YS) (x1 x2 y1 y2:Int):(kV R YS x1 x2 y1 y2).1.Nodup:=by
 unfold kV;split
 .exact oK
 .rename_i h;have d:0<R.length:=by
   cases R with
   |nil=>simp at h
   |cons a b=>simp
  have e:y1<=y2:=by omega
  have⟨w1,w2,w3⟩:=bO 0 R.length d;exact zR _ w1 c.nodup c.le e
theorem D6 (b:cB R gone YS) {i k:Nat} (hi:i<R.length) (a:k<R.length) (e:jw R i=jw R k):i=k:=by
 unfold jw at e;rw[dF hi,dF a]at e;have hid:=dE.1 b.ids;rcases Nat.lt_trichotomy i k with h|h|h
 .exact absurd e (gH.1 hid i k hi a h)
 .exact h
 .exact absurd e.symm (gH.1 hid k i a hi h)
theorem MZ {a b:List Int} (f:a.Nodup) (g:b.Nodup) (h:∀x,x∈a↔x∈b):eD a=eD b:=by
 have hp:a.Perm b:=(yu f g).2 h;have i:(eD a).Pairwise (·<=·):=(qA (le:=fun x y:Int=>decide (x<=y)) (fun a b c d e=>by simp at*;omega) (fun a b=>by simp;omega) a).imp (fun h=>by simpa using h);have j:(eD b).Pairwise (·<=·):=(qA (le:=fun x y:Int=>decide (x<=y)) (fun a b c d e=>by simp at*;omega) (fun a b=>by simp;omega) b).imp (fun h=>by simpa using h);exact GK (fun x y _ _ d e=>by omega) i j (((qz a _).trans hp).trans (qz b _).symm)
theorem H8 (a:cB R gone YS) (d:ru R YS l) (x1 x2 y1 y2:Int):eD ((kV R YS x1 x2 y1 y2).1.map (jw R))=hasB l x1 x2 y1 y2/\(kV R YS x1 x2 y1 y2).1.length=(l.filter (Jy x1 x2 y1 y2)).length:=by
 have g:((kV R YS x1 x2 y1 y2).1.map (jw R)).Nodup:=by
  refine dE.2 (zf (fun{i k} hi m h e=>h ?_) (H7 a x1 x2 y1 y2));exact D6 a (a.lt ((vI a x1 x2 y1 y2 i).1 hi).1) (a.lt ((vI a x1 x2 y1 y2 k).1 m).1) e
 have j:(ids (l.filter (Jy x1 x2 y1 y2))).Nodup:=by
  have h:=dE.1 d.iP;exact dE.2 (lg _ h)
 have f:∀x,x∈(kV R YS x1 x2 y1 y2).1.map (jw R)↔x∈ids (l.filter (Jy x1 x2 y1 y2)):=fun x=>by
  unfold ids;rw[dI,dI];constructor
  .rintro⟨i,hi,rfl⟩;have⟨b,c⟩:=(vI a x1 x2 y1 y2 i).1 hi;exact⟨bV R i,bK.2 ⟨(d.mem _).2 ⟨i,b,rfl⟩,c⟩,rfl⟩
  .rintro⟨p,hp,rfl⟩;have⟨b,c⟩:=bK.1 hp;obtain⟨i,hi,rfl⟩:=(d.mem p).1 b;exact⟨i,(vI a x1 x2 y1 y2 i).2 ⟨hi,c⟩,rfl⟩
 refine⟨MZ g j f,?_⟩;have:=((yu g j).2 f).length_eq;unfold ids at this;simpa using this
theorem ru.len (a:cB R gone YS) (b:ru R YS l):YS.length=l.length:=by
 have f:(YS.map (jw R)).Nodup:=dE.2 (zf (fun{i k} hi c h e=>h (D6 a (a.lt hi) (a.lt c) e)) a.nodup);have d:∀x,x∈YS.map (jw R)↔x∈ids l:=fun x=>by
  unfold ids;rw[dI,dI];constructor
  .rintro⟨i,hi,rfl⟩;exact⟨_,(b.mem _).2 ⟨i,hi,rfl⟩,rfl⟩
  .rintro⟨p,hp,rfl⟩;obtain⟨i,hi,rfl⟩:=(b.mem p).1 hp;exact⟨i,hi,rfl⟩
 have:=((yu f b.iP).2 d).length_eq;unfold ids at this;simpa using this
theorem ru.drop (d:cB R gone YS) (f:ru R YS l) {x:Nat} (b:x<R.length) (h:x∈YS):ru R (dV YS x) (l.filter fun p=>decide (p≠R[x])):=by
 refine⟨dE.2 (lg _ (dE.1 f.iP)),fun p=>?_⟩;rw[bK,bW,f.mem];unfold dV;constructor
 .rintro⟨⟨i,hi,rfl⟩,a⟩;refine⟨i,bK.2 ⟨hi,?_⟩,rfl⟩;rw[bW];rintro rfl;exact a (dF b)
 .rintro⟨i,hi,rfl⟩;have⟨c,a⟩:=bK.1 hi;refine⟨⟨i,c,rfl⟩,fun e=>?_⟩;rw[bW]at a;apply a;have g:=d.lt c;refine D6 d g b ?_;unfold jw;rw[e,dF b]
end
theorem yB {l:List Pt} (hu:(ids l).Nodup) (YS:List Nat) (h:∀i,i∈YS↔i<(eO l).length):ru (eO l) YS l:=by
 refine⟨hu,fun p=>?_⟩;rw[<-vo];constructor
 .intro hp;have⟨i,hi,e⟩:=jk hp;exact⟨i,(h i).2 hi,by rw[dF hi];exact e⟩
 .rintro⟨i,hi,rfl⟩;have:=(h i).1 hi;rw[dF this];exact bN this
end
section
open Go.RowKit
attribute [local irreducible] wpQuiet
theorem rA (l:List Int):(eD l).Pairwise (·<=·):=
 (qA (le:=fun x y:Int=>decide (x<=y)) (fun a b c d e=>by simp at*;omega) (fun a b=>by simp;omega) l).imp (fun h=>by simpa using h)
theorem D7 {l S:List Int} (a:S.Pairwise (·<=·)) (hp:S.Perm l):eD l=S:=
 GK (fun x y _ _ b c=>by omega) (rA l) a ((qz l _).trans hp.symm)
end
section
open Go.RowKit
theorem bM (x:Nat) (h:x<2^64) (a:x≠0):1<=Lib.bitLen x/\2^(Lib.bitLen x-1)<=x/\x<2^Lib.bitLen x:=Lib.bitLenAux_bounds 64 x h a
theorem yC:Lib.bitLen 0=0:=rfl
theorem fw {a b:Nat} (e:a<=b) (h:b<2^64):Lib.bitLen a<=Lib.bitLen b:=by
 by_cases c:a=0
 .subst c;rw[yC];exact bf _
 .have d:=bM a (by omega) c;have f:=bM b h (by omega);have:=(GL (by decide:1<2)).1 (qE d.2.1 (qE e f.2.2));omega
theorem yD {d e:Nat} (hd:0<d) (h:d<2^62) (a:e<=d/2):Lib.bitLen e+1<=Lib.bitLen d:=by
 have b:Lib.bitLen d=1+Lib.bitLen (d/2):=Lib.bitLen_half _ (by omega) (by omega);have c:=fw a (by omega);omega
end
section
open Go Go.RowKit
theorem Ah (p:Nat->Bool):∀(f lo hi k:Nat),hi-lo<=f->hi-lo<1000000->(bsrch p f lo hi k).2<=k+Lib.bitLen (hi-lo):=by
 intro f
 induction f with
 |zero=>
  intro lo hi k a _;simp only[bsrch];omega
 |succ f ih=>
  intro lo hi k a d;simp only[bsrch];by_cases h:lo<hi
  .rw[aK h];have b:Lib.bitLen (hi-lo)=1+Lib.bitLen ((hi-lo)/2):=Lib.bitLen_half _ (by omega) (by omega);split
   .have:=ih lo (lo+(hi-lo)/2) (k+1) (by omega) (by omega);rw[show lo+(hi-lo)/2-lo=(hi-lo)/2 by omega]at this;omega
   .have:=ih (lo+(hi-lo)/2+1) hi (k+1) (by omega) (by omega);have c:Lib.bitLen (hi-(lo+(hi-lo)/2+1))<=Lib.bitLen ((hi-lo)/2):=fw (by omega) (by omega);omega
  .rw[aI h];simp
theorem ko (l:List Int) (x:Int) (h:l.length<1000000):(aR l x).2<=Lib.bitLen l.length:=by
 have:=Ah (fun i=>decide (x<=l.getD i 0)) l.length 0 l.length 0 (by omega) (by omega);simpa[aR]using this
theorem ku (l:List Int) (x:Int) (h:l.length<1000000):(aP l x).2<=Lib.bitLen l.length:=by
 have:=Ah (fun i=>decide (x<l.getD i 0)) l.length 0 l.length 0 (by omega) (by omega);simpa[aP]using this
section
variable {R:List Pt} {gone:List Bool} {YS:List Nat}
theorem cB.Pm (h:cB R gone YS):YS.length<=R.length:=by
 have hp:YS.Perm ((List.range R.length).filter fun i=>decide (i∈YS)):=(yu h.nodup (List.nodup_range.filter _)).2 fun i=>by
  rw[bK,ug,bW];exact⟨fun hi=>⟨h.lt hi,hi⟩,fun hi=>hi.2⟩
 rw[hp.length_eq];exact bJ (gK _ _) (by simp)
theorem KN (i:cB R gone YS) (o:R.length<=100000) (x1 x2 y1 y2:Int):(kV R YS x1 x2 y1 y2).2<=8*Lib.bitLen R.length+1:=by
 unfold kV;split
 .exact bf _
 .rename_i h;have g:0<R.length:=by
   cases R with
   |nil=>simp at h
   |cons a b=>simp
  have⟨w1,w2,w3⟩:=bO 0 R.length g;have j:=i.Pm;have c:=ko (bU R) x1 (by simp[bU];omega);have d:=ku (bU R) x2 (by simp[bU];omega);have e:=ko (iW R YS) y1 (by simp[iW];omega);have f:=ku (iW R YS) y2 (by simp[iW];omega);rw[show(bU R).length=R.length by simp[bU]]at c d;rw[show(iW R YS).length=YS.length by simp[iW]]at e f;have k:=fw j (by omega);have p:=(bM R.length (by omega) (by omega)).2.2;have l:=uz 0 R.length (Lib.bitLen R.length) (by omega);have m:=@Ko YS (kR R) y1 y2 (aR (bU R) x1).1 (aP (bU R) x2).1 (dK 0 R.length) w1 0;have n:=FT.zQ (dK 0 R.length) w1 0 (aR (bU R) x1).1 (aP (bU R) x2).1;show _+_+_+_+_<=_;omega
end
end
section
open Go.RowKit Go.Maps
theorem vJ:∀(a b:List Int),a.Nodup->(∀x∈a,x∈b)->a.length<=b.length
 |[],b,_,_=>bf _
 |x::a,b,h,c=>by
  rw[lY]at h;have d:=c x (by simp);have g:∀y∈a,y∈b.erase x:=by
   intro y f;have i:y≠x:=fun e=>h.1 (e▸f);exact(List.mem_erase_of_ne i).2 (c y (by simp[f]))
  have:=vJ a (b.erase x) h.2 g;rw[List.length_erase_of_mem d]at this;have:0<b.length:=List.length_pos_of_mem d;simp only[dY];omega
def IsM {H:Type} (kk vk:IntKind) (D:DataW H) (f:Int->Option Int) (s:List Int):Prop:=
 Tidy D/\Maps.size D=s.length/\s.Nodup/\(∀x,x∈s↔(f x).isSome=true)/\
  ∀x,has D (.int kk x)=(f x).isSome/\∀z,D.atKey (.int kk x) z=(match f x with|none=>z|some v=>.lit (.int vk v))
def Fs (f:Int->Option Int) (x v:Int):Int->Option Int:=fun y=>if y=x then some v else f y
theorem IsM.empty {H:Type} (a b:IntKind):IsM (H:=H) a b (.map []) (fun _=>none) []:=
 ⟨tidy_empty,rfl,oK,by simp,fun x=>⟨rfl,fun z=>rfl⟩⟩
theorem IsM.put {H:Type} {g m:IntKind} {D:DataW H} {f:Int->Option Int} {s:List Int} (h:IsM g m D f s) (x v:Int):
  IsM g m (D.put (.int g x) (.lit (.int m v))) (Fs f x v) (if x∈s then s else s++[x]):=by
 have⟨i,n,o,j,k⟩:=h;have l:WideAt.IsKeyLit (Lit.int g x):=trivial;refine⟨i.put l _,?_,?_,?_,?_⟩
 .rw[size_put i,(k x).1];by_cases c:x∈s
  .rw[aK c,aK ((j x).1 c),n]
  .rw[aI c,aI (fun h=>c ((j x).2 h)),n,bq];rfl
 .by_cases c:x∈s
  .rw[aK c];exact o
  .rw[aI c,oF];exact⟨o,by simp,fun a r b p=>by simp at p;subst p;exact fun e=>c (e▸r)⟩
 .intro y;unfold Fs;by_cases d:y=x
  .subst d;by_cases c:y∈s<;>simp[c]
  .by_cases c:x∈s<;>simp[c,d,j]
 .intro y;unfold Fs;by_cases d:y=x
  .subst d;exact⟨by simpa using has_put_same i.isMap l _,fun z=>by simpa using atKey_put_same i.isMap l _ z⟩
  .have q:(Lit.int g y)≠(.int g x):=fun e=>d (by injection e);exact⟨by rw[has_put_other q];simpa[d]using(k y).1,fun z=>by rw[atKey_put_other q];simpa[d]using(k y).2 z⟩
theorem Ai {a b:List Int} (d:a.Nodup) (e:b.Nodup) (h:∀x,x∈a↔x∈b):a.length=b.length:=
 Nat.le_antisymm (vJ _ _ d fun x c=>(h x).1 c) (vJ _ _ e fun x c=>(h x).2 c)
theorem vK:∀(L s:List Int),s.Nodup->(∀x,x∈s↔x∈L)->s.length=L.length->L.Nodup
 |[],_,_,_,_=>oK
 |x::L,s,c,b,d=>by
  have g:x∈s:=(b x).2 (by simp);have a:x∉L:=fun a=>by
   have:=vJ s L c (fun y i=>by rcases gP.1 ((b y).1 i)with rfl|h;exact a;exact h);simp at d;omega
  refine lY.2 ⟨a,vK L (s.erase x) (c.erase x) (fun y=>?_) ?_⟩
  .rw[c.mem_erase_iff,b y,gP];constructor
   .rintro⟨f,rfl|h⟩
    .exact absurd rfl f
    .exact h
   .exact fun h=>⟨fun e=>a (e▸h),.inr h⟩
  .rw[List.length_erase_of_mem g];simp at d;omega
theorem vL (L s:List Int) (b:s.Nodup) (a:∀x,x∈s↔x∈L):decide (s.length=L.length)=decide L.Nodup:=by
 rw[tV];exact⟨vK L s b a,fun h=>Ai b h a⟩
def Gz (l:List Pt):Prop:=∀p∈l,(Lit.int .u32 p.2.2).wf=true
def placeF:List Pt->Nat->(Int->Option Int)
 |_,0=>fun _=>none
 |l,i+1=>Fs (placeF l i) (l.getD i (0,0,0)).2.2 i
theorem yE (l:List Pt):∀(i:Nat),i<=l.length->∀x,(placeF l i x).isSome=true↔x∈ids (l.take i)
 |0,_,x=>by simp[placeF,ids]
 |i+1,h,x=>by
  have ih:=yE l i (by omega) x;have c:l.take (i+1)=l.take i++[l[i]]:=dZ (by omega);have b:l.getD i (0,0,0)=l[i]:=by simp[show i<l.length by omega]
  unfold placeF Fs;rw[c,ids,bS,bT,b];by_cases a:x=l[i].2.2
  .simp[a]
  .rw[aI a,ih];simp[ids,a]
theorem Aj {l:List Pt} (hu:(ids l).Nodup):∀(i:Nat),i<=l.length->∀k,k<i->placeF l i (l.getD k (0,0,0)).2.2=some (k:Int)
 |0,_,k,d=>by omega
 |i+1,h,k,d=>by
  have g:∀j,j<l.length->l.getD j (0,0,0)=l[j]! :=fun j c=>by simp[c]
  unfold placeF Fs;by_cases e:k=i
  .subst e;rw[aK rfl]
  .have f:(l.getD k (0,0,0)).2.2≠(l.getD i (0,0,0)).2.2:=by
    intro b;have a:=gH.1 hu k i (by simp[ids];omega) (by simp[ids];omega) (by omega);simp[ids]at a;simp[show k<l.length by omega,show i<l.length by omega]at b;exact a b
   rw[aI f];exact Aj hu i (by omega) k (by omega)
def mR (D:DataW Unit) (l:List Pt) (i:Nat):Prop:=∃s,IsM .u32 .i64 D (placeF l i) s
theorem mR.put {D:DataW Unit} {l:List Pt} {i:Nat} (h:mR D l i) (hi:i<l.length):mR (D.put (.int .u32 l[i].2.2) (.lit (.int .i64 (i:Nat)))) l (i+1):=by
 have⟨s,h⟩:=h;have a:=h.put l[i].2.2 i;have b:l.getD i (0,0,0)=l[i]:=by simp[hi]
 have e:placeF l (i+1)=Fs (placeF l i) l[i].2.2 i:=by rw[placeF,b]
 rw[<-e]at a;exact⟨_,a⟩
theorem mR.size {D:DataW Unit} {l:List Pt} (h:mR D l l.length):(((Maps.size D:Nat):Int)==((l.length:Nat):Int))=kQ l:=by
 have⟨s,a⟩:=h;have c:(ids l).length=l.length:=by simp[ids]
 have b:=vL (ids l) s a.2.2.1 (fun x=>(a.2.2.2.1 x).trans (by have:=yE l l.length (ay _) x;rwa [jy]at this));rw[a.2.1,<-c];unfold kQ;rw[<-b,ni];simp only[beq_iff_eq,bW];omega
theorem Fu (a:Option Addr) (c:Nat) (l:List Pt) (w:World) (s:cz dx 3 w a l) (O:l.length<=1000000) (x:Gz l):
  aH 89 #[.slice a l.length c] w (eY w (.bool (kQ l))):=by
 have B:=af s;have E:=af x;clear s x;have N:=@run_makeMap prog;go_enter func89,ntmps89;go_wp2
 go_loopw [9] (fun k wr=>∃i:Nat,k=.int .i64 i/\i<=l.length/\Below w.heap.size w wr/\Hid (∃(D:DataW Unit),wr.ownsMap prog 27 (plainElem prog 3) w.heap.size i D/\mR D l i)) (fun k _=>l.length-(intOf k).toNat)
 case atStart=>exact⟨0,rfl,bf _,(aB _ _).alloc (ay _) _,⟨.map [],wR _ _ _ _,[],IsM.empty _ _⟩⟩
 case round=>
  obtain⟨i,rfl,hi,e,HO⟩:=hrel;by_cases g:i<l.length
  .obtain⟨b,off,q,M,f⟩:=(B.o.below e).get (by omega);have K:=f i g 0 (by omega);have x1:=f i g 1 (by omega);have x2:=f i g 2 (by omega);simp only[dx,aM,aN,dM]at K x1 x2;have G:Hid (keyOf prog 27 (.int .u32 l[i].2.2)=some (.int .u32 l[i].2.2)):=xn underlying27 (E.o _ (bN _));obtain⟨D,t,d⟩:=HO.o;have n:=af (d.put g);have L:=e.size;have m:=af q;clear HO f d q;generalize l[i]=p at*;obtain⟨I,J,H⟩:=p;obtain rfl:=m.o;clear m;have h:=t.kept (qc wr (.cells #[aa I,aa J,ai H] 29) none) (by simp)
   go_wp2_with (at_mapUpdate;refine wN _ rfl _ _ _ 26 rfl 27 3 (int_keyed underlying27) underlying26 _ w.heap.size i _ rfl h (by unfold maxLen;omega) _ _ _ rfl rfl G.o _ [] (ui underlying3 (by simp[Lit.wf,IntKind.min,IntKind.max,IntKind.bits,IntKind.signed];omega)) ?_;intro w3 u r)
   have y:Below w.heap.size wr w3:=(((aB _ wr).alloc (by omega) _)).grown r (by simp;omega) (fun j F=>by cases F;omega);have A:Hid (∃(D:DataW Unit),w3.ownsMap prog 27 (plainElem prog 3) w.heap.size (i+1) D/\mR D l (i+1)):=⟨_,u,n.o⟩;have z:=e.trans y;clear u r h t n;go_wp2;go_roundw
   case rel=>exact⟨i+1,by go_num,by omega,z,A⟩
   case measure=>simp[intOf];omega
  .obtain rfl:i=l.length:=by omega
   obtain⟨D,h,d⟩:=HO.o;have v:=d.size;have C:=af v;clear v d HO
   go_wp2_with (at_len;refine wpList_len_own _ rfl _ 26 rfl 27 3 underlying26 _ w.heap.size _ _ rfl h ?_)
   go_ret;exact⟨by rw[C.o];rfl,e⟩
end
section
open Go.RowKit Go.Sort Go.Shelf Go.Lib Go.Maps
attribute [local irreducible] wpQuiet
attribute [local go_sem] Oper.fo
def upd (f:Nat->Value) (k:Nat) (v:Value):Nat->Value:=fun j=>if j=k then v else f j
theorem upd_same (f:Nat->Value) (k:Nat) (v:Value):upd f k v k=v:=by simp[upd]
theorem upd_ne {f:Nat->Value} {k j:Nat} {v:Value} (h:j≠k):upd f k v j=f j:=by simp[upd,h]
theorem rX (f:Nat->Value) (k:Nat) (v a:Value):upd (upd f k v) k a=upd f k a:=by funext j;simp only[upd];split<;>rfl
theorem M0 (f:Nat->Value) {k j:Nat} (v a:Value) (h:k≠j):upd (upd f k v) j a=upd (upd f j a) k v:=by
 funext i;simp only[upd];split<;>split<;>first|rfl|omega
theorem H9 (f:Nat->Value) (k:Nat) (v:Value) (h:f k=v):upd f k v=f:=by
 funext j;simp only[upd];split
 .rename_i e;rw[e,h]
 .rfl
def M3 (LN LL:Nat->Value) (n:Nat):List Value:=(List.range n).flatMap fun k=>[LN k,LL k]
theorem pJ (LN LL:Nat->Value) (n:Nat):(M3 LN LL n).length=n*2:=by
 unfold M3;rw[fQ (sz:=2) (fun _=>rfl)];simp
theorem rY (LN LL:Nat->Value) {n k:Nat} (h:k<n):(M3 LN LL n)[k*2]? =some (LN k)/\(M3 LN LL n)[k*2+1]? =some (LL k):=by
 have a:=flat_get (enc:=fun k=>[LN k,LL k]) (sz:=2) (fun _=>rfl) (List.range n) k (by simpa using h) 0 (by omega);have b:=flat_get (enc:=fun k=>[LN k,LL k]) (sz:=2) (fun _=>rfl) (List.range n) k (by simpa using h) 1 (by omega);simp only[wQ,dM,aM,aN]at a b;exact⟨a,b⟩
theorem M4 (LN LL:Nat->Value) {n k:Nat} (h:k<n) (v:Value):(M3 LN LL n).set (k*2) v=M3 (upd LN k v) LL n:=by
 apply wS;intro i;rw[List.getElem?_set];by_cases hi:i<n*2
 .have hd:i/2<n:=by omega
  have⟨a,b⟩:=rY LN LL hd;have⟨c,d⟩:=rY (upd LN k v) LL hd;rcases CX i with hm|hm
  .have e:i/2*2=i:=by omega
   rw[e]at a c;rw[c];by_cases f:k*2=i
   .rw[aK f,aK (by rw[pJ];omega),show i/2=k by omega,upd_same]
   .rw[aI f,a,upd_ne (by omega)]
  .have e:i/2*2+1=i:=by omega
   rw[e]at b d;rw[d,aI (by omega),b]
 .rw[aI (by omega),nM (by rw[pJ];omega),nM (by rw[pJ];omega)]
theorem M5 (LN LL:Nat->Value) {n k:Nat} (h:k<n) (v:Value):(M3 LN LL n).set (k*2+1) v=M3 LN (upd LL k v) n:=by
 apply wS;intro i;rw[List.getElem?_set];by_cases hi:i<n*2
 .have hd:i/2<n:=by omega
  have⟨a,b⟩:=rY LN LL hd;have⟨c,d⟩:=rY LN (upd LL k v) hd;rcases CX i with hm|hm
  .have e:i/2*2=i:=by omega
   rw[e]at a c;rw[c,aI (by omega),a]
  .have e:i/2*2+1=i:=by omega
   rw[e]at b d;rw[d];by_cases f:k*2+1=i
   .rw[aK f,aK (by rw[pJ];omega),show i/2=k by omega,upd_same]
   .rw[aI f,b,upd_ne (by omega)]
 .rw[aI (by omega),nM (by rw[pJ];omega),nM (by rw[pJ];omega)]
abbrev cO (W:World) (base gl n c:Nat) (LN LL:Nat->Value):Prop:=W.ownsRow base 150 2 (aj gl n c) n (M3 LN LL n)
theorem cO.get {W:World} {base gl n c k:Nat} {LN LL:Nat->Value} (h:cO W base gl n c LN LL) (d:k<n):W.cell? (ae gl (k*2))=some (LN k)/\W.cell? (ae gl (k*2+1))=some (LL k):=by
 have⟨a,b⟩:=rY LN LL d;exact⟨(h.cellAt (k*2) (by omega)).trans a,(h.cellAt (k*2+1) (by omega)).trans b⟩
theorem cO.zY {W:World} {base gl n c k:Nat} {LN LL:Nat->Value} (h:cO W base gl n c LN LL) (a:k<n) (v:Value):cO (W.setCell (ae gl (k*2)) v) base gl n c (upd LN k v) LL:=by
 have:=(h.stored (k*2) v).1;rwa [M4 LN LL a]at this
theorem cO.Pn {W:World} {base gl n c k:Nat} {LN LL:Nat->Value} (h:cO W base gl n c LN LL) (a:k<n) (v:Value):cO (W.setCell (ae gl (k*2+1)) v) base gl n c LN (upd LL k v):=by
 have:=(h.stored (k*2+1) v).1;rwa [M5 LN LL a]at this
theorem cO.kept {S:Nat->Prop} {W W':World} {base gl n c:Nat} {LN LL:Nat->Value} (h:cO W base gl n c LN LL) (K:au S W W') (hS:¬S gl):cO W' base gl n c LN LL:=
 aS h K fun g e=>by injection e with e;exact e▸hS
theorem vM {w w':World} {a n:Nat} {D:DataW Unit} (h:w.ownsMap prog 27 (plainElem prog 3) a n D) (e:w'.heap[a]? =w.heap[a]?):w'.ownsMap prog 27 (plainElem prog 3) a n D:=by
 have⟨c,b,d,r⟩:=h;exact⟨c,b,e.trans d,r⟩
theorem M6 {w:World} {b n:Nat} {D:DataW Unit} {x:Int} {i:Nat} (h:w.ownsMap prog 27 (plainElem prog 3) b n D) (f:(Lit.int .u32 x).wf=true) (hd:D.atKey (.int .u32 x) (.lit (.int .i64 0))=.lit (.int .i64 (i:Nat))):
  (Instr.lookup 26 (.map (some b)) (.int .u32 x) false).run prog w=.ok (.int .i64 i) w:=by
 have⟨c,d,a,g⟩:=h.lookup_int (t:=26) (e:=3) (q:=.i64) (key:=.int .u32 x) (int_keyed underlying27) underlying26 underlying3 (zeroValue3 _) (xn underlying27 f);rw[hd]at a;injection a with a;injection a with _ a;subst a;exact d
def mh (w0:World) (base gl n cl:Nat) (LN LL:Nat->Value) (K kl kr m fb:Nat) (nm:Nat->Int) (L:List Nat) (j jf:Nat) (wr:World) (vl vr vf:Value):Prop:=
 cO wr base gl n cl (upd (upd LN kl vl) kr vr) (upd LL K vf)/\
 wr.ownsRow w0.heap.size 27 1 vl ((L.take j).filter fun i=>decide (i<m)).length ((((L.take j).filter fun i=>decide (i<m)).map nm).map (Value.int .u32))/\
 wr.ownsRow w0.heap.size 27 1 vr ((L.take j).filter fun i=>!decide (i<m)).length ((((L.take j).filter fun i=>!decide (i<m)).map nm).map (Value.int .u32))/\
 wr.ownsRow fb 3 1 vf (jf+1) (((lf m L).take (jf+1)).map (Value.int .i64))/\
 (∀g,vl.ownBlock=some g->vr.ownBlock≠some g)/\au (fun b=>b=gl\/b=fb) w0 wr
theorem mh.drewN {w0:World} {base gl n cl:Nat} {LN LL:Nat->Value} {K kl kr m fb:Nat} {nm:Nat->Int} {L:List Nat} {j jf:Nat} {wr:World} {vl vr vf:Value} (h:mh w0 base gl n cl LN LL K kl kr m fb nm L j jf wr vl vr vf) (q:Nat):mh w0 base gl n cl LN LL K kl kr m fb nm L j jf (wr.drewN q) vl vr vf:=by
 have⟨a,b,c,d,e,f⟩:=h;exact⟨a,b,c,d,e,f.below (Below.bC _ q)⟩
section
variable {w0:World} {base gl n cl:Nat} {LN LL:Nat->Value} {K kl kr m fb:Nat} {nm:Nat->Int} {L:List Nat} {j jf:Nat} {w3 w4:World} {vl vr vf v1:Value}
theorem mh.left (h:mh w0 base gl n cl LN LL K kl kr m fb nm L j jf w3 vl vr vf) (B:j<L.length) (hi:L[j]<m) (D:kl<n) (E:kl≠kr) (M:gl<w0.heap.size) (I:fb<w0.heap.size) (J:gl≠fb)
  (t:w4.ownsRow w0.heap.size 27 1 v1 (((L.take j).filter fun i=>decide (i<m)).length+1) ((((L.take j).filter fun i=>decide (i<m)).map nm).map (Value.int .u32)++[.int .u32 (nm L[j])])) (r:w3.grownBy w4 vl.ownBlock) (A:v1.ownBlock=vl.ownBlock\/∃b,v1.ownBlock=some b/\w3.heap.size<=b):
  mh w0 base gl n cl LN LL K kl kr m fb nm L (j+1) jf (w4.setCell (ae gl (kl*2)) v1) v1 vr vf:=by
 obtain⟨a,b,c,d,e,f⟩:=h;have o:au (fun k=>vl.ownBlock=some k) w3 w4:=(au.refl _ w3).grown r (fun k C=>.inl C);have p:au (fun k=>k=gl) w4 (w4.setCell (ae gl (kl*2)) v1):=(au.refl (fun k=>k=gl) w4).set (a:=(ae gl (kl*2))) v1 (.inl rfl);have u:=b.lt;have v:=c.lt;have s:L.take (j+1)=L.take j++[L[j]]:=dZ B;have w:(L.take (j+1)).filter (fun i=>decide (i<m))=(L.take j).filter (fun i=>decide (i<m))++[L[j]]:=by rw[s,lW];simp[hi]
 have x:(L.take (j+1)).filter (fun i=>!decide (i<m))=(L.take j).filter (fun i=>!decide (i<m)):=by rw[s,lW];simp[hi]
 have F:∀g,v1.ownBlock=some g->w0.heap.size<=g:=fun g r=>(t.lt g r).1;refine⟨?_,?_,?_,?_,?_,?_⟩
 .have y:=(a.kept o fun h=>by have:=(u gl h).1;omega).zY D v1;rwa [M0 _ _ _ (fun h=>E h.symm),rX]at y
 .rw[w,bq,bS,bS];exact aS (S:=fun k=>k=gl) t p fun g h=>by have:=F g h;omega
 .rw[x];exact aS (S:=fun k=>k=gl) (aS (S:=fun k=>vl.ownBlock=some k) c o fun g h l=>e g l h) p fun g h=>by have:=(v g h).1;omega
 .refine aS (S:=fun k=>k=gl) (aS (S:=fun k=>vl.ownBlock=some k) d o fun g h l=>bD b d (by decide) g l h) p fun g h l=>?_;subst l;have z:=cO.kept a (au.refl (fun _=>False) w3) (fun h=>h);exact bD z d (by decide) g rfl h
 .intro g h l;rcases A with q|⟨G,q,H⟩
  .exact e g (q▸h) l
  .rw[q]at h;injection h with h;have:=(v g l).2;omega
 .exact((f.mono (S':=fun k=>(k=gl\/k=fb)\/w0.heap.size<=k) (fun k h=>.inl h)).trans (o.mono (fun k h=>.inr (u k h).1))).strip.set (a:=(ae gl (kl*2))) v1 (.inl (.inl rfl))
theorem mh.right (h:mh w0 base gl n cl LN LL K kl kr m fb nm L j jf w3 vl vr vf) (B:j<L.length) (hi:¬L[j]<m) (D:kr<n) (M:kl≠kr) (J:gl<w0.heap.size) (H:fb<w0.heap.size) (I:gl≠fb)
  (t:w4.ownsRow w0.heap.size 27 1 v1 (((L.take j).filter fun i=>!decide (i<m)).length+1) ((((L.take j).filter fun i=>!decide (i<m)).map nm).map (Value.int .u32)++[.int .u32 (nm L[j])])) (r:w3.grownBy w4 vr.ownBlock) (A:v1.ownBlock=vr.ownBlock\/∃b,v1.ownBlock=some b/\w3.heap.size<=b):
  mh w0 base gl n cl LN LL K kl kr m fb nm L (j+1) jf (w4.setCell (ae gl (kr*2)) v1) vl v1 vf:=by
 obtain⟨a,b,c,d,e,f⟩:=h;have o:au (fun k=>vr.ownBlock=some k) w3 w4:=(au.refl _ w3).grown r (fun k C=>.inl C);have p:au (fun k=>k=gl) w4 (w4.setCell (ae gl (kr*2)) v1):=(au.refl (fun k=>k=gl) w4).set (a:=(ae gl (kr*2))) v1 (.inl rfl);have u:=b.lt;have v:=c.lt;have s:L.take (j+1)=L.take j++[L[j]]:=dZ B;have w:(L.take (j+1)).filter (fun i=>!decide (i<m))=(L.take j).filter (fun i=>!decide (i<m))++[L[j]]:=by rw[s,lW];simp[hi]
 have x:(L.take (j+1)).filter (fun i=>decide (i<m))=(L.take j).filter (fun i=>decide (i<m)):=by rw[s,lW];simp[hi]
 have E:∀g,v1.ownBlock=some g->w0.heap.size<=g:=fun g r=>(t.lt g r).1;refine⟨?_,?_,?_,?_,?_,?_⟩
 .have y:=(a.kept o fun h=>by have:=(v gl h).1;omega).zY D v1;rwa [rX]at y
 .rw[x];exact aS (S:=fun k=>k=gl) (aS (S:=fun k=>vr.ownBlock=some k) b o fun g h l=>e g h l) p fun g h=>by have:=(u g h).1;omega
 .rw[w,bq,bS,bS];exact aS (S:=fun k=>k=gl) t p fun g h=>by have:=E g h;omega
 .refine aS (S:=fun k=>k=gl) (aS (S:=fun k=>vr.ownBlock=some k) d o fun g h l=>bD c d (by decide) g l h) p fun g h l=>?_;subst l;have z:=cO.kept a (au.refl (fun _=>False) w3) (fun h=>h);exact bD z d (by decide) g rfl h
 .intro g h l;rcases A with q|⟨F,q,G⟩
  .exact e g h (q▸l)
  .rw[q]at l;injection l with l;have:=(u g h).2;omega
 .exact((f.mono (S':=fun k=>(k=gl\/k=fb)\/w0.heap.size<=k) (fun k h=>.inl h)).trans (o.mono (fun k h=>.inr (v k h).1))).strip.set (a:=(ae gl (kr*2))) v1 (.inl (.inl rfl))
end
theorem Po {m:Nat} {L:List Nat} {j:Nat} (h:j<L.length):(lf m L).take (j+1+1)=(lf m L).take (j+1)++[(((L.take (j+1)).filter fun i=>decide (i<m)).length:Int)]:=by
 have a:=qW m L;rw[dZ (by omega),o5];rw[GD]
theorem mh.QL {w0:World} {base gl n cl:Nat} {LN LL:Nat->Value} {K kl kr m fb:Nat} {nm:Nat->Int} {L:List Nat} {j:Nat} {p l:World} {vl vr vf v1:Value} (h:mh w0 base gl n cl LN LL K kl kr m fb nm L (j+1) j p vl vr vf) (y:j<L.length) (v:K<n) (F:gl<w0.heap.size) (D:w0.heap.size=fb+1) (E:gl≠fb)
  (t:l.ownsRow fb 3 1 v1 (j+1+1) (((lf m L).take (j+1)).map (Value.int .i64)++[.int .i64 (((L.take (j+1)).filter fun i=>decide (i<m)).length:Nat)])) (w:p.grownBy l vf.ownBlock):
  mh w0 base gl n cl LN LL K kl kr m fb nm L (j+1) (j+1) (l.setCell (ae gl (K*2+1)) v1) vl vr v1:=by
 obtain⟨a,b,c,d,e,f⟩:=h;have q:au (fun k=>vf.ownBlock=some k) p l:=(au.refl _ p).grown w (fun k z=>.inl z);have r:au (fun k=>k=gl) l (l.setCell (ae gl (K*2+1)) v1):=(au.refl (fun k=>k=gl) l).set (a:=(ae gl (K*2+1))) v1 (.inl rfl);have B:=b.lt;have C:=c.lt;have A:=d.lt;have a':=cO.kept a (au.refl (fun _=>False) p) (fun h=>h);have x:vf.ownBlock≠some gl:=fun h=>bD a' d (by decide) gl rfl h;have s:=a.kept q x;refine⟨?_,?_,?_,?_,e,?_⟩
 .have u:=s.Pn v v1;rwa [rX]at u
 .exact aS (S:=fun k=>k=gl) (aS (S:=fun k=>vf.ownBlock=some k) b q fun g h o=>bD b d (by decide) g h o) r fun g h=>by have:=(B g h).1;omega
 .exact aS (S:=fun k=>k=gl) (aS (S:=fun k=>vf.ownBlock=some k) c q fun g h o=>bD c d (by decide) g h o) r fun g h=>by have:=(C g h).1;omega
 .rw[Po y,bS];refine aS (S:=fun k=>k=gl) t r fun g h o=>?_;subst o;exact bD s t (by decide) g rfl h
 .exact((f.mono (S':=fun k=>(k=gl\/k=fb)\/w0.heap.size<=k) (fun k h=>.inl h)).trans (q.mono (fun k h=>by have:=(A k h).1;by_cases e:k=fb;exact .inl (.inr e);exact .inr (by omega)))).strip.set (a:=(ae gl (K*2+1))) v1 (.inl (.inl rfl))
theorem xJ (l r:FT) (s tb z off cn gl cl base K kl kr m t cN:Nat) (N:List Nd) (LN LL:Nat->Value) (L:List Nat) (nm:Nat->Int) (I:Option Addr) (cw:Nat) (D:DataW Unit) (w:World) (bc:FT.At N (.node l r) s) (d:(FT.node l r).root s=K) (cd:l.root s=kl) (cD:r.root (s+l.size)=kr) (di:l.hi=m) (dS:m<=1000000) (dE:N.length<=1000000)
  (a4:w.cell? (ae tb 4)=some (.slice (some (ae z off)) N.length cn)) (bM:cz nU 7 w (some (ae z off)) N) (bw:w.cell? (ae tb 5)=some (aj gl N.length cl))
  (aI:cO w base gl N.length cl LN LL) (V:z≠gl/\tb≠gl/\∀b o,I=some (ae b o)->b≠gl)
  (da:LN K=.slice I L.length cw) (b5:Rd (.int .u32) w I (L.map nm)) (dO:L.length<=1000000) (b9:LN kl=aG) (ca:LN kr=aG)
  (ch:w.ownsMap prog 27 (plainElem prog 3) t cN D) (Y:∀i∈L,D.atKey (.int .u32 (nm i)) (.lit (.int .i64 0))=.lit (.int .i64 (i:Nat))) (cJ:∀i∈L,(Lit.int .u32 (nm i)).wf=true) (db:∀i∈L,i<=1000000):
  aH 96 #[ah tb,aa K,.map (some t)] w fun e w'=>e=.returned (.tuple #[])/\∃vl vr vf,cO w' base gl N.length cl (upd (upd LN kl vl) kr vr) (upd LL K vf)/\
   w'.ownsRow w.heap.size 27 1 vl (L.filter fun i=>decide (i<m)).length (((L.filter fun i=>decide (i<m)).map nm).map (Value.int .u32))/\
   w'.ownsRow w.heap.size 27 1 vr (L.filter fun i=>!decide (i<m)).length (((L.filter fun i=>!decide (i<m)).map nm).map (Value.int .u32))/\
   w'.ownsRow w.heap.size 3 1 vf (lf m L).length ((lf m L).map (Value.int .i64))/\(∀g,vl.ownBlock=some g->vr.ownBlock≠some g)/\au (fun b=>b=gl) w w':=by
 obtain⟨df,n0,aL,aP,br,bs,bK,bt⟩:=l9 bM bc.get;have C:=bc.lt;have ci:=gW w _ a4;have dH:gl<w.heap.size:=(aI.lt gl rfl).2;simp only at ci;simp only[FT.top]at n0 aL aP br bs bt;have ce:=FT.vE l r s;have bi:=bc.left.lt;have cg:=bc.right.lt;obtain⟨dI,-,-,-,-,cP,-,-⟩:=l9 bM bc.left.get;rw[FT.uA,di,cd]at cP;have dk:((s+l.size:Nat):Int)-1=(kl:Int):=by rw[<-cd];unfold FT.root;have:=l.size_pos;omega
 have dl:((s+l.size+r.size:Nat):Int)-1=(kr:Int):=by rw[<-cD];unfold FT.root;have:=r.size_pos;omega
 rw[dk]at aL;rw[dl]at aP;rw[d]at n0 aL aP br bs bK bt C ce;rw[cd]at bi ce;rw[cD]at cg ce;generalize dR:l.lo=lo at*;generalize dJ:r.hi=hi at*;have cs:=af aI;have cf:=af aI;have c5:=aI.frozenAt (K*2+1);obtain⟨al,cQ⟩:=aI.get C;have cW:=af a4;have dx:=af bM;have cX:=af bw;obtain⟨cR,cG⟩:∃cR,cR=LL K:=⟨_,rfl⟩;rw[<-cG]at cQ;clear aI bM cG;go_enter func96,ntmps96
 go_upto_region 0 with fail
 go_cut [6,7]from 6 (fun dr ds cT=>∃x:Nat,dr=ah x/\ds=.pointer (some (ae gl (K*2)))/\Hid (cT.heap[x]? =some (.cells #[.int .u8 2,aa kl,aa kr,aa lo,aa hi,aa 0,aa 0] 163 (0,0)))/\Hid (Below w.heap.size w cT)/\w.heap.size<=x)
 case first=>
  have dC:=ag a4;have dD:=ag bw;have d0:=ag n0;have d3:=ag aL;have d4:=ag aP;have d5:=ag br;have d6:=ag bs;have d7:=ag bK;have d8:=ag bt;clear a4 bw n0 aL aP br bs bK bt;refine ak (fun W=>∃p:aT w,W=p.W) [15] [(0,false),(1,false),(2,false),(3,true),(4,false),(5,false),(6,true),(7,false),(8,false),(9,false),(10,true),(11,false),(12,false)] ⟨⟨_,(aB _ _).drew⟩,rfl⟩ 3 ?_;simp only[bn,aX,aY,aW,aN,aM,aO]
  repeat(refine aD (fun K d=>?_);go_simp;first|(refine d _ ?_;clear d K)|(apply Exists.intro;refine⟨fun _=>?_,d _ ?_⟩;rfl;clear d K))
  refine aJ ?_;refine aA 13 rfl fun K d=>?_;go_simp;refine d _ _ (fun _ _=>⟨⟨_,(aB _ w).alloc (ay _) _|>.drew⟩,rfl⟩) ?_;clear d K;refine aA 14 rfl fun K d=>?_;go_simp;refine d _ _ (fun _ _=>⟨⟨_,(aB _ w).alloc (ay _) _|>.drew⟩,rfl⟩) ?_;clear d K;refine aF [15] _ _ _ (by kernel_rfl) ?_;simp only[pick,aX,aY,aW,aN,aM];go_wp2;go_meet;exact⟨w.heap.size,rfl,rfl,kF _ _,(aB _ w).alloc (ay _) _|>.drew,ay _⟩
 case rest=>
  obtain⟨x,rfl,rfl,bU,bP,dX⟩:=hcut;have cK:x<wc.heap.size:=(aZ.1 bU.o).1;have bv:Hid (cO wc base gl N.length cl LN LL):=ax cs.o bP.o;have c6:=bv.o.frozenAt (K*2+1);have m1:=(bv.o.get C).2;obtain⟨cp,cH⟩:∃cp,cp=LL K:=⟨_,rfl⟩;rw[<-cH]at m1;clear cH;have Z:=bU.o;have ea:wc.cell? (ae x 0)=some (.int .u8 2):=by simp[World.cell?,Z]
  clear Z;clear n0 aL aP br bs bK bt a4 bw c5 al cQ;have dV:=bP.o.size;obtain⟨fb,bx⟩:∃fb,fb=wc.heap.size:=⟨_,rfl⟩;have dy:(wc.alloc (.cells #[aa 0] 3)).cell? (ae gl (K*2+1))=some cp:=(((aB wc.heap.size wc).alloc (ay _) _).cell (p:=(ae gl (K*2+1))) (by show gl<_;omega)).trans m1;have dA:(wc.alloc (.cells #[aa 0] 3)).frozen? (ae gl (K*2+1))=false:=(((aB wc.heap.size wc).alloc (ay _) _).frozen (p:=(ae gl (K*2+1))) (by show gl<_;omega)).trans c6;obtain⟨n,az⟩:∃n,n=(wc.alloc (.cells #[aa 0] 3)).setCell (ae gl (K*2+1)) (aj wc.heap.size 1 1):=⟨_,rfl⟩;have bV:au (fun b=>b=gl) wc n:=by rw[az];exact((au.refl (fun b=>b=gl) wc).alloc _).set (a:=(ae gl (K*2+1))) _ (.inl rfl)
  have E:au (fun b=>b=gl) w n:=((au.refl (fun b=>b=gl) w).below bP.o).trans bV;have bW:cO n base gl N.length cl LN (upd LL K (aj fb 1 1)):=by rw[az,bx];exact cO.Pn (ax bv.o ((aB _ _).alloc (ay _) _)) C _
  have cq:n.ownsRow fb 3 1 (aj fb 1 1) 1 [.int .i64 0]:=by
   have h:=Ad wc fb [.int .i64 0] 3 (by omega) (by unfold maxLen;simp);rw[az];rw[bx]at h |-;exact aS (S:=fun b=>b=gl) h ((au.refl (fun b=>b=gl) _).set (a:=(ae gl (K*2+1))) _ (.inl rfl)) (fun g e=>by have cx:=MN e;omega)
  have dc:n.heap.size=fb+1:=by rw[az,bx];simp
  have dY:x<fb:=by rw[bx];exact cK
  have dm:x≠gl:=by omega
  have bz:gl≠fb:=by omega
  obtain⟨aq,-⟩:=cu bV cK dm;have Z:=bU.o;have y1:n.cell? (ae x 1)=some (aa kl):=(aq 1).trans (by simp[World.cell?,Z]);have y2:n.cell? (ae x 2)=some (aa kr):=(aq 2).trans (by simp[World.cell?,Z]);have dt:n.cell? (ae tb 5)=some (aj gl N.length cl):=((cu E ci V.2.1).1 5).trans cX.o;have cU:n.cell? (ae tb 4)=some (.slice (some (ae z off)) N.length cn):=((cu E ci V.2.1).1 4).trans cW.o;have du:n.cell? (ae gl (K*2))=some (.slice I L.length cw):=(bW.get C).1.trans (by rw[da]);have cV:n.cell? (ae z (off+kl*7+4))=some (aa m):=((cu E df V.1).1 _).trans cP;have ct:Hid (Rd (.int .u32) n I (L.map nm)):=by
   rcases b5 with h|⟨b,o,e,B,b8⟩
   .exact .inl h
   .exact .inr ⟨b,o,e,bB B E.size,fun i hi=>((cu E B (V.2.2 b o e)).1 _).trans (b8 i hi)⟩
  have dT:w.heap[t]? =n.heap[t]? /\t<n.heap.size:=by
   obtain⟨cy,cv,B,-⟩:=ch;have Y:t<w.heap.size:=(aZ.1 B).1;refine⟨(E.block t Y fun e=>?_).symm,bB Y E.size⟩;subst e;rcases cf.o.2 with⟨h,-⟩|⟨g,c2,c3,h,-,bh,-⟩
   .cases h
   .injection h with h;injection h with h;injection h with h;subst h;rw[B]at bh;cases bh
  have dv:n.cell? (ae x 0)=some (.int .u8 2):=(aq 0).trans (by simp[World.cell?,Z]);clear Z aq bV
  go_upto_region 2 with fail
  rw[<-az];clear az
  go_upto_region 3 with fail
  go_quiet (fail)
  go_wp2_with fail
  obtain⟨w2,y⟩:∃w2,w2=n.drewN nq:=⟨_,rfl⟩;have cr:Hid (au (fun b=>b=gl) w w2):=by rw[y];exact E.trans (Below.bC n.heap.size _|>fun h=>(au.refl _ n).below h)
  have cC:cO w2 base gl N.length cl LN (upd LL K (aj fb 1 1)):=by rw[y];exact bW
  have cA:w2.ownsRow fb 3 1 (aj fb 1 1) 1 [.int .i64 0]:=by rw[y];exact cq
  have u1:w2.cell? (ae x 1)=some (aa kl):=by rw[y];exact y1
  have u4:w2.cell? (ae tb 4)=some (.slice (some (ae z off)) N.length cn):=by rw[y];exact cU
  have bu:w2.cell? (ae z (off+kl*7+4))=some (aa m):=by rw[y];exact cV
  have bT:Hid (w2.cell? (ae x 1)=some (aa kl)/\w2.cell? (ae tb 4)=some (.slice (some (ae z off)) N.length cn)/\w2.cell? (ae z (off+kl*7+4))=some (aa m)):=⟨u1,u4,bu⟩;have c0:Hid (Rd (.int .u32) w2 I (L.map nm)):=by rw[y];exact ct.o
  have bS:Hid (w2.ownsMap prog 27 (plainElem prog 3) t cN D/\t≠gl/\t<fb):=by
   rw[y];obtain⟨cy,cv,B,r⟩:=ch;have Y:t<w.heap.size:=(aZ.1 B).1;have cF:t≠gl:=by
    rintro rfl;rcases cf.o.2 with⟨h,-⟩|⟨g,c2,c3,h,-,bh,-⟩
    .cases h
    .have aC:=MN (show(aj t N.length cl).ownBlock=some g by rw[h];rfl);subst aC;rw[B]at bh;cases bh
   exact⟨⟨cy,cv,(E.block t Y cF).trans B,r⟩,cF,by omega⟩
  have cI:w2.heap.size=fb+1:=by rw[y];exact dc
  have dW:tb<fb/\z<fb:=by omega
  have cB:mh w2 base gl N.length cl LN LL K kl kr m fb nm L 0 0 w2 (aG) (aG) (aj fb 1 1):=by
   refine⟨?_,dz _ _ _ _,dz _ _ _ _,?_,fun g h=>(by cases h),au.refl _ _⟩
   .rw[H9 _ kl _ b9,H9 _ kr _ ca];exact cC
   .have cx:(lf m L).take (0+1)=[0]:=by simp[lf,List.range_succ_eq_map]
    rw[cx];exact cA
  have cY:=af cB;have M:Hid (∀b o,0<L.length->I=some (ae b o)->b<fb):=fun b o c7 e=>by
   obtain⟨dB,d9,aw,dF,-⟩:=b5.get (by simpa using c7);rw[e]at aw;injection aw with aw;injection aw with aw;subst aw;omega
  have cZ:=af Y;have c1:=af cJ;have dw:=af (And.intro b9 ca);rw[<-y];clear y bW cq y1 y2 cU dt cV du dv E ct cC cA u1 u4 bu ch Y cJ cB cf cs bv b9 ca b5
  go_loopg [51] L.length (fun dn dq wr=>∃(j:Nat) (vl vr vf:Value),dq=.int .i64 j/\j<=L.length/\L.length-j<=dn/\Hid (mh w2 base gl N.length cl LN LL K kl kr m fb nm L j j wr vl vr vf))
  case atStart=>exact⟨0,_,_,_,rfl,bf _,by omega,cY⟩
  case round=>
   obtain⟨j,vl,vr,vf,rfl,dL,dM,aU⟩:=hrel;obtain⟨ar,av,rfl⟩:=fD aU.o.2.1;obtain⟨bl,bm,bp,bq,bo,G⟩:=aU.o;have dP:((L.take j).filter fun i=>decide (i<m)).length<=L.length:=bJ (gK _ _) (by simp;omega);have dQ:((L.take j).filter fun i=>!decide (i<m)).length<=L.length:=bJ (gK _ _) (by simp;omega);obtain⟨aq,-⟩:=cu G (b:=x) (by omega) (by omega);obtain⟨cS,-⟩:=cu G (b:=tb) (by omega) (by have:=V.2.1;omega);obtain⟨gk,-⟩:=cu G (b:=z) (by omega) (by have:=V.1;omega);have u1:=(aq 1).trans bT.o.1;have u4:=(cS 4).trans bT.o.2.1;have bu:=(gk (off+kl*7+4)).trans bT.o.2.2;clear aq cS gk;by_cases T:j<L.length
   .obtain⟨i,hi⟩:∃i,i=L[j]:=⟨_,rfl⟩;have bE:i∈L:=by rw[hi];exact bN _
    have dK:=db i bE;obtain⟨ad,bF⟩:∃ad,ad=nm i:=⟨_,rfl⟩;have de:∃b o,I=some (ae b o)/\wr.cell? (ae b (o+j))=some (ai ad):=by
     obtain⟨b,o,e,B,b8⟩:=c0.o.get (by simp;omega);have aC:=b8 j (by simpa using T);rw[fJ,<-hi,<-bF]at aC;have dG:=V.2.2 b o e;have aE:=M.o b o (by omega) e;have aE:=M.o b o (by omega) e;have aE:=M.o b o (by omega) e;have aE:=M.o b o (by omega) e;have aE:=M.o b o (by omega) e;have aE:=M.o b o (by omega) e;have aE:=M.o b o (by omega) e;exact⟨b,o,e,((cu G B (by omega)).1 _).trans aC⟩
    obtain⟨b,o,c4,dj⟩:=de;subst c4;have dg:∀q,(Instr.lookup 26 (.map (some t)) (.int .u32 ad) false).run prog (wr.drewN q)=.ok (.int .i64 i) (wr.drewN q):=fun q=>by
     rw[bF];exact M6 (vM bS.o.1 (G.block t (by have:=bS.o.2.2;omega) (by have:=bS.o.2;omega))) (c1.o i bE) (cZ.o i bE)
    have H:Hid (i=L[j]/\ad=nm i):=⟨hi,bF⟩;clear hi bF bE
    go_wp2_with fail
    go_quiet (fail)
    obtain⟨w3,b2⟩:∃w3,w3=wr.drewN nq:=⟨_,rfl⟩;have aV:Hid (mh w2 base gl N.length cl LN LL K kl kr m fb nm L j j w3 (.slice ar ((L.take j).filter fun i=>decide (i<m)).length av) vr vf):=by rw[b2];exact aU.o.drewN nq
    rw[<-b2];clear b2 bl bm bp bq bo G aU u1 u4 bu dj dg;obtain⟨aK,bG,bI,cM,cL,bk⟩:=aV.o;have bA:gl<w3.heap.size:=by have:=bk.size;omega
    by_cases J:i<m
    .have d1:decide ((i:Int)<(m:Int))=true:=by simpa using J
     have d2:decide (i<m)=true:=by simpa using J
     have al:w3.cell? (ae gl (kl*2))=some (.slice ar ((L.take j).filter fun i=>decide (i<m)).length av):=(aK.get bi).1.trans (by rw[upd_ne (by omega),upd_same]);have f0:=aK.frozenAt (kl*2)
     go_wp2_with (at_builtin;refine bZ sM w2.heap.size bG [.int .u32 ad] rfl (by simp[Value.oneCell']) rfl _ _ rfl rfl _ rfl (by unfold maxLen;omega) (by omega) (by have:=bk.size;omega) ?_;intro v1 w4 X Q bd;have a2:au (fun k=>(Value.slice ar ((L.take j).filter fun i=>decide (i<m)).length av).ownBlock=some k) w3 w4:=(au.refl _ w3).grown Q (fun k U=>.inl U);have bg:¬(Value.slice ar ((L.take j).filter fun i=>decide (i<m)).length av).ownBlock=some gl:=(fun h=>by have aC:=(bG.lt gl h).1;omega);obtain⟨a6,a8⟩:=cu a2 bA bg;have co:=(a6 (kl*2)).trans al;have f4:=(a8 (kl*2)).trans f0;clear a6 a8;obtain⟨an,ao,rfl⟩:=fD X;have a0:=af X;have aR:=af Q;have aQ:=af bd;clear X Q bd)
     obtain⟨f,O⟩:∃f,f=w4.setCell (ae gl (kl*2)) (.slice an (((L.take j).filter fun i=>decide (i<m)).length+1) ao):=⟨_,rfl⟩;have v:Hid (mh w2 base gl N.length cl LN LL K kl kr m fb nm L (j+1) j f (.slice an (((L.take j).filter fun i=>decide (i<m)).length+1) ao) vr vf):=by
      rw[O];exact mh.left aV.o T (by rw[<-H.o.1];exact J) bi (by omega) (by omega) (by omega) bz (by rw[<-H.o.1,<-H.o.2];exact a0.o) aR.o (gu aQ.o)
     have F:((L.take (j+1)).filter fun i=>decide (i<m)).length=((L.take j).filter fun i=>decide (i<m)).length+1:=by
      rw[dZ T,lW,<-H.o.1];simp[J]
     rw[<-O];clear O a2 bg co f4 a0 aR aQ aK bG bI cM cL bk aV al f0 bA;generalize bb:((.slice an (((L.take j).filter fun i=>decide (i<m)).length+1) ao):Value)=bX at*;generalize b6:(vr:Value)=bY at*;have b7:∃a c,bX=.slice a (((L.take j).filter fun i=>decide (i<m)).length+1) c:=⟨_,_,bb.symm⟩;clear bb b6;obtain⟨b0,b1,rfl⟩:=b7;obtain⟨A,P⟩:∃A,A=((L.take j).filter fun i=>decide (i<m)).length+1:=⟨_,rfl⟩
     first|rw[<-P]at F v |- |rw[<-P]at F v
     have bO:=af F;have c8:A<=1000001:=by omega
     clear F P;obtain⟨u,cj,cm,ac,ck,ab⟩:=v.o;have cb:gl<f.heap.size:=by have:=ab.size;omega
     have b3:=ag ((u.get C).2.trans (by rw[upd_same]));have b4:=ag ((u.get bi).1.trans (by rw[upd_ne (by omega),upd_same]));have f2:=u.frozenAt (K*2+1);have am:=(u.get C).2;rw[upd_same]at am;have a1:=af ac;have cc:¬vf.ownBlock=some gl:=fun h=>bD u ac (by decide) gl rfl h;have c9:=ab.size;clear u cj cm ac ck ab;refine ak (fun W=>∃p:aT f,W=p.W) [11,12,13,14] [(0,false),(1,false),(2,false),(3,false),(4,true),(5,false),(6,false),(7,false),(8,true),(9,false)] ⟨⟨_,(aB _ _).drew⟩,rfl⟩ 5 ?_;simp only[bn,aX,aY,aW,aN,aM,aO]
     repeat(refine aD (fun K d=>?_);go_simp;first|(refine d _ ?_;clear d K)|(apply Exists.intro;refine⟨fun _=>?_,d _ ?_⟩;rfl;clear d K))
     refine aJ ?_;refine aA 10 rfl fun K d=>?_;go_simp;refine d _ _ (fun _ _=>⟨⟨_,(aB _ f).alloc (ay _) _|>.drew⟩,rfl⟩) ?_;clear d K;refine aA 11 rfl fun K d=>?_;refine bH mI fb (w:=(f.alloc (.cells #[aa A] 3)).drew) (ax a1.o ((aB _ f).alloc (ay _) _|>.drew)) [.int .i64 A] rfl (by simp[Value.oneCell']) rfl (.tmp 92) (.tmp 98) rfl rfl f.heap.size rfl (kF _ _) (by unfold maxLen;omega) (by omega) (by simp;omega) ?_;intro ba a5 ap bj be dd dh;refine d _ _ (fun _ h=>absurd (by simp) h) ?_;clear d K;refine aF [12,13,14] _ _ _ (by kernel_rfl) ?_;simp only[pick,aX,aY,aW,aN,aM];have R:f.grownBy ap vf.ownBlock:=dN (bQ ((aB _ f).alloc (ay _) _|>.drew)) be;have a3:au (fun k=>vf.ownBlock=some k) f ap:=(au.refl _ f).grown R (fun k U=>.inl U);obtain⟨a7,a9⟩:=cu a3 cb cc;have dp:=(a7 (K*2+1)).trans am;have f7:=(a9 (K*2+1)).trans f2;have bR:Hid (mh w2 base gl N.length cl LN LL K kl kr m fb nm L (j+1) (j+1) (ap.setCell (ae gl (K*2+1)) (aj ba (j+1+1) a5)) (.slice b0 A b1) bY (aj ba (j+1+1) a5)):=
      mh.QL v.o T C (by omega) cI bz (by rw[bO.o];exact bj) R
     clear a7 a9 a3 R be bj am f2 b3 b4 a1 v;go_wp2
     go_roundg (L.length-(j+1))
     case measure=>omega
     case rel=>exact⟨j+1,_,_,_,by go_num,by omega,ay _,bR⟩
    .have d1:decide ((i:Int)<(m:Int))=false:=by simpa using J
     have d2:decide (i<m)=false:=by simpa using J
     have al:w3.cell? (ae gl (kr*2))=some vr:=(aK.get cg).1.trans (by rw[upd_same]);have f0:=aK.frozenAt (kr*2)
     go_wp2_with (at_builtin;refine bZ sM w2.heap.size bI [.int .u32 ad] rfl (by simp[Value.oneCell']) rfl _ _ rfl rfl _ rfl (by unfold maxLen;omega) (by omega) (by have:=bk.size;omega) ?_;intro v1 w4 X Q bd;have a2:au (fun k=>vr.ownBlock=some k) w3 w4:=(au.refl _ w3).grown Q (fun k U=>.inl U);have bg:¬vr.ownBlock=some gl:=(fun h=>by have aC:=(bI.lt gl h).1;omega);obtain⟨a6,a8⟩:=cu a2 bA bg;have co:=(a6 (kr*2)).trans al;have f4:=(a8 (kr*2)).trans f0;clear a6 a8;obtain⟨an,ao,rfl⟩:=fD X;have a0:=af X;have aR:=af Q;have aQ:=af bd;clear X Q bd)
     obtain⟨f,O⟩:∃f,f=w4.setCell (ae gl (kr*2)) (.slice an (((L.take j).filter fun i=>!decide (i<m)).length+1) ao):=⟨_,rfl⟩;have v:Hid (mh w2 base gl N.length cl LN LL K kl kr m fb nm L (j+1) j f (.slice ar ((L.take j).filter fun i=>decide (i<m)).length av) (.slice an (((L.take j).filter fun i=>!decide (i<m)).length+1) ao) vf):=by
      rw[O];exact mh.right aV.o T (by rw[<-H.o.1];exact J) cg (by omega) (by omega) (by omega) bz (by rw[<-H.o.1,<-H.o.2];exact a0.o) aR.o (gu aQ.o)
     have F:((L.take (j+1)).filter fun i=>decide (i<m)).length=((L.take j).filter fun i=>decide (i<m)).length:=by
      rw[dZ T,lW,<-H.o.1];simp[J]
     rw[<-O];clear O a2 bg co f4 a0 aR aQ aK bG bI cM cL bk aV al f0 bA;generalize bb:((.slice ar ((L.take j).filter fun i=>decide (i<m)).length av):Value)=bX at*;generalize b6:((.slice an (((L.take j).filter fun i=>!decide (i<m)).length+1) ao):Value)=bY at*;have b7:∃a c,bX=.slice a (((L.take j).filter fun i=>decide (i<m)).length) c:=⟨_,_,bb.symm⟩;clear bb b6;obtain⟨b0,b1,rfl⟩:=b7;obtain⟨A,P⟩:∃A,A=((L.take j).filter fun i=>decide (i<m)).length:=⟨_,rfl⟩
     first|rw[<-P]at F v |- |rw[<-P]at F v
     have bO:=af F;have c8:A<=1000001:=by omega
     clear F P;obtain⟨u,cj,cm,ac,ck,ab⟩:=v.o;have cb:gl<f.heap.size:=by have:=ab.size;omega
     have b3:=ag ((u.get C).2.trans (by rw[upd_same]));have b4:=ag ((u.get bi).1.trans (by rw[upd_ne (by omega),upd_same]));have f2:=u.frozenAt (K*2+1);have am:=(u.get C).2;rw[upd_same]at am;have a1:=af ac;have cc:¬vf.ownBlock=some gl:=fun h=>bD u ac (by decide) gl rfl h;have c9:=ab.size;clear u cj cm ac ck ab;refine ak (fun W=>∃p:aT f,W=p.W) [11,12,13,14] [(0,false),(1,false),(2,false),(3,false),(4,true),(5,false),(6,false),(7,false),(8,true),(9,false)] ⟨⟨_,(aB _ _).drew⟩,rfl⟩ 5 ?_;simp only[bn,aX,aY,aW,aN,aM,aO]
     repeat(refine aD (fun K d=>?_);go_simp;first|(refine d _ ?_;clear d K)|(apply Exists.intro;refine⟨fun _=>?_,d _ ?_⟩;rfl;clear d K))
     refine aJ ?_;refine aA 10 rfl fun K d=>?_;go_simp;refine d _ _ (fun _ _=>⟨⟨_,(aB _ f).alloc (ay _) _|>.drew⟩,rfl⟩) ?_;clear d K;refine aA 11 rfl fun K d=>?_;refine bH mI fb (w:=(f.alloc (.cells #[aa A] 3)).drew) (ax a1.o ((aB _ f).alloc (ay _) _|>.drew)) [.int .i64 A] rfl (by simp[Value.oneCell']) rfl (.tmp 92) (.tmp 98) rfl rfl f.heap.size rfl (kF _ _) (by unfold maxLen;omega) (by omega) (by simp;omega) ?_;intro ba a5 ap bj be dd dh;refine d _ _ (fun _ h=>absurd (by simp) h) ?_;clear d K;refine aF [12,13,14] _ _ _ (by kernel_rfl) ?_;simp only[pick,aX,aY,aW,aN,aM];have R:f.grownBy ap vf.ownBlock:=dN (bQ ((aB _ f).alloc (ay _) _|>.drew)) be;have a3:au (fun k=>vf.ownBlock=some k) f ap:=(au.refl _ f).grown R (fun k U=>.inl U);obtain⟨a7,a9⟩:=cu a3 cb cc;have dp:=(a7 (K*2+1)).trans am;have f7:=(a9 (K*2+1)).trans f2;have bR:Hid (mh w2 base gl N.length cl LN LL K kl kr m fb nm L (j+1) (j+1) (ap.setCell (ae gl (K*2+1)) (aj ba (j+1+1) a5)) (.slice b0 A b1) bY (aj ba (j+1+1) a5)):=
      mh.QL v.o T C (by omega) cI bz (by rw[bO.o];exact bj) R
     clear a7 a9 a3 R be bj am f2 b3 b4 a1 v;go_wp2
     go_roundg (L.length-(j+1))
     case measure=>omega
     case rel=>exact⟨j+1,_,_,_,by go_num,by omega,ay _,bR⟩
   .obtain rfl:j=L.length:=by omega
    clear bl bm bp bq bo G u1 u4 bu;go_wp2
    first|go_end0|go_ret
    obtain⟨bl,bm,bp,bq,bo,G⟩:=aU.o;have dU:=cr.o.size;have cE:=qW m L;simp only[jy]at bl bm bp bo;rw[jQ (xm cE),<-cE]at bq;exact⟨rfl,_,_,_,bl,bL bm (by omega),bL bp (by omega),bL bq (by omega),bo,
     ((cr.o.mono (S':=fun k=>k=gl\/w.heap.size<=k) (fun k h=>.inl h)).trans (G.mono (fun k h=>by rcases h with h|h;exact .inl h;exact .inr (by omega)))).strip⟩
theorem xK (a s tb E off cn gl cl base K V:Nat) (N:List Nd) (LN LL:Nat->Value) (w:World) (F:FT.At N (.leaf a) s) (d:(FT.leaf a).root s=K) (ap:N.length<=1000000)
  (i:w.cell? (ae tb 4)=some (.slice (some (ae E off)) N.length cn)) (B:cz nU 7 w (some (ae E off)) N) (u:w.cell? (ae tb 5)=some (aj gl N.length cl))
  (k:cO w base gl N.length cl LN LL):
  aH 96 #[ah tb,aa K,.map (some V)] w fun e w'=>e=.returned (.tuple #[])/\∃vf,(∃a m c,vf=.slice a m c)/\cO w' base gl N.length cl LN (upd LL K vf)/\(∀g,vf.ownBlock=some g->w.heap.size<=g/\g<w'.heap.size)/\au (fun b=>b=gl) w w':=by
 obtain⟨av,n0,l,n,q,r,y,t⟩:=l9 B F.get;have v:=F.lt;have T:=gW w _ i;have ar:gl<w.heap.size:=(k.lt gl rfl).2;simp only at T;simp only[FT.top]at n0 l n q r t;rw[d]at n0 l n q r y t v;have P:=af k;have R:=k.frozenAt (K*2+1);obtain⟨X,J⟩:=k.get v;have ab:=af i;have ad:=af B;have ac:=af u;obtain⟨L,G⟩:∃L,L=LL K:=⟨_,rfl⟩;rw[<-G]at J;clear k B G;go_enter func96,ntmps96
 go_upto_region 0 with fail
 go_cut [6,7]from 6 (fun Y Z M=>∃x:Nat,Y=ah x/\Z=.pointer (some (ae gl (K*2)))/\Hid (M.heap[x]? =some (.cells #[.int .u8 1,aa (-1),aa (-1),aa a,aa (a+1),aa 0,aa a] 163 (0,0)))/\Hid (Below w.heap.size w M)/\w.heap.size<=x)
 case first=>
  have an:=ag i;have ao:=ag u;have aC:=ag n0;have aE:=ag l;have aG:=ag n;have aI:=ag q;have aK:=ag r;have aL:=ag y;have aP:=ag t;clear i u n0 l n q r y t;refine ak (fun W=>∃p:aT w,W=p.W) [15] [(0,false),(1,false),(2,false),(3,true),(4,false),(5,false),(6,true),(7,false),(8,false),(9,false),(10,true),(11,false),(12,false)] ⟨⟨_,(aB _ _).drew⟩,rfl⟩ 3 ?_;simp only[bn,aX,aY,aW,aN,aM,aO]
  repeat(refine aD (fun K d=>?_);go_simp;first|(refine d _ ?_;clear d K)|(apply Exists.intro;refine⟨fun _=>?_,d _ ?_⟩;rfl;clear d K))
  refine aJ ?_;refine aA 13 rfl fun K d=>?_;go_simp;refine d _ _ (fun _ _=>⟨⟨_,(aB _ w).alloc (ay _) _|>.drew⟩,rfl⟩) ?_;clear d K;refine aA 14 rfl fun K d=>?_;go_simp;refine d _ _ (fun _ _=>⟨⟨_,(aB _ w).alloc (ay _) _|>.drew⟩,rfl⟩) ?_;clear d K;refine aF [15] _ _ _ (by kernel_rfl) ?_;simp only[pick,aX,aY,aW,aN,aM];go_wp2;go_meet;exact⟨w.heap.size,rfl,rfl,kF _ _,(aB _ w).alloc (ay _) _|>.drew,ay _⟩
 case rest=>
  obtain⟨x,rfl,rfl,C,h,az⟩:=hcut;have U:x<wc.heap.size:=(aZ.1 C.o).1;have z:Hid (cO wc base gl N.length cl LN LL):=ax P.o h.o;have S:=z.o.frozenAt (K*2+1);have m1:=(z.o.get v).2;obtain⟨A,H⟩:∃A,A=LL K:=⟨_,rfl⟩;rw[<-H]at m1;clear H;have ai:(wc.alloc (.cells #[aa 0] 3)).cell? (ae gl (K*2+1))=some A:=(((aB wc.heap.size wc).alloc (ay _) _).cell (p:=(ae gl (K*2+1))) (by have:=h.o.size;show gl<_;omega)).trans m1;have al:(wc.alloc (.cells #[aa 0] 3)).frozen? (ae gl (K*2+1))=false:=(((aB wc.heap.size wc).alloc (ay _) _).frozen (p:=(ae gl (K*2+1))) (by have:=h.o.size;show gl<_;omega)).trans S;clear n0 l n q r y t i u R X J;have aw:=h.o.size;obtain⟨f,j⟩:∃f,f=(wc.alloc (.cells #[aa 0] 3)).setCell (ae gl (K*2+1)) (aj wc.heap.size 1 1):=⟨_,rfl⟩;have D:au (fun b=>b=gl) wc f:=by rw[j];exact((au.refl (fun b=>b=gl) wc).alloc _).set (a:=(ae gl (K*2+1))) _ (.inl rfl)
  have Q:Hid (cO f base gl N.length cl LN (upd LL K (aj wc.heap.size 1 1))):=by rw[j];exact cO.Pn (ax z.o ((aB _ _).alloc (ay _) _)) v _
  have O:Hid (au (fun b=>b=gl) w f):=((au.refl (fun b=>b=gl) w).below h.o).trans D;have aq:f.heap.size=wc.heap.size+1:=by rw[j];simp
  have I:=C.o;have aQ:f.cell? (ae x 0)=some (.int .u8 1):=((cu D U (by omega)).1 0).trans (by simp[World.cell?,I]);clear I
  go_upto_region 2 with fail
  rw[<-j];clear j;go_wp2;refine jT (jZ rfl _ _ _) rfl ?_;exact⟨rfl,aj wc.heap.size 1 1,⟨_,_,_,rfl⟩,Q.o,fun g e=>by have am:=MN e;omega,O.o⟩
end
section
open Go.RowKit Go.Sort Go.Shelf Go.Lib
def nA (p q:Pt):Int:=if iQ p.2.1 q.2.1=0 then iQ p.2.2 q.2.2 else iQ p.2.1 q.2.1
theorem pK (p q:Pt):nA p q<0↔sG p q:=by
 unfold nA sG iQ
 repeat' split
 all_goals omega
theorem Rp (p q:Pt) (w:World):aH 71 #[iD p.1 p.2.1 p.2.2,iD q.1 q.2.1 q.2.2] w fun e w'=>e=.returned (aa (nA p q))/\wF w w':=by
 have a:=af (fun W=>UI p.2.1 q.2.1 p.2.2 q.2.2 W);unfold nA;generalize(if iQ p.2.1 q.2.1=0 then iQ p.2.2 q.2.2 else iQ p.2.1 q.2.1)=r at*;go_enter func71,ntmps71
 go_wp2_with fail
 refine(a.o _).mono ?_;rintro e w1 ⟨rfl,h⟩;go_wp2;go_ret;exact⟨rfl,(((wF.refl _).alloc _).alloc _).trans h⟩
theorem Ak:∀args w,(callFunc 71 args).run prog w=.ok (.enter 71 args) w:=cK func71 (by kernel_rfl) rfl
def Mk (p q:Pt):Bool:=!decide (sG q p)
def jP (l:List Pt):List Pt:=l.mergeSort Mk
theorem iM (l:List Pt):(jP l).Perm l:=qz l Mk
theorem jG (l:List Pt) (p:Pt):p∈jP l↔p∈l:=(iM l).mem_iff
theorem yF {l:List Pt} (h:(ids l).Nodup):(jP l).Pairwise sG:=by
 have d:(jP l).Pairwise fun p q=>Mk p q=true:=qA (le:=Mk) (fun p q r j k=>by simp only[Mk,nO,iA]at*;unfold sG at*;omega) (fun p q=>by simp only[Mk,zF,nO,iA];unfold sG;omega) l;have c:(ids (jP l)).Nodup:=((iM l).map _).nodup_iff.2 h;have e:(jP l).Pairwise fun p q=>p.2.2≠q.2.2:=by
  unfold ids at c;exact dE.1 c
 refine(d.and e).imp fun{a b} g=>?_;have⟨f,i⟩:=g;simp only[Mk,nO,iA]at f;unfold sG at*;omega
theorem Jz {l S:List Pt} (h:(ids l).Nodup) (hS:S.Pairwise sG) (a:∀p,p∈S↔p∈l):S=jP l:=
 o9 ve Ci hS (yF h) fun p=>by rw[a,jG]
theorem Pp:SWO (ltOf nA):=xD pK ve (fun _ _ _=>rR) (fun x y z=>by unfold sG;omega)
theorem Fv {l l':List Pt} (hu:(ids l).Nodup) (hp:l'.Perm l) (g:l'.Pairwise fun x y=>¬nA y x<0):l'=jP l:=by
 refine Jz hu ?_ fun p=>hp.mem_iff;have c:(ids l').Nodup:=(hp.map _).nodup_iff.2 hu;have d:l'.Pairwise fun p q=>p.2.2≠q.2.2:=dE.1 c;refine(g.and d).imp fun{a b} f=>?_;have⟨e,h⟩:=f;rw[pK]at e;unfold sG at*;omega
theorem M7 {w:World} {base g c n:Nat} {l:List Pt} (i:l.length=n) (k:n<4611686018427387904) (h:w.ownsRow base 29 3 (aj g n c) n (l.flatMap dx)) (hu:(ids l).Nodup):
  aH 93 #[aj g n c,.func (.func 71) #[] #[]] w fun e w'=>
   e=.returned (.tuple #[])/\w'.ownsRow base 29 3 (aj g n c) n ((jP l).flatMap dx)/\w.grownBy w' (some g):=by
 have a:=mf Tryz.G6 bu (by decide) isAgg29 sizeOf29 mP nA Pp 71 #[] Ak (fun x y W=>Rp x y W) i k h;change aH 93 _ _ _ at a;refine a.mono ?_;rintro e w' ⟨d,l',hp,j,b,f⟩;rw[Fv hu hp j]at b;exact⟨d,b,f⟩
theorem xL {w:World} {base n:Nat} {v:Value} {l:List Pt} (b:l.length=n) (i:n<4611686018427387904) (h:w.ownsRow base 29 3 v n (l.flatMap dx)) (hu:(ids l).Nodup):
  aH 93 #[v,.func (.func 94) #[] #[]] w fun e w'=>
   e=.returned (.tuple #[])/\w'.ownsRow base 29 3 v n ((eO l).flatMap dx)/\au (fun k=>v.ownBlock=some k) w w':=by
 rcases h.2 with⟨rfl,c⟩|⟨g,j,m,rfl,o,_⟩
 .subst c;obtain rfl:l=[]:=gJ b;refine(pE none 0 _ w).mono ?_;rintro e w' ⟨a,rfl⟩;exact⟨a,by simpa[eO]using h,au.refl _ _⟩
 .refine(Jt b i h hu).mono ?_;rintro e w' ⟨a,f,d⟩;exact⟨a,f,(au.refl _ w).grown d (fun k e=>.inl e)⟩
theorem KO {w:World} {base n:Nat} {v:Value} {l:List Pt} (b:l.length=n) (i:n<4611686018427387904) (h:w.ownsRow base 29 3 v n (l.flatMap dx)) (hu:(ids l).Nodup):
  aH 93 #[v,.func (.func 71) #[] #[]] w fun e w'=>
   e=.returned (.tuple #[])/\w'.ownsRow base 29 3 v n ((jP l).flatMap dx)/\au (fun k=>v.ownBlock=some k) w w':=by
 rcases h.2 with⟨rfl,c⟩|⟨g,j,m,rfl,o,_⟩
 .subst c;obtain rfl:l=[]:=gJ b;refine(pE none 0 _ w).mono ?_;rintro e w' ⟨a,rfl⟩;exact⟨a,by simpa[jP]using h,au.refl _ _⟩
 .refine(M7 b i h hu).mono ?_;rintro e w' ⟨a,f,d⟩;exact⟨a,f,(au.refl _ w).grown d (fun k e=>.inl e)⟩
end
section
open Go.RowKit Go.Sort Go.Shelf Go.Lib Go.Maps
structure uE (w:World) (lo fb n:Nat) (rv gv nv fv:Value) (l:List Pt):Prop where
 row:w.ownsRow lo 29 3 rv n (l.flatMap dx)
 Cs:w.ownsRow lo 4 1 gv n ((List.replicate n false).map Value.bool)
 ig:mQ w lo fb n fv
 OT:lo<=fb
 iP:w.ownsRow lo 163 7 nv (aU n).length ((aU n).flatMap nU)
def Else (w:World) (S:Nat->Prop):Prop:=∀k,k<w.heap.size->S k->∃cs t fr,w.heap[k]? =some (.cells cs t fr)/\t≠29/\t≠4/\t≠236/\t≠163
theorem og {S:Nat->Prop} {w w':World} {base:Nat} {e:TypeId} {sz:Nat} {v:Value} {n:Nat} {xs:List Value} (h:w.ownsRow base e sz v n xs) (K:au S w w') (hS:∀k,k<w.heap.size->S k->∃cs t fr,w.heap[k]? =some (.cells cs t fr)/\t≠e):w'.ownsRow base e sz v n xs:=
 aS h K fun a b d=>by
  have⟨cs,t,fr,c,ht⟩:=hS a (h.lt a b).2 d;exact bz h c ht a b rfl
theorem uE.kept {S:Nat->Prop} {w w':World} {lo fb n:Nat} {o j m i:Value} {l:List Pt} (h:uE w lo fb n o j m i l) (K:au S w w') (hS:Else w S):uE w' lo fb n o j m i l:=by
 refine⟨og h.row K fun k g f=>?_,og h.Cs K fun k g f=>?_,⟨bF K h.ig.blk fun f=>?_,og h.ig.row K fun k g f=>?_⟩,h.OT,og h.iP K fun k g f=>?_⟩
 .obtain⟨cs,t,fr,a,b,c,d,e⟩:=hS k g f;exact⟨cs,t,fr,a,b⟩
 .obtain⟨cs,t,fr,a,b,c,d,e⟩:=hS k g f;exact⟨cs,t,fr,a,c⟩
 .have p:=(aZ.1 h.ig.blk).1;have⟨cs,t,fr,a,b,c,d,e⟩:=hS fb p f;have:=a.symm.trans h.ig.blk;injection this with this;injection this with _ this _;exact d this
 .obtain⟨cs,t,fr,a,b,c,d,e⟩:=hS k g f;exact⟨cs,t,fr,a,e⟩
 .obtain⟨cs,t,fr,a,b,c,d,e⟩:=hS k g f;exact⟨cs,t,fr,a,e⟩
abbrev vN (rv xv gv:Value) (fb:Nat) (nv lv yv:Value) (n:Nat):Obj:=.cells #[rv,xv,gv,ah fb,nv,lv,yv,aa n] 146 (0,0)
theorem vO:∀args w,(callFunc 91 args).run prog w=.ok (.enter 91 args) w:=cK func91 (by kernel_rfl) rfl
theorem lS:∀args w,(callFunc 95 args).run prog w=.ok (.enter 95 args) w:=cK func95 (by kernel_rfl) rfl
theorem uF:∀args w,(callFunc 92 args).run prog w=.ok (.enter 92 args) w:=cK func92 (by kernel_rfl) rfl
theorem KP:∃i,Tryz.prog.info? 4=some i/\i.zero=some (.bool false)/\i.size=1/\i.bytes=1:=by
 have h:(Tryz.prog.info? 4).map (fun i=>(i.zero,i.size,i.bytes))=some (some (.bool false),1,1):=by kernel_rfl
 cases hi:Tryz.prog.info? 4 with
 |none=>rw[hi]at h;cases h
 |some i=>rw[hi]at h;injection h with h;injection h with b a;injection a with a c;exact⟨i,rfl,b,a,c⟩
theorem KQ:∃i,Tryz.prog.info? 150=some i/\i.zero=some (.agg #[aG,aG])/\i.size=2/\i.bytes=48:=by
 have h:(Tryz.prog.info? 150).map (fun i=>(i.zero,i.size,i.bytes))=some (some (.agg #[aG,aG]),2,48):=by kernel_rfl
 cases hi:Tryz.prog.info? 150 with
 |none=>rw[hi]at h;cases h
 |some i=>rw[hi]at h;injection h with h;injection h with b a;injection a with a c;exact⟨i,rfl,b,a,c⟩
theorem M8 (n:Nat) (d:n<=1000000) (W:World):(Instr.makeSlice 95 (.int .i64 n) (.int .i64 n)).run prog W=.ok (aj W.heap.size n n) (W.alloc (.cells (madeCells #[.bool false] n) 4)):=by
 have⟨i,hi,c,b,a⟩:=KP;have h:=run_make (P:=prog) W 95 4 i (.bool false) underlying95 hi c .i64 .i64 n n (by omega) (uw _) (by rw[a];omega) (by omega);rw[h,gN,b,iF];rfl
theorem M9 (n:Nat) (d:n<=1000000) (W:World):(Instr.makeSlice 144 (.int .i64 n) (.int .i64 n)).run prog W=.ok (aj W.heap.size n n) (W.alloc (.cells (madeCells #[aG,aG] (n*2)) 150)):=by
 have⟨i,hi,c,b,a⟩:=KQ;have h:=run_make (P:=prog) W 144 150 i (.agg #[aG,aG]) underlying144 hi c .i64 .i64 n n (by omega) (uw _) (by rw[a];omega) (by omega);rw[h,gN,b];rfl
theorem xM (W:World) (base n:Nat) (a:base<=W.heap.size) (b:n<=1000000):(W.alloc (.cells (madeCells #[.bool false] n) 4)).ownsRow base 4 1 (aj W.heap.size n n) n ((List.replicate n false).map Value.bool):=by
 have h:=World.ownsRow_lit (e:=4) (size:=1) W (madeCells #[.bool false] n) n a (by unfold maxLen;omega) (by rw[size_madeCells,iF]);rwa [toList_madeCells_one,<-Dj]at h
theorem KR (W:World) (base n:Nat) (d:base<=W.heap.size) (f:n<=1000000):cO (W.alloc (.cells (madeCells #[aG,aG] (n*2)) 150)) base W.heap.size n n (fun _=>aG) (fun _=>aG):=by
 have h:=World.ownsRow_lit (e:=150) (size:=2) W (madeCells #[aG,aG] (n*2)) n d (by unfold maxLen;omega) (by rw[size_madeCells]);have e:(madeCells #[aG,aG] (n*2)).toList=M3 (fun _=>aG) (fun _=>aG) n:=by
  apply wS;intro i;by_cases hi:i<n*2
  .have hd:i/2<n:=by omega
   have⟨a,b⟩:=rY (fun _=>aG) (fun _=>aG) hd;have c:(madeCells #[aG,aG] (n*2)).toList[i]? =some (aG):=by
    simp only[madeCells,GU,Array.getElem?_map,Array.getElem?_range,hi,gD,aO];rcases CX i with hm|hm<;>simp[hm]
   rw[c];rcases CX i with hm|hm
   .rw[show i=i/2*2 by omega,a]
   .rw[show i=i/2*2+1 by omega,b]
  .rw[nM (by simp[size_madeCells];omega),nM (by rw[pJ];omega)]
 rw[e]at h;exact h
theorem Ia {w3 a:World} {base fb n:Nat} {d m0:Int} {l:Value} {e:TypeId} {sz:Nat} {v:Value} {m:Nat} {xs:List Value} (h:w3.ownsRow base e sz v m xs) (f:e≠236) (i:w3.heap[fb]? =some (kK d m0 l n)) (j:au (fun k=>k=fb) w3 a):a.ownsRow base e sz v m xs:=
 aS h j fun g b c=>bz h i (iG f) g b c.symm
theorem Na {w w':World} {c:Nat} {f:Array MapEntry} {d:Nat} {base:Nat} {e:TypeId} {sz:Nat} {v:Value} {n:Nat} {xs:List Value} (h:w.ownsRow base e sz v n xs) (K:au (fun k=>k=c) w w') (b:w.heap[c]? =some (.map f d)):w'.ownsRow base e sz v n xs:=
 aS h K fun o a j=>by
  subst j;rcases h.2 with⟨rfl,-⟩|⟨g,l,m,rfl,-,i,-⟩
  .cases a
  .injection a with a;subst a;rw[i]at b;cases b
theorem uE.Td {w w':World} {f:Nat} {j:Array MapEntry} {i:Nat} {lo fb n:Nat} {g c d b:Value} {l:List Pt} (h:uE w lo fb n g c d b l) (K:au (fun k=>k=f) w w') (a:w.heap[f]? =some (.map j i)):uE w' lo fb n g c d b l:=
 ⟨Na h.row K a,Na h.Cs K a,⟨bF K h.ig.blk (fun e=>by subst e;have m:=h.ig.blk.symm.trans a;cases m),Na h.ig.row K a⟩,h.OT,Na h.iP K a⟩
def dO (R:List Pt):List Nat:=(jP R).map fun p=>R.idxOf p
theorem Pq {R:List Pt} {i:Nat} (hi:i<(dO R).length):bV R (dO R)[i]=(jP R)[i]'(by simpa[dO]using hi):=by
 have a:i<(jP R).length:=by simpa[dO]using hi
 have c:(jP R)[i]∈R:=(jG R _).1 (bN a);have b:=GG c;simp only[dO,fJ,bV];rw[iO,dw b];simp
theorem jH (R:List Pt):(dO R).length=R.length:=by simp[dO,(iM R).length_eq]
theorem Al {R:List Pt} {p:Pt} (h:p∈R):bV R (R.idxOf p)=p:=by
 have a:=GG h;simp only[bV];rw[iO,dw a];simp
theorem pM {R:List Pt} (g:R.Pairwise jV) (hu:(ids R).Nodup):cB R (List.replicate R.length false) (dO R):=by
 have f:R.Nodup:=g.imp fun{a b} h e=>by subst e;exact rQ _ h
 have j:(jP R).Nodup:=(iM R).nodup_iff.2 f;refine⟨g,hu,by simp,?_,fun i=>?_,?_⟩
 .unfold dO;refine dE.2 (zf (fun{p q} hp c h e=>h ?_) j);rw[<-Al ((jG R p).1 hp),<-Al ((jG R q).1 c),e]
 .rw[qB];constructor
  .intro h;unfold dO at h;obtain⟨p,hp,rfl⟩:=dI.1 h;rw[aK (GG ((jG R p).1 hp))]
  .intro h;have hi:i<R.length:=by
    by_cases d:i<R.length
    .exact d
    .rw[aI d]at h;cases h
   unfold dO;refine dI.2 ⟨R[i],(jG R _).2 (bN hi),?_⟩;exact List.Nodup.idxOf_getElem f i hi
 .unfold dO;refine dE.2 (zf (fun{p q} hp c h=>?_) (yF hu));rw[Al ((jG R p).1 hp),Al ((jG R q).1 c)];exact h
theorem fG {j:Nat} (h:0<j):aU j=(dK 0 j).nodes 0:=by unfold aU;rw[aI (by omega)]
theorem ky {j:Nat} {t:FT} {s:Nat} (h:FT.At (aU j) t s):0<j:=by
 have:=h.lt;rw[dh]at this;omega
theorem kL {j:Nat} (h:0<j):(dK 0 j).root 0=2*j-2:=by
 have:=eZ 0 j h;unfold FT.root;omega
theorem rZ {j k:Nat} (h:k<(aU j).length):∃t s,FT.At (aU j) t s/\t.root s=k:=by
 have b:0<j:=by rw[dh]at h;omega
 have a:=jF j b;rw[fG b]at h a |-;rw[FT.ib]at h;have c:k<((dK 0 j).subs 0).length:=by rw[FT.fu];exact h
 exact⟨_,_,FT.kg _ 0 a _ (bN c),by rw[FT.nZ];omega⟩
abbrev Te (t:FT) (s:Nat) (l r:FT) (q:Nat):Prop:=(t=l/\s=q)\/(t=r/\s=q+l.size)
structure xN (w:World) (B j:Nat) (R:List Pt) (YS:List Nat) (m:Nat) (LN LL:Nat->Value):Prop where
 Tf:∀t s,FT.At (aU j) t s->(t.root s=2*j-2\/∃l r q,FT.At (aU j) (.node l r) q/\m<=(FT.node l r).root q/\Te t s l r q)->w.ownsRow B 27 1 (LN (t.root s)) (nl YS t).length (((nl YS t).map (jw R)).map (Value.int .u32))
 emp:∀l r q,FT.At (aU j) (.node l r) q->(FT.node l r).root q<m->LN (l.root q)=aG/\LN (r.root (q+l.size))=aG
 zW:∀l r q,FT.At (aU j) (.node l r) q->m<=(FT.node l r).root q->w.ownsRow B 3 1 (LL ((FT.node l r).root q)) (lf l.hi (nl YS (.node l r))).length ((lf l.hi (nl YS (.node l r))).map (Value.int .i64))
 Cn:∀k,k<(aU j).length->m<=k->(∃a n c,LL k=.slice a n c)/\∀g,(LL k).ownBlock=some g->B<=g/\g<w.heap.size
 nil:∀k,k<m->LL k=aG
 Ps:∀k,k<(aU j).length->∀g,(LN k).ownBlock=some g->B<=g/\g<w.heap.size
 Gx:∀i k,i<(aU j).length->k<(aU j).length->i≠k->∀g,(LN i).ownBlock=some g->(LN k).ownBlock≠some g
 Fj:∀i k,i<(aU j).length->k<(aU j).length->i≠k->∀g,(LL i).ownBlock=some g->(LL k).ownBlock≠some g
section
variable {w w':World} {B base gl n c j k:Nat} {R:List Pt} {YS:List Nat} {LN LL:Nat->Value}
theorem xN.leaf (h:xN w B j R YS (k+1) LN LL) (G:cO w base gl n c LN LL) {a s:Nat} (H:FT.At (aU j) (.leaf a) s) (I:(FT.leaf a).root s=k) (C:au (fun b=>b=gl) w w') (O:B<=w.heap.size) {vf:Value} (M:∃a m c,vf=.slice a m c) (D:∀g,vf.ownBlock=some g->w.heap.size<=g/\g<w'.heap.size):
  xN w' B j R YS k LN (upd LL k vf):=by
 have J:∀l r q,FT.At (aU j) (.node l r) q->k<=(FT.node l r).root q->k+1<=(FT.node l r).root q:=fun l r q d f=>by
  by_cases e:(FT.node l r).root q=k
  .have:=(FT.At.unique H d (by rw[I,e])).1;cases this
  .omega
 have P:k<(aU j).length:=I▸H.lt;have S:=C.size;refine⟨fun t N d f=>?_,fun l r q d f=>h.emp l r q d (by omega),fun l r q d f=>?_,fun i d f=>?_,fun i d=>?_,fun i d g f=>?_,h.Gx,fun i E d f o g p v=>?_⟩
 .have o:=h.Tf t N d (f.imp id fun⟨l,r,q,x,y,L⟩=>⟨l,r,q,x,J l r q x y,L⟩);exact aS o C fun g z A=>bD G o (by decide) g (by rw[A];rfl) z
 .have p:=J l r q d f;have o:=h.zW l r q d p;rw[upd_ne (by omega)];exact aS o C fun g z A=>bD G o (by decide) g (by rw[A];rfl) z
 .by_cases e:i=k
  .subst e;rw[upd_same];exact⟨M,fun g u=>by have:=D g u;omega⟩
  .rw[upd_ne e];have⟨x,y⟩:=h.Cn i d (by omega);exact⟨x,fun g u=>by have:=y g u;omega⟩
 .rw[upd_ne (by omega)];exact h.nil i (by omega)
 .have:=h.Ps i d g f;omega
 .have K:∀i,i<(aU j).length->i≠k->∀g,(LL i).ownBlock=some g->g<w.heap.size:=fun i hi Q g u=>by
   by_cases e:i<k
   .rw[h.nil i (by omega)]at u;cases u
   .exact((h.Cn i hi (by omega)).2 g u).2
  by_cases e:i=k
  .subst e;rw[upd_same]at p;rw[upd_ne (iG o)]at v;have:=K E f (iG o) g v;have:=D g p;omega
  .rw[upd_ne e]at p;by_cases F:E=k
   .subst F;rw[upd_same]at v;have:=K i d e g p;have:=D g v;omega
   .rw[upd_ne F]at v;exact h.Fj i E d f o g p v
theorem xN.node (h:xN w B j R YS (k+1) LN LL) (W:cO w base gl n c LN LL) {l r:FT} {s:Nat} (H:FT.At (aU j) (.node l r) s) (ae:(FT.node l r).wf) (X:(FT.node l r).root s=k) (M:au (fun b=>b=gl) w w') (L:B<=w.heap.size) {vl vr vf:Value}
  (aa:w'.ownsRow w.heap.size 27 1 vl ((nl YS (.node l r)).filter fun i=>decide (i<l.hi)).length ((((nl YS (.node l r)).filter fun i=>decide (i<l.hi)).map (jw R)).map (Value.int .u32)))
  (ac:w'.ownsRow w.heap.size 27 1 vr ((nl YS (.node l r)).filter fun i=>!decide (i<l.hi)).length ((((nl YS (.node l r)).filter fun i=>!decide (i<l.hi)).map (jw R)).map (Value.int .u32)))
  (P:w'.ownsRow w.heap.size 3 1 vf (lf l.hi (nl YS (.node l r))).length ((lf l.hi (nl YS (.node l r))).map (Value.int .i64))) (O:∀g,vl.ownBlock=some g->vr.ownBlock≠some g):
  xN w' B j R YS k (upd (upd LN (l.root s) vl) (r.root (s+l.size)) vr) (upd LL k vf):=by
 have J:=ky H;have al:=FT.vE l r s;have am:=H.left.lt;have an:=H.right.lt;have N:=FT.yA (fG J▸H);rw[kL J]at N;have Z:∀l' f q,FT.At (aU j) (.node l' f) q->(FT.node l' f).root q=k->l'=l/\f=r/\q=s:=fun l' f q d a=>by
  have⟨C,u⟩:=FT.At.unique d H (by rw[a,X]);cases C;exact⟨rfl,rfl,u⟩
 have Y:∀l' f q,FT.At (aU j) (.node l' f) q->(FT.node l' f).root q≠k->l'.root q≠l.root s/\l'.root q≠r.root (s+l.size)/\f.root (q+l'.size)≠l.root s/\f.root (q+l'.size)≠r.root (s+l.size):=fun l' f q d a=>by
  have hu:=fun e=>a ((FT.H6 (fG J▸d) (fG J▸H) e).trans X);exact⟨fun e=>hu (.inl e),fun e=>hu (.inr (.inl e)),fun e=>hu (.inr (.inr (.inl e))),fun e=>hu (.inr (.inr (.inr e)))⟩
 have ao:=M.size;have ab:=aa.lt;have ad:=ac.lt;have Q:=P.lt;have S:∀{v:Value} {m:Nat} {xs:List Value},w.ownsRow B 27 1 v m xs->w'.ownsRow B 27 1 v m xs:=fun p=>aS p M fun g C u=>bD W p (by decide) g (by rw[u];rfl) C;have ai:∀{v:Value} {m:Nat} {xs:List Value},w.ownsRow B 3 1 v m xs->w'.ownsRow B 3 1 v m xs:=fun p=>aS p M fun g C u=>bD W p (by decide) g (by rw[u];rfl) C;refine⟨fun t ag d a=>?_,fun l' f q d a=>?_,fun l' f q d a=>?_,fun i d a=>?_,fun i d=>?_,fun i d g a=>?_,fun i I d a p g D A=>?_,fun i I d a p g D A=>?_⟩
 .rcases a with a|⟨l',f,q,x,z,E⟩
  .rw[a,upd_ne (iG N.2),upd_ne (iG N.1),<-a];exact S (h.Tf t ag d (.inl a))
  .by_cases e:(FT.node l' f).root q=k
   .obtain⟨rfl,rfl,rfl⟩:=Z l' f q x e;rcases E with⟨rfl,rfl⟩|⟨rfl,rfl⟩
    .rw[upd_ne (by omega),upd_same,rP YS t f ae];exact bL aa L
    .rw[upd_same,nQ YS l' t ae];exact bL ac L
   .obtain⟨F,y,G,K⟩:=Y l' f q x e;have p:=h.Tf t ag d (.inr ⟨l',f,q,x,by omega,E⟩);rcases E with⟨rfl,rfl⟩|⟨rfl,rfl⟩
    .rw[upd_ne y,upd_ne F];exact S p
    .rw[upd_ne K,upd_ne G];exact S p
 .obtain⟨F,y,G,K⟩:=Y l' f q d (by omega);have⟨T,ah⟩:=h.emp l' f q d (by omega);rw[upd_ne y,upd_ne F,upd_ne K,upd_ne G];exact⟨T,ah⟩
 .by_cases e:(FT.node l' f).root q=k
  .obtain⟨rfl,rfl,rfl⟩:=Z l' f q d e;rw[e,upd_same];exact bL P L
  .rw[upd_ne e];exact ai (h.zW l' f q d (by omega))
 .by_cases e:i=k
  .subst e;rw[upd_same];have⟨x,T,C⟩:=fD P;exact⟨⟨_,_,_,C⟩,fun g o=>by have:=Q g o;omega⟩
  .rw[upd_ne e];have⟨x,z⟩:=h.Cn i d (by omega);exact⟨x,fun g o=>by have:=z g o;omega⟩
 .rw[upd_ne (by omega)];exact h.nil i (by omega)
 .by_cases e:i=r.root (s+l.size)
  .subst e;rw[upd_same]at a;have:=ad g a;omega
  .rw[upd_ne e]at a;by_cases u:i=l.root s
   .subst u;rw[upd_same]at a;have:=ab g a;omega
   .rw[upd_ne u]at a;have:=h.Ps i d g a;omega
 .have U:∀i,i<(aU j).length->∀g,(upd (upd LN (l.root s) vl) (r.root (s+l.size)) vr i).ownBlock=some g->(i=r.root (s+l.size)/\vr.ownBlock=some g/\w.heap.size<=g)\/(i=l.root s/\vl.ownBlock=some g/\w.heap.size<=g)\/(i≠l.root s/\i≠r.root (s+l.size)/\(LN i).ownBlock=some g/\g<w.heap.size):=fun i hi g o=>by
   by_cases e:i=r.root (s+l.size)
   .subst e;rw[upd_same]at o;exact .inl ⟨rfl,o,(ad g o).1⟩
   .rw[upd_ne e]at o;by_cases u:i=l.root s
    .subst u;rw[upd_same]at o;exact .inr (.inl ⟨rfl,o,(ab g o).1⟩)
    .rw[upd_ne u]at o;exact .inr (.inr ⟨u,e,o,(h.Ps i hi g o).2⟩)
  rcases U i d g D with⟨x,z,E⟩|⟨x,z,E⟩|⟨aj,x,z,E⟩<;>rcases U I a g A with⟨F,y,G⟩|⟨F,y,G⟩|⟨ak,F,y,G⟩
  .omega
  .exact O g y z
  .omega
  .exact O g z y
  .omega
  .omega
  .omega
  .omega
  .exact h.Gx i I d a p g z y
 .have af:∀i,i<(aU j).length->i≠k->∀g,(LL i).ownBlock=some g->g<w.heap.size:=fun i hi O g o=>by
   by_cases e:i<k
   .rw[h.nil i (by omega)]at o;cases o
   .exact((h.Cn i hi (by omega)).2 g o).2
  by_cases e:i=k
  .subst e;rw[upd_same]at D;rw[upd_ne (iG p)]at A;have:=af I a (iG p) g A;have:=Q g D;omega
  .rw[upd_ne e]at D;by_cases V:I=k
   .subst V;rw[upd_same]at A;have:=af i d e g D;have:=Q g A;omega
   .rw[upd_ne V]at A;exact h.Fj i I d a p g D A
theorem xN.cur (h:xN w B j R YS (k+1) LN LL) {t:FT} {s:Nat} (a:FT.At (aU j) t s) (c:k<=t.root s):w.ownsRow B 27 1 (LN (t.root s)) (nl YS t).length (((nl YS t).map (jw R)).map (Value.int .u32)):=by
 have b:=ky a;refine h.Tf t s a ?_;rcases FT.MV (fG b▸a)with⟨rfl,rfl⟩|⟨l,r,q,h1,h2⟩
 .exact .inl (kL b)
 .refine .inr ⟨l,r,q,fG b▸h1,?_,h2⟩;have:=FT.vE l r q;rcases h2 with⟨rfl,rfl⟩|⟨rfl,rfl⟩<;>omega
theorem xN.all (h:xN w B j R YS 0 LN LL) {t:FT} {s:Nat} (a:FT.At (aU j) t s):w.ownsRow B 27 1 (LN (t.root s)) (nl YS t).length (((nl YS t).map (jw R)).map (Value.int .u32)):=by
 have b:=ky a;refine h.Tf t s a ?_;rcases FT.MV (fG b▸a)with⟨rfl,rfl⟩|⟨l,r,q,h1,h2⟩
 .exact .inl (kL b)
 .exact .inr ⟨l,r,q,fG b▸h1,bf _,h2⟩
end
end
end Go.Proofs.YtkjdbndekceffaaGreat
