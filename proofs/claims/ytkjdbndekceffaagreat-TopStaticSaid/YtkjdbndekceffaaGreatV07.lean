/- A part of the proof; its text was made small by a program (no remarks, short names). -/
import Derived.Test.YtkjdbndekceffaaGreatV00
import Derived.Test.YtkjdbndekceffaaGreatV03
import Derived.Test.YtkjdbndekceffaaGreatV05
import Derived.Test.YtkjdbndekceffaaGreatV01
set_option linter.unusedSimpArgs false
set_option linter.unusedVariables false
set_option maxRecDepth 100000
set_option maxHeartbeats 16000000
namespace Go.Proofs.YtkjdbndekceffaaGreat
open Go
namespace FT
theorem At.unique {N:List Nd}:∀{t t':FT} {s s':Nat},At N t s->At N t' s'->t.root s=t'.root s'->t=t'/\s=s'
 |leaf a,t',s,s',h,h',e=>by
  have g:=h.get;rw[e,h'.get]at g;injection g with g;cases t' with
  |leaf a'=>
   simp only[top,Nd.mk.injEq]at g;obtain⟨-,-,-,g4,-⟩:=g;have h1:a'=a:=by omega
   subst h1;unfold root at e;simp only[size]at e;exact⟨rfl,by omega⟩
  |node l r=>
   simp only[top,Nd.mk.injEq]at g;omega
 |node l r,t',s,s',h,h',e=>by
  have g:=h.get;rw[e,h'.get]at g;injection g with g;cases t' with
  |leaf a'=>
   simp only[top,Nd.mk.injEq]at g;omega
  |node l' r'=>
   simp only[top,Nd.mk.injEq]at g;obtain⟨-,g2,g3,-⟩:=g;have p1:=l.size_pos;have p2:=l'.size_pos;have p3:=r.size_pos;have p4:=r'.size_pos;obtain⟨rfl,rfl⟩:=At.unique h.left h'.left (by unfold root;omega);obtain⟨rfl,-⟩:=At.unique h.right h'.right (by unfold root;omega);exact⟨rfl,rfl⟩
def subs:FT->Nat->List (FT×Nat)
 |leaf a,s=>[(leaf a,s)]
 |node l r,s=>l.subs s++r.subs (s+l.size)++[(node l r,s)]
theorem fD:∀(t:FT) (s:Nat),(t.subs s).length=t.size
 |leaf a,s=>rfl
 |node l r,s=>by simp only[subs,size,bF,fD l,fD r,fU,iG]
theorem qB:∀(t:FT) (s i:Nat) (h:i<(t.subs s).length),(t.subs s)[i].1.root (t.subs s)[i].2=s+i
 |leaf a,s,i,h=>by
  have:i=0:=by simpa[subs]using h
  subst this;simp[subs,root,size]
 |node l r,s,i,h=>by
  have h':=h;rw[fD]at h';simp only[subs];by_cases h1:i<l.size
  .rw[sN (by rw[bF,fD,fD];omega),sN (by rw[fD];exact h1)];exact qB l s i _
  .by_cases h2:i<l.size+r.size
   .rw[sN (by rw[bF,fD,fD];omega),yt (by rw[fD];omega)];have h4:=qB r (s+l.size) (i-(l.subs s).length) (by rw[fD,fD];omega);rw[h4,fD];omega
   .simp only[size]at h';rw[yt (by rw[bF,fD,fD];omega)];simp only[List.getElem_singleton];unfold root;simp only[size];omega
theorem lM {N:List Nd}:∀(t:FT) (s:Nat),At N t s->∀p∈t.subs s,At N p.1 p.2
 |leaf a,s,h,p,hp=>by
  have:p=(leaf a,s):=by simpa[subs]using hp
  subst this;exact h
 |node l r,s,h,p,hp=>by
  simp only[subs,df,mR]at hp;rcases hp with(hp|hp)|hp
  .exact lM l s h.left p hp
  .exact lM r _ h.right p hp
  .subst hp;exact h
theorem at_mem {t:FT} {t':FT} {s':Nat} (h:At (t.nodes 0) t' s'):(t',s')∈t.subs 0:=by
 have hT:At (t.nodes 0) t 0:=⟨[],[],by simp,rfl⟩;have hl:=h.lt;rw[iQ]at hl;have hl2:t'.root s'<(t.subs 0).length:=by rw[fD];exact hl
 have h1:=qB t 0 _ hl2;have h2:=lM t 0 hT _ (bW hl2);obtain⟨e1,e2⟩:=At.unique h h2 (by rw[h1];omega);have:(t',s')=(t.subs 0)[t'.root s']:=Prod.ext e1 e2;rw[this];exact bW hl2
theorem EI:∀(t:FT) (s:Nat),∀p∈t.subs s,p=(t,s)\/∃l r q,(node l r,q)∈t.subs s/\(p=(l,q)\/p=(r,q+l.size))
 |leaf a,s,p,hp=>.inl (by simpa[subs]using hp)
 |node l r,s,p,hp=>by
  simp only[subs,df,mR]at hp |-;rcases hp with(hp|hp)|hp
  .rcases EI l s p hp with h|⟨l',r',q,h1,h2⟩
   .exact .inr ⟨l,r,s,.inr rfl,.inl h⟩
   .exact .inr ⟨l',r',q,.inl (.inl h1),h2⟩
  .rcases EI r _ p hp with h|⟨l',r',q,h1,h2⟩
   .exact .inr ⟨l,r,s,.inr rfl,.inr h⟩
   .exact .inr ⟨l',r',q,.inl (.inr h1),h2⟩
  .exact .inl hp
def pars:FT->Nat->Nat->List Nat
 |leaf _,_,p=>[p]
 |node l r,s,p=>l.pars s ((node l r).root s)++r.pars (s+l.size) ((node l r).root s)++[p]
theorem jg:∀(t:FT) (s p:Nat),(t.pars s p).length=t.size
 |leaf a,s,p=>rfl
 |node l r,s,p=>by simp only[pars,size,bF,jg l,jg r,fU,iG]
theorem He:∀(t:FT) (s p:Nat),(t.pars s p)[t.root s-s]? =some p
 |leaf a,s,p=>by simp[pars,root,size]
 |node l r,s,p=>by
  have e:(node l r).root s-s=l.size+r.size:=by unfold root;simp only[size];omega
  rw[e];simp only[pars];rw[oO (by rw[bF,jg,jg];omega),bF,jg,jg,jS];rfl
theorem u7:∀(t:FT) (s:Nat),∀p∈t.subs s,s<=p.2/\p.2+p.1.size<=s+t.size
 |leaf a,s,p,hp=>by
  have:p=(leaf a,s):=by simpa[subs]using hp
  subst this;exact⟨aG _,aG _⟩
 |node l r,s,p,hp=>by
  simp only[subs,df,mR]at hp;simp only[size];rcases hp with(hp|hp)|hp
  .have:=u7 l s p hp;omega
  .have:=u7 r _ p hp;omega
  .subst hp;simp only[size];omega
theorem Ps {l r:FT} {s p i:Nat} (h:i<l.size):((node l r).pars s p)[i]? =(l.pars s ((node l r).root s))[i]? :=by
 simp only[pars];rw[ek,mP (by rw[jg];exact h)]
theorem Pv {l r:FT} {s p i:Nat} (h1:l.size<=i) (h:i<l.size+r.size):((node l r).pars s p)[i]? =(r.pars (s+l.size) ((node l r).root s))[i-l.size]? :=by
 simp only[pars];rw[mP (by rw[bF,jg,jg];exact h),oO (by rw[jg];exact h1),jg]
theorem yT:∀(t:FT) (s p:Nat) (l r:FT) (q:Nat),(node l r,q)∈t.subs s->(t.pars s p)[l.root q-s]? =some ((node l r).root q)/\(t.pars s p)[r.root (q+l.size)-s]? =some ((node l r).root q)
 |leaf a,s,p,l,r,q,h=>by simp[subs]at h
 |node l0 r0,s,p,l,r,q,h=>by
  simp only[subs,df,mR]at h;have pl:=l.size_pos;have pr:=r.size_pos;have pl0:=l0.size_pos;have pr0:=r0.size_pos;have el:l.root q=q+l.size-1:=rfl;have er:r.root (q+l.size)=q+l.size+r.size-1:=rfl;rcases h with(h|h)|h
  .obtain⟨h1,h2⟩:=yT l0 s ((node l0 r0).root s) l r q h;have h3:=u7 l0 s _ h;simp only[size]at h3;rw[Ps (by omega),Ps (by omega)];exact⟨h1,h2⟩
  .obtain⟨h1,h2⟩:=yT r0 _ ((node l0 r0).root s) l r q h;have h3:=u7 r0 _ _ h;simp only[size]at h3;rw[Pv (by omega) (by omega),Pv (by omega) (by omega)];rw[show l.root q-s-l0.size=l.root q-(s+l0.size) by omega,show r.root (q+l.size)-s-l0.size=r.root (q+l.size)-(s+l0.size) by omega];exact⟨h1,h2⟩
  .simp only[Prod.mk.injEq,node.injEq]at h;obtain⟨⟨rfl,rfl⟩,rfl⟩:=h;have h1:=He l q ((node l r).root q);have h2:=He r (q+l.size) ((node l r).root q);rw[Ps (by omega),Pv (by omega) (by omega)];rw[show r.root (q+l.size)-q-l.size=r.root (q+l.size)-(q+l.size) by omega];exact⟨h1,h2⟩
theorem Pw {t l r l' r':FT} {q q':Nat} (h:At (t.nodes 0) (node l r) q) (h':At (t.nodes 0) (node l' r') q')
  (e:l.root q=l'.root q'\/l.root q=r'.root (q'+l'.size)\/r.root (q+l.size)=l'.root q'\/r.root (q+l.size)=r'.root (q'+l'.size)):(node l r).root q=(node l' r').root q':=by
 obtain⟨a1,a2⟩:=yT t 0 0 l r q (at_mem h);obtain⟨b1,b2⟩:=yT t 0 0 l' r' q' (at_mem h');rcases e with e|e|e|e
 .rw[e,b1]at a1;injection a1 with a1;exact a1.symm
 .rw[e,b2]at a1;injection a1 with a1;exact a1.symm
 .rw[e,b1]at a2;injection a2 with a2;exact a2.symm
 .rw[e,b2]at a2;injection a2 with a2;exact a2.symm
theorem yU (l r:FT) (q:Nat):l.root q<r.root (q+l.size)/\r.root (q+l.size)<(node l r).root q:=by
 have:=l.size_pos;have:=r.size_pos;unfold root;simp only[size];omega
theorem BU {t l r:FT} {q:Nat} (h:At (t.nodes 0) (node l r) q):l.root q≠t.root 0/\r.root (q+l.size)≠t.root 0:=by
 have h1:=u7 t 0 _ (at_mem h);simp only[size]at h1;have:=r.size_pos;unfold root;omega
theorem XN {t t':FT} {s':Nat} (h:At (t.nodes 0) t' s'):(t'=t/\s'=0)\/∃l r q,At (t.nodes 0) (node l r) q/\((t'=l/\s'=q)\/(t'=r/\s'=q+l.size)):=by
 have hT:At (t.nodes 0) t 0:=⟨[],[],by simp,rfl⟩;rcases EI t 0 _ (at_mem h)with h1|⟨l,r,q,h1,h2⟩
 .simp only[Prod.mk.injEq]at h1;exact .inl h1
 .refine .inr ⟨l,r,q,lM t 0 hT _ h1,?_⟩;simpa only[Prod.mk.injEq]using h2
theorem rC:∀(t:FT) (s:Nat),t.wf->∀p∈t.subs s,p.1.wf
 |leaf a,s,h,p,hp=>by
  have:p=(leaf a,s):=by simpa[subs]using hp
  subst this;exact h
 |node l r,s,h,p,hp=>by
  simp only[subs,df,mR]at hp;rcases hp with(hp|hp)|hp
  .exact rC l s h.1 p hp
  .exact rC r _ h.2.1 p hp
  .subst hp;exact h
theorem Dh:∀(t:FT) (s:Nat),t.wf->∀p∈t.subs s,p.1.hi<=t.hi
 |leaf a,s,h,p,hp=>by
  have:p=(leaf a,s):=by simpa[subs]using hp
  subst this;exact aG _
 |node l r,s,h,p,hp=>by
  simp only[subs,df,mR]at hp;have h1:=fe r h.2.1;have h2:=h.2.2;show _<=r.hi;rcases hp with(hp|hp)|hp
  .have:=Dh l s h.1 p hp;omega
  .exact Dh r _ h.2.1 p hp
  .subst hp;exact aG _
end FT
def dW (YS:List Nat) (x:Nat):List Nat:=YS.filter fun i=>decide (i≠x)
theorem erase_filter {L:List Nat} (hn:L.Nodup) {i x:Nat} (hi:i<L.length) (hx:L[i]=x):L.eraseIdx i=L.filter fun k=>decide (k≠x):=by
 induction L generalizing i with
 |nil=>simp at hi
 |cons a L ih=>
  rw[mX]at hn;cases i with
  |zero=>
   simp only[wM]at hx;subst hx;rw[List.eraseIdx_cons_zero,Iw (by simp)];symm;refine qc.2 fun k hk=>?_;simp only[bZ];rintro rfl;exact hn.1 hk
  |succ i=>
   simp only[List.getElem_cons_succ]at hx;have hi':i<L.length:=by simpa using hi
   rw[List.eraseIdx_cons_succ,List.filter_cons_of_pos,ih hn.2 hi' hx];simp only[bZ];rintro rfl;exact hn.1 (hx▸bW hi')
theorem Rw (YS:List Nat) (x:Nat) (t:FT):nl (dW YS x) t=(nl YS t).filter fun k=>decide (k≠x):=by
 unfold nl dW;rw[wQ,wQ];refine pJ fun k _=>?_;rw[Bool.and_comm]
theorem yV {YS:List Nat} {x:Nat} {t:FT} (h:¬(t.lo<=x/\x<t.hi)):nl (dW YS x) t=nl YS t:=by
 rw[Rw];refine qc.2 fun k hk=>?_;have:=(bQ.1 hk).2;simp only[bZ]at this |-;rintro rfl;exact h this
theorem Ug {YS:List Nat} (hn:YS.Nodup) {x i:Nat} {t:FT} (hi:i<(nl YS t).length) (hx:(nl YS t)[i]=x):nl (dW YS x) t=(nl YS t).eraseIdx i:=by
 rw[Rw];exact(erase_filter (L:=nl YS t) (show(nl YS t).Nodup from mQ _ hn) hi hx).symm
section
variable {m:Nat} {L:List Nat} {i x:Nat}
theorem ve (hi:i<L.length):((lf m L).eraseIdx (i+1)).length=L.length:=by
 rw[Du,ui,aR (by omega)];omega
theorem yX (hi:i<L.length):(lf m (L.eraseIdx i)).length=L.length:=by
 rw[ui,Du,aR hi];omega
theorem Gl {j:Nat} (hj:j<=i):(L.eraseIdx i).take j=L.take j:=by
 by_cases h:i<L.length
 .rw[GL,Io (by rw[eF];omega),D7,Nat.min_eq_left hj]
 .rw[List.eraseIdx_of_length_le (by omega)]
theorem alO (hi:i<L.length) {j:Nat} (hj:j<=i) (h1:j<((lf m L).eraseIdx (i+1)).length) (h2:j<(lf m (L.eraseIdx i)).length):((lf m L).eraseIdx (i+1))[j]=(lf m (L.eraseIdx i))[j]:=by
 rw[List.getElem_eraseIdx,dif_pos (by omega),rq,rq,Gl hj]
theorem alP (hi:i<L.length) (hx:L[i]=x) {j:Nat} (hj:i<j) (h1:j<((lf m L).eraseIdx (i+1)).length) (h2:j<(lf m (L.eraseIdx i)).length):((lf m L).eraseIdx (i+1))[j]-(if x<m then 1 else 0)=(lf m (L.eraseIdx i))[j]:=by
 have e1:(L.take (j+1)).countP (fun i=>decide (i<m))=((L.eraseIdx i).take j).countP (fun i=>decide (i<m))+(if x<m then 1 else 0):=by
  have e2:(L.eraseIdx i).take j=(L.take (j+1)).eraseIdx i:=by
   rw[GL,GL,List.take_append,D7,eF,D7,List.drop_take];rw[show min j i=i by omega,show min i (j+1)=i by omega,show j-min i L.length=j+1-(i+1) by omega]
  rw[e2,GL,List.countP_append];have hlt:i<(L.take (j+1)).length:=by rw[eF];omega
  have e3:L.take (j+1)=(L.take (j+1)).take i++x::(L.take (j+1)).drop (i+1):=by
   have e4:(L.take (j+1))[i]=x:=by rw[zZ];exact hx
   rw[<-e4,List.getElem_cons_drop,lg]
  conv=>lhs;rw[e3]
  rw[List.countP_append,DR];by_cases h:x<m<;>simp[h]<;>omega
 rw[List.getElem_eraseIdx,dif_neg (by omega),rq,rq,e1];split<;>simp
theorem acR (hi:i<L.length) (hx:L[i]=x) (h1:i+1<(lf m L).length) (h2:i<(lf m L).length):(lf m L)[i+1]-(lf m L)[i]=if x<m then 1 else 0:=by
 rw[rq,rq,fG hi,List.countP_append,hx];by_cases h:x<m<;>simp[h]<;>omega
def Ct (m:Nat) (L:List Nat) (i j:Nat):List Int:=(lf m (L.eraseIdx i)).take j++((lf m L).eraseIdx (i+1)).drop j
theorem Uh (hi:i<L.length):Ct m L i (i+1)=(lf m L).eraseIdx (i+1):=by
 have h1:=ve (m:=m) hi;have h2:=yX (m:=m) hi;unfold Ct;have e:(lf m (L.eraseIdx i)).take (i+1)=((lf m L).eraseIdx (i+1)).take (i+1):=by
  refine tO (by simp[h1,h2]) fun j a1 a2=>?_;rw[zZ,zZ];rw[eF]at a1;exact(alO hi (by omega) _ _).symm
 rw[e,lg]
theorem XO (hi:i<L.length):Ct m L i L.length=lf m (L.eraseIdx i):=by
 have h1:=ve (m:=m) hi;have h2:=yX (m:=m) hi;unfold Ct;rw[kZ (by omega),rX (by omega),jD]
theorem rD (hi:i<L.length) {j:Nat} (hj:j<=L.length):(Ct m L i j).length=L.length:=by
 have h1:=ve (m:=m) hi;have h2:=yX (m:=m) hi;unfold Ct;rw[bF,eF,qg];omega
theorem Rx (hi:i<L.length) {j:Nat} (hj:j<L.length):(Ct m L i j)[j]'(by rw[rD hi (by omega)];exact hj)=((lf m L).eraseIdx (i+1))[j]'(by rw[ve hi];exact hj):=by
 have h2:=yX (m:=m) hi;simp only[Ct];rw[yt (by rw[eF];omega),List.getElem_drop];congr 1;rw[eF];omega
theorem XP (hi:i<L.length) (hx:L[i]=x) {j:Nat} (oV:i<j) (hj:j<L.length):(Ct m L i j).set j ((Ct m L i j)[j]'(by rw[rD hi (by omega)];exact hj)-(if x<m then 1 else 0))=Ct m L i (j+1):=by
 have h1:=ve (m:=m) hi;have h2:=yX (m:=m) hi;rw[Rx hi hj,alP hi hx oV (by omega) (by omega)];unfold Ct;rw[wu _ _ (by rw[eF];omega),eF,show j-min j (lf m (L.eraseIdx i)).length=0 by omega];rw[fG (by omega),ek];congr 1;rw[nP (by omega)];rfl
end
namespace FT
theorem uA:∀(t:FT) (s:Nat),t.wf->∀p∈t.subs s,t.lo<=p.1.lo/\p.1.hi<=t.hi
 |leaf a,s,h,p,hp=>by
  have:p=(leaf a,s):=by simpa[subs]using hp
  subst this;exact⟨aG _,aG _⟩
 |node l r,s,h,p,hp=>by
  simp only[subs,df,mR]at hp;have h1:=fe r h.2.1;have h3:=fe l h.1;have h2:=h.2.2;show l.lo<=_/\_<=r.hi;rcases hp with(hp|hp)|hp
  .have:=uA l s h.1 p hp;omega
  .have:=uA r _ h.2.1 p hp;omega
  .subst hp;exact⟨aG _,aG _⟩
theorem yY:∀(t:FT) (s x:Nat),t.wf->∀p∈t.subs s,p.1.lo<=x->x<p.1.hi->p.1.root p.2∈t.path s x
 |leaf a,s,x,h,p,hp,h1,h2=>by
  have:p=(leaf a,s):=by simpa[subs]using hp
  subst this;simp[path,root,size]
 |node l r,s,x,h,p,hp,h1,h2=>by
  simp only[subs,df,mR]at hp;rw[path];rcases hp with(hp|hp)|hp
  .have:=uA l s h.1 p hp;rw[aR (by omega)];exact lU _ (yY l s x h.1 p hp h1 h2)
  .have:=uA r _ h.2.1 p hp;have:=h.2.2;rw[aP (by omega)];exact lU _ (yY r _ x h.2.1 p hp h1 h2)
  .subst hp;exact sQ
theorem oo:∀(t:FT) (s x:Nat),t.wf->t.lo<=x->x<t.hi->∀k∈t.path s x,∃p∈t.subs s,p.1.root p.2=k/\p.1.lo<=x/\x<p.1.hi
 |leaf a,s,x,h,h1,h2,k,hk=>by
  have:k=s:=by simpa[path]using hk
  subst this;exact⟨(leaf a,k),by simp[subs],by simp[root,size],h1,h2⟩
 |node l r,s,x,h,h1,h2,k,hk=>by
  rw[path,mZ]at hk;have h3:=h.2.2;rcases hk with rfl|hk
  .exact⟨(node l r,s),by simp[subs],rfl,h1,h2⟩
  .split at hk
   .rename_i hx;obtain⟨p,hp,e⟩:=oo l s x h.1 h1 hx k hk;exact⟨p,by simp[subs,hp],e⟩
   .rename_i hx;obtain⟨p,hp,e⟩:=oo r _ x h.2.1 (by omega) h2 k hk;exact⟨p,by simp[subs,hp],e⟩
theorem vg:∀(t:FT) (s x:Nat),t.wf->t.lo<=x->x<t.hi->(t.path s x).Pairwise (·>·)
 |leaf a,s,x,h,h1,h2=>by simp[path]
 |node l r,s,x,h,h1,h2=>by
  have h3:=h.2.2;have hle:∀(t:FT) (s:Nat),∀p∈t.subs s,p.1.root p.2<=t.root s:=fun t s p hp=>by
   have:=u7 t s p hp;have:=p.1.size_pos;have:=t.size_pos;unfold root;omega
  have Ru:=yU l r s;by_cases hx:x<l.hi
  .rw[path,aR hx,wR];refine⟨fun k hk=>?_,vg l s x h.1 h1 hx⟩;obtain⟨p,hp,e,-⟩:=oo l s x h.1 h1 hx k hk;have:=hle l s p hp;omega
  .have ym:r.lo<=x:=by omega
   rw[path,aP hx,wR];refine⟨fun k hk=>?_,vg r _ x h.2.1 ym h2⟩;obtain⟨p,hp,e,-⟩:=oo r _ x h.2.1 ym h2 k hk;have:=hle r _ p hp;omega
end FT
theorem dm.drop {R:List Pt} {gone:List Bool} {YS:List Nat} (h:dm R gone YS) {x:Nat} (hx:gone[x]? =some false):dm R (gone.set x true) (dW YS x):=by
 have hl:=(gD.1 hx).1;refine⟨h.Ei,h.ids,by rw[qh];exact h.ak1,mQ _ h.nodup,fun i=>?_,mQ _ h.ysY⟩;unfold dW;rw[bQ,h.live,bZ,List.getElem?_set];by_cases e:x=i
 .subst e;simp[hl]
 .rw[aP e];exact⟨fun h=>h.1,fun h=>⟨h,fun e2=>e e2.symm⟩⟩
end Go.Proofs.YtkjdbndekceffaaGreat
namespace Go.Proofs.YtkjdbndekceffaaGreat
open Go Go.RowKit
def Px (x1 x2 y1 y2:Int) (p:Pt):Bool:=decide (x1<=p.1/\p.1<=x2/\y1<=p.2.1/\p.2.1<=y2)
def hasB (l:List Pt) (x1 x2 y1 y2:Int):List Int:=gu (ids (l.filter (Px x1 x2 y1 y2)))
structure uB (R:List Pt) (YS:List Nat) (l:List Pt):Prop where
 jG:(ids l).Nodup
 mem:∀p,p∈l↔∃i∈YS,bY R i=p
theorem uC {l:List Int} (hs:l.Pairwise (·<=·)) (x:Int) {i:Nat} (hi:i<l.length):(aX l x).1<=i↔x<=l[i]:=by
 obtain⟨h1,h2,h3⟩:=nE (fun i=>decide (x<=l.getD i 0)) l.length (fun i j oV hj hi=>by
  by_cases e:i=j
  .exact e▸hi
  .have:=iq.1 hs i j (by omega) hj (by omega);simp[hj,show i<l.length by omega]at hi |-;omega) l.length 0 l.length 0 (by omega) (by omega) (aG _) (by omega) (by omega)
 constructor
 .intro h;have:=h3 i h hi;simpa[hi]using this
 .intro h;by_cases h9:(aX l x).1<=i
  .exact h9
  .have:=h2 i (by unfold aX at h9;omega);simp[hi]at this;omega
theorem uD {l:List Int} (hs:l.Pairwise (·<=·)) (x:Int) {i:Nat} (hi:i<l.length):i<(aW l x).1↔l[i]<=x:=by
 obtain⟨h1,h2,h3⟩:=nE (fun i=>decide (x<l.getD i 0)) l.length (fun i j oV hj hi=>by
  by_cases e:i=j
  .exact e▸hi
  .have:=iq.1 hs i j (by omega) hj (by omega);simp[hj,show i<l.length by omega]at hi |-;omega) l.length 0 l.length 0 (by omega) (by omega) (aG _) (by omega) (by omega)
 constructor
 .intro h;have:=h2 i h;simpa[hi]using this
 .intro h;by_cases h9:i<(aW l x).1
  .exact h9
  .have:=h3 i (by unfold aW at h9;omega) hi;simp[hi]at this;omega
theorem dm.xsS {R:List Pt} {gone:List Bool} {YS:List Nat} (h:dm R gone YS):(bX R).Pairwise (·<=·):=dG.2 (h.Ei.imp fun h=>by unfold sK at h;omega)
section
variable {R:List Pt} {gone:List Bool} {YS:List Nat} {l:List Pt}
theorem dI {i:Nat} (hi:i<R.length):bY R i=R[i]:=by simp[bY,hi]
theorem yZ (hW:dm R gone YS) (x1 x2 y1 y2:Int) (i:Nat):i∈(mJ R YS x1 x2 y1 y2).1↔i∈YS/\Px x1 x2 y1 y2 (bY R i)=true:=by
 unfold mJ;split
 .rename_i h;refine⟨fun h9=>absurd h9 jC,fun⟨h1,h2⟩=>?_⟩;have hi:=hW.lt h1;rcases h with h|h|h
  .subst h;simp at hi
  .unfold Px at h2;simp at h2;omega
  .unfold Px at h2;simp at h2;omega
 .rename_i h;have h0:0<R.length:=by
   cases R with
   |nil=>simp at h
   |cons a b=>simp
  have hyy:y1<=y2:=by omega
  obtain⟨w1,w2,w3⟩:=bT 0 R.length h0;show i∈(down _ _ _ _ _ _ _).1↔_;rw[yD _ w1 hW.le hyy i,hW.top h0];refine and_congr_right fun hi=>?_;have hl:=hW.lt hi;have nD:i<(bX R).length:=by unfold bX;simpa using hl
  have hxi:(bX R)[i]=(bY R i).1:=by rw[dI hl];simp[bX]
  rw[uC hW.xsS x1 nD,uD hW.xsS x2 nD,hxi];unfold Px mD;simp only[bZ]
theorem Py (hW:dm R gone YS) (x1 x2 y1 y2:Int):(mJ R YS x1 x2 y1 y2).1.Nodup:=by
 unfold mJ;split
 .exact qU
 .rename_i h;have h0:0<R.length:=by
   cases R with
   |nil=>simp at h
   |cons a b=>simp
  have hyy:y1<=y2:=by omega
  obtain⟨w1,w2,w3⟩:=bT 0 R.length h0;exact Ef _ w1 hW.nodup hW.le hyy
theorem JF (hW:dm R gone YS) {i k:Nat} (hi:i<R.length) (hk:k<R.length) (e:ko R i=ko R k):i=k:=by
 unfold ko at e;rw[dI hi,dI hk]at e;have hid:=dG.1 hW.ids;rcases Nat.lt_trichotomy i k with h|h|h
 .exact absurd e (iq.1 hid i k hi hk h)
 .exact h
 .exact absurd e.symm (iq.1 hid k i hk hi h)
theorem XQ {a b:List Int} (ha:a.Nodup) (hb:b.Nodup) (h:∀x,x∈a↔x∈b):gu a=gu b:=by
 have hp:a.Perm b:=(BL ha hb).2 h;have s1:(gu a).Pairwise (·<=·):=(BM (le:=fun x y:Int=>decide (x<=y)) (fun a b c h1 h2=>by simp at*;omega) (fun a b=>by simp;omega) a).imp (fun h=>by simpa using h);have s2:(gu b).Pairwise (·<=·):=(BM (le:=fun x y:Int=>decide (x<=y)) (fun a b c h1 h2=>by simp at*;omega) (fun a b=>by simp;omega) b).imp (fun h=>by simpa using h);exact Oo (fun x y _ _ h1 h2=>by omega) s1 s2 (((sP a _).trans hp).trans (sP b _).symm)
theorem Pz (hW:dm R gone YS) (hl:uB R YS l) (x1 x2 y1 y2:Int):gu ((mJ R YS x1 x2 y1 y2).1.map (ko R))=hasB l x1 x2 y1 y2/\(mJ R YS x1 x2 y1 y2).1.length=(l.filter (Px x1 x2 y1 y2)).length:=by
 have sM:((mJ R YS x1 x2 y1 y2).1.map (ko R)).Nodup:=by
  refine dG.2 (Dq (fun{i k} hi hk h e=>h ?_) (Py hW x1 x2 y1 y2));exact JF hW (hW.lt ((yZ hW x1 x2 y1 y2 i).1 hi).1) (hW.lt ((yZ hW x1 x2 y1 y2 k).1 hk).1) e
 have zL:(ids (l.filter (Px x1 x2 y1 y2))).Nodup:=by
  have h:=dG.1 hl.jG;exact dG.2 (mQ _ h)
 have hm:∀x,x∈(mJ R YS x1 x2 y1 y2).1.map (ko R)↔x∈ids (l.filter (Px x1 x2 y1 y2)):=fun x=>by
  unfold ids;rw[dY,dY];constructor
  .rintro⟨i,hi,rfl⟩;obtain⟨h1,h2⟩:=(yZ hW x1 x2 y1 y2 i).1 hi;exact⟨bY R i,bQ.2 ⟨(hl.mem _).2 ⟨i,h1,rfl⟩,h2⟩,rfl⟩
  .rintro⟨p,hp,rfl⟩;obtain⟨h1,h2⟩:=bQ.1 hp;obtain⟨i,hi,rfl⟩:=(hl.mem p).1 h1;exact⟨i,(yZ hW x1 x2 y1 y2 i).2 ⟨hi,h2⟩,rfl⟩
 refine⟨XQ sM zL hm,?_⟩;have:=((BL sM zL).2 hm).length_eq;unfold ids at this;simpa using this
theorem uB.len (hW:dm R gone YS) (hl:uB R YS l):YS.length=l.length:=by
 have sM:(YS.map (ko R)).Nodup:=dG.2 (Dq (fun{i k} hi hk h e=>h (JF hW (hW.lt hi) (hW.lt hk) e)) hW.nodup);have hm:∀x,x∈YS.map (ko R)↔x∈ids l:=fun x=>by
  unfold ids;rw[dY,dY];constructor
  .rintro⟨i,hi,rfl⟩;exact⟨_,(hl.mem _).2 ⟨i,hi,rfl⟩,rfl⟩
  .rintro⟨p,hp,rfl⟩;obtain⟨i,hi,rfl⟩:=(hl.mem p).1 hp;exact⟨i,hi,rfl⟩
 have:=((BL sM hl.jG).2 hm).length_eq;unfold ids at this;simpa using this
theorem uB.drop (hW:dm R gone YS) (hl:uB R YS l) {x:Nat} (hx:x<R.length) (hY:x∈YS):uB R (dW YS x) (l.filter fun p=>decide (p≠R[x])):=by
 refine⟨dG.2 (mQ _ (dG.1 hl.jG)),fun p=>?_⟩;rw[bQ,bZ,hl.mem];unfold dW;constructor
 .rintro⟨⟨i,hi,rfl⟩,h2⟩;refine⟨i,bQ.2 ⟨hi,?_⟩,rfl⟩;rw[bZ];rintro rfl;exact h2 (dI hx)
 .rintro⟨i,hi,rfl⟩;obtain⟨h1,h2⟩:=bQ.1 hi;refine⟨⟨i,h1,rfl⟩,fun e=>?_⟩;rw[bZ]at h2;apply h2;have kE:=hW.lt h1;refine JF hW kE hx ?_;unfold ko;rw[e,dI hx]
end
theorem BV {l:List Pt} (hu:(ids l).Nodup) (YS:List Nat) (h:∀i,i∈YS↔i<(gM l).length):uB (gM l) YS l:=by
 refine⟨hu,fun p=>?_⟩;rw[<-Eh];constructor
 .intro hp;obtain⟨i,hi,e⟩:=jA hp;exact⟨i,(h i).2 hi,by rw[dI hi];exact e⟩
 .rintro⟨i,hi,rfl⟩;have:=(h i).1 hi;rw[dI this];exact bW this
end Go.Proofs.YtkjdbndekceffaaGreat
namespace Go.Proofs.YtkjdbndekceffaaGreat
open Go.RowKit
attribute [local irreducible] wpQuiet
theorem uE (l:List Int):(gu l).Pairwise (·<=·):=
 (BM (le:=fun x y:Int=>decide (x<=y)) (fun a b c h1 h2=>by simp at*;omega) (fun a b=>by simp;omega) l).imp (fun h=>by simpa using h)
theorem Ry {l S:List Int} (hs:S.Pairwise (·<=·)) (hp:S.Perm l):gu l=S:=
 Oo (fun x y _ _ h1 h2=>by omega) (uE l) hs ((sP l _).trans hp.symm)
end Go.Proofs.YtkjdbndekceffaaGreat
namespace Go.Proofs.YtkjdbndekceffaaGreat
open Go.RowKit
theorem bS (x:Nat) (h:x<2^64) (h0:x≠0):1<=Lib.bitLen x/\2^(Lib.bitLen x-1)<=x/\x<2^Lib.bitLen x:=Lib.bitLenAux_bounds 64 x h h0
theorem BX:Lib.bitLen 0=0:=rfl
theorem fE {a b:Nat} (hab:a<=b) (h:b<2^64):Lib.bitLen a<=Lib.bitLen b:=by
 by_cases h0:a=0
 .subst h0;rw[BX];exact bC _
 .have ha:=bS a (by omega) h0;have hb:=bS b h (by omega);have:=(Ot (by decide:1<2)).1 (tq ha.2.1 (tq hab hb.2.2));omega
theorem BZ {d e:Nat} (hd:0<d) (h:d<2^62) (he:e<=d/2):Lib.bitLen e+1<=Lib.bitLen d:=by
 have e1:Lib.bitLen d=1+Lib.bitLen (d/2):=Lib.bitLen_half _ (by omega) (by omega);have e2:=fE he (by omega);omega
end Go.Proofs.YtkjdbndekceffaaGreat
namespace Go.Proofs.YtkjdbndekceffaaGreat
open Go Go.RowKit
theorem EJ (p:Nat->Bool):∀(f lo hi k:Nat),hi-lo<=f->hi-lo<1000000->(bsrch p f lo hi k).2<=k+Lib.bitLen (hi-lo):=by
 intro f
 induction f with
 |zero=>
  intro lo hi k h1 _;simp only[bsrch];omega
 |succ f ih=>
  intro lo hi k h1 h2;simp only[bsrch];by_cases h:lo<hi
  .rw[aR h];have e1:Lib.bitLen (hi-lo)=1+Lib.bitLen ((hi-lo)/2):=Lib.bitLen_half _ (by omega) (by omega);split
   .have:=ih lo (lo+(hi-lo)/2) (k+1) (by omega) (by omega);rw[show lo+(hi-lo)/2-lo=(hi-lo)/2 by omega]at this;omega
   .have:=ih (lo+(hi-lo)/2+1) hi (k+1) (by omega) (by omega);have e4:Lib.bitLen (hi-(lo+(hi-lo)/2+1))<=Lib.bitLen ((hi-lo)/2):=fE (by omega) (by omega);omega
  .rw[aP h];simp
theorem lN (l:List Int) (x:Int) (h:l.length<1000000):(aX l x).2<=Lib.bitLen l.length:=by
 have:=EJ (fun i=>decide (x<=l.getD i 0)) l.length 0 l.length 0 (by omega) (by omega);simpa[aX]using this
theorem lQ (l:List Int) (x:Int) (h:l.length<1000000):(aW l x).2<=Lib.bitLen l.length:=by
 have:=EJ (fun i=>decide (x<l.getD i 0)) l.length 0 l.length 0 (by omega) (by omega);simpa[aW]using this
section
variable {R:List Pt} {gone:List Bool} {YS:List Nat}
theorem dm.acS (h:dm R gone YS):YS.length<=R.length:=by
 have hp:YS.Perm ((List.range R.length).filter fun i=>decide (i∈YS)):=(BL h.nodup (List.nodup_range.filter _)).2 fun i=>by
  rw[bQ,wZ,bZ];exact⟨fun hi=>⟨h.lt hi,hi⟩,fun hi=>hi.2⟩
 rw[hp.length_eq];exact bO (gG _ _) (by simp)
theorem Ui (hW:dm R gone YS) (hR:R.length<=100000) (x1 x2 y1 y2:Int):(mJ R YS x1 x2 y1 y2).2<=8*Lib.bitLen R.length+1:=by
 unfold mJ;split
 .exact bC _
 .rename_i h;have h0:0<R.length:=by
   cases R with
   |nil=>simp at h
   |cons a b=>simp
  obtain⟨w1,w2,w3⟩:=bT 0 R.length h0;have ly:=hW.acS;have a1:=lN (bX R) x1 (by simp[bX];omega);have a2:=lQ (bX R) x2 (by simp[bX];omega);have a3:=lN (jL R YS) y1 (by simp[jL];omega);have a4:=lQ (jL R YS) y2 (by simp[jL];omega);rw[show(bX R).length=R.length by simp[bX]]at a1 a2;rw[show(jL R YS).length=YS.length by simp[jL]]at a3 a4;have a5:=fE ly (by omega);have hb:=(bS R.length (by omega) (by omega)).2.2;have h2:=xA 0 R.length (Lib.bitLen R.length) (by omega);have h3:=@TC YS (mD R) y1 y2 (aX (bX R) x1).1 (aW (bX R) x2).1 (dO 0 R.length) w1 0;have h4:=FT.Ed (dO 0 R.length) w1 0 (aX (bX R) x1).1 (aW (bX R) x2).1;show _+_+_+_+_<=_;omega
end
end Go.Proofs.YtkjdbndekceffaaGreat
namespace Go.Proofs.YtkjdbndekceffaaGreat
open Go.RowKit Go.Maps
theorem y9:∀(a b:List Int),a.Nodup->(∀x∈a,x∈b)->a.length<=b.length
 |[],b,_,_=>bC _
 |x::a,b,h,hs=>by
  rw[mX]at h;have hx:=hs x (by simp);have h2:∀y∈a,y∈b.erase x:=by
   intro y hy;have hne:y≠x:=fun e=>h.1 (e▸hy);exact(List.mem_erase_of_ne hne).2 (hs y (by simp[hy]))
  have:=y9 a (b.erase x) h.2 h2;rw[List.length_erase_of_mem hx]at this;have:0<b.length:=List.length_pos_of_mem hx;simp only[fU];omega
def IsM {H:Type} (kk vk:IntKind) (D:DataW H) (f:Int->Option Int) (s:List Int):Prop:=
 Tidy D/\Maps.size D=s.length/\s.Nodup/\(∀x,x∈s↔(f x).isSome=true)/\
  ∀x,has D (.int kk x)=(f x).isSome/\∀z,D.atKey (.int kk x) z=(match f x with|none=>z|some v=>.lit (.int vk v))
def PD (f:Int->Option Int) (x v:Int):Int->Option Int:=fun y=>if y=x then some v else f y
theorem IsM.empty {H:Type} (kk vk:IntKind):IsM (H:=H) kk vk (.map []) (fun _=>none) []:=
 ⟨tidy_empty,rfl,qU,by simp,fun x=>⟨rfl,fun z=>rfl⟩⟩
theorem IsM.put {H:Type} {kk vk:IntKind} {D:DataW H} {f:Int->Option Int} {s:List Int} (h:IsM kk vk D f s) (x v:Int):
  IsM kk vk (D.put (.int kk x) (.lit (.int vk v))) (PD f x v) (if x∈s then s else s++[x]):=by
 obtain⟨h1,h2,h3,h4,h5⟩:=h;have hk:WideAt.IsKeyLit (Lit.int kk x):=trivial;refine⟨h1.put hk _,?_,?_,?_,?_⟩
 .rw[size_put h1,(h5 x).1];by_cases hx:x∈s
  .rw[aR hx,aR ((h4 x).1 hx),h2]
  .rw[aP hx,aP (fun h=>hx ((h4 x).2 h)),h2,bF];rfl
 .by_cases hx:x∈s
  .rw[aR hx];exact h3
  .rw[aP hx,tC];exact⟨h3,by simp,fun a ha b hb=>by simp at hb;subst hb;exact fun e=>hx (e▸ha)⟩
 .intro y;unfold PD;by_cases hy:y=x
  .subst hy;by_cases hx:y∈s<;>simp[hx]
  .by_cases hx:x∈s<;>simp[hx,hy,h4]
 .intro y;unfold PD;by_cases hy:y=x
  .subst hy;exact⟨by simpa using has_put_same h1.isMap hk _,fun z=>by simpa using atKey_put_same h1.isMap hk _ z⟩
  .have hne:(Lit.int kk y)≠(.int kk x):=fun e=>hy (by injection e);exact⟨by rw[has_put_other hne];simpa[hy]using(h5 y).1,fun z=>by rw[atKey_put_other hne];simpa[hy]using(h5 y).2 z⟩
theorem EK {a b:List Int} (ha:a.Nodup) (hb:b.Nodup) (h:∀x,x∈a↔x∈b):a.length=b.length:=
 Nat.le_antisymm (y9 _ _ ha fun x hx=>(h x).1 hx) (y9 _ _ hb fun x hx=>(h x).2 hx)
theorem ze:∀(L s:List Int),s.Nodup->(∀x,x∈s↔x∈L)->s.length=L.length->L.Nodup
 |[],_,_,_,_=>qU
 |x::L,s,hs,hm,hl=>by
  have hxs:x∈s:=(hm x).2 (by simp);have hx:x∉L:=fun hx=>by
   have:=y9 s L hs (fun y hy=>by rcases mZ.1 ((hm y).1 hy)with rfl|h;exact hx;exact h);simp at hl;omega
  refine mX.2 ⟨hx,ze L (s.erase x) (hs.erase x) (fun y=>?_) ?_⟩
  .rw[hs.mem_erase_iff,hm y,mZ];constructor
   .rintro⟨h1,rfl|h⟩
    .exact absurd rfl h1
    .exact h
   .exact fun h=>⟨fun e=>hx (e▸h),.inr h⟩
  .rw[List.length_erase_of_mem hxs];simp at hl;omega
theorem JG (L s:List Int) (hs:s.Nodup) (hm:∀x,x∈s↔x∈L):decide (s.length=L.length)=decide L.Nodup:=by
 rw[wW];exact⟨ze L s hs hm,fun h=>EK hs h hm⟩
def Mm (l:List Pt):Prop:=∀p∈l,(Lit.int .u32 p.2.2).wf=true
def placeF:List Pt->Nat->(Int->Option Int)
 |_,0=>fun _=>none
 |l,i+1=>PD (placeF l i) (l.getD i (0,0,0)).2.2 i
theorem Ca (l:List Pt):∀(i:Nat),i<=l.length->∀x,(placeF l i x).isSome=true↔x∈ids (l.take i)
 |0,_,x=>by simp[placeF,ids]
 |i+1,h,x=>by
  have ih:=Ca l i (by omega) x;have et:l.take (i+1)=l.take i++[l[i]]:=fG (by omega);have eg:l.getD i (0,0,0)=l[i]:=by simp[show i<l.length by omega]
  unfold placeF PD;rw[et,ids,dh,df,eg];by_cases hx:x=l[i].2.2
  .simp[hx]
  .rw[aP hx,ih];simp[ids,hx]
theorem EL {l:List Pt} (hu:(ids l).Nodup):∀(i:Nat),i<=l.length->∀k,k<i->placeF l i (l.getD k (0,0,0)).2.2=some (k:Int)
 |0,_,k,hk=>by omega
 |i+1,h,k,hk=>by
  have eg:∀j,j<l.length->l.getD j (0,0,0)=l[j]! :=fun j hj=>by simp[hj]
  unfold placeF PD;by_cases e:k=i
  .subst e;rw[aR rfl]
  .have hne:(l.getD k (0,0,0)).2.2≠(l.getD i (0,0,0)).2.2:=by
    intro he;have h1:=iq.1 hu k i (by simp[ids];omega) (by simp[ids];omega) (by omega);simp[ids]at h1;simp[show k<l.length by omega,show i<l.length by omega]at he;exact h1 he
   rw[aP hne];exact EL hu i (by omega) k (by omega)
def pg (D:DataW Unit) (l:List Pt) (i:Nat):Prop:=∃s,IsM .u32 .i64 D (placeF l i) s
theorem pg.put {D:DataW Unit} {l:List Pt} {i:Nat} (h:pg D l i) (hi:i<l.length):pg (D.put (.int .u32 l[i].2.2) (.lit (.int .i64 (i:Nat)))) l (i+1):=by
 obtain⟨s,h⟩:=h;have h2:=h.put l[i].2.2 i;have eg:l.getD i (0,0,0)=l[i]:=by simp[hi]
 have e:placeF l (i+1)=PD (placeF l i) l[i].2.2 i:=by rw[placeF,eg]
 rw[<-e]at h2;exact⟨_,h2⟩
theorem pg.size {D:DataW Unit} {l:List Pt} (h:pg D l l.length):(((Maps.size D:Nat):Int)==((l.length:Nat):Int))=Eg l:=by
 obtain⟨s,h1⟩:=h;have hl:(ids l).length=l.length:=by simp[ids]
 have h3:=JG (ids l) s h1.2.2.1 (fun x=>(h1.2.2.2.1 x).trans (by have:=Ca l l.length (aG _) x;rwa [mW]at this));rw[h1.2.1,<-hl];unfold Eg;rw[<-h3,wY];simp only[beq_iff_eq,bZ];omega
theorem Mo (a:Option Addr) (c:Nat) (l:List Pt) (w:World) (hl:dU fH 3 w a l) (hn:l.length<=1000000) (hw:Mm l):
  aO 89 #[.slice a l.length c] w (iX w (.bool (Eg l))):=by
 have HR:=ae hl;have HW:=ae hw;clear hl hw;have XR:=@run_makeMap Tryz.prog;go_enter Tryz.func89,Tryz.ntmps89;go_wp2
 go_loopw [9] (fun iv wr=>∃i:Nat,iv=.int .i64 i/\i<=l.length/\Below w.heap.size w wr/\Hid (∃(D:DataW Unit),wr.ownsMap Tryz.prog 27 (plainElem Tryz.prog 3) w.heap.size i D/\pg D l i)) (fun iv _=>l.length-(intOf iv).toNat)
 case atStart=>exact⟨0,rfl,bC _,(aM _ _).alloc (aG _) _,⟨.map [],DF _ _ _ _,[],IsM.empty _ _⟩⟩
 case round=>
  obtain⟨i,rfl,hi,hb,HO⟩:=hrel;by_cases kE:i<l.length
  .obtain⟨b,off,ea,hbl,hcs⟩:=(HR.out.below hb).get (by omega);have x0:=hcs i kE 0 (by omega);have x1:=hcs i kE 1 (by omega);have x2:=hcs i kE 2 (by omega);simp only[fH,aT,aS,eG]at x0 x1 x2;have hkey:Hid (keyOf Tryz.prog 27 (.int .u32 l[i].2.2)=some (.int .u32 l[i].2.2)):=keyOf_int_mk lh (HW.out _ (bW _));obtain⟨D,mf,hD⟩:=HO.out;have V8:=ae (hD.put kE);have hS2:=hb.size;have EA:=ae ea;clear HO hcs hD ea;generalize l[i]=p at*;obtain⟨px,py,pi⟩:=p;obtain rfl:=EA.out;clear EA;have hown:=mf.kept (sO wr (.cells #[ag px,ag py,aJ pi] 29) none) (by simp)
   go_wp2_with (at_mapUpdate;refine Dv _ rfl _ _ _ 26 rfl 27 3 (int_keyed lh) tK _ w.heap.size i _ rfl hown (by unfold maxLen;omega) _ _ _ rfl rfl hkey.out _ [] (Ao nQ (by simp[Lit.wf,IntKind.min,IntKind.max,IntKind.bits,IntKind.signed];omega)) ?_;intro w3 kF oq)
   have B3:Below w.heap.size wr w3:=(((aM _ wr).alloc (by omega) _)).grown oq (by simp;omega) (fun j ej=>by cases ej;omega);have Uj:Hid (∃(D:DataW Unit),w3.ownsMap Tryz.prog 27 (plainElem Tryz.prog 3) w.heap.size (i+1) D/\pg D l (i+1)):=⟨_,kF,V8.out⟩;have B4:=hb.trans B3;clear kF oq hown mf V8;go_wp2;go_roundw
   case rel=>exact⟨i+1,by go_num,by omega,B4,Uj⟩
   case measure=>simp[intOf];omega
  .obtain rfl:i=l.length:=by omega
   obtain⟨D,hown,hD⟩:=HO.out;have hsize:=hD.size;have HS:=ae hsize;clear hsize hD HO
   go_wp2_with (at_len;refine wpList_len_own _ rfl _ 26 rfl 27 3 tK _ w.heap.size _ _ rfl hown ?_)
   go_ret;exact⟨by rw[HS.out];rfl,hb⟩
end Go.Proofs.YtkjdbndekceffaaGreat
namespace Go.Proofs.YtkjdbndekceffaaGreat
open Go.RowKit Go.Sort Go.Shelf Go.Lib Go.Maps
attribute [local irreducible] wpQuiet
attribute [local go_sem] Oper.fM
def upd (f:Nat->Value) (k:Nat) (v:Value):Nat->Value:=fun j=>if j=k then v else f j
theorem upd_same (f:Nat->Value) (k:Nat) (v:Value):upd f k v k=v:=by simp[upd]
theorem upd_ne {f:Nat->Value} {k j:Nat} {v:Value} (h:j≠k):upd f k v j=f j:=by simp[upd,h]
theorem vo (f:Nat->Value) (k:Nat) (v v':Value):upd (upd f k v) k v'=upd f k v':=by funext j;simp only[upd];split<;>rfl
theorem XT (f:Nat->Value) {k j:Nat} (v v':Value) (h:k≠j):upd (upd f k v) j v'=upd (upd f j v') k v:=by
 funext i;simp only[upd];split<;>split<;>first|rfl|omega
theorem PE (f:Nat->Value) (k:Nat) (v:Value) (h:f k=v):upd f k v=f:=by
 funext j;simp only[upd];split
 .rename_i e;rw[e,h]
 .rfl
def XU (LN LL:Nat->Value) (n:Nat):List Value:=(List.range n).flatMap fun k=>[LN k,LL k]
theorem rE (LN LL:Nat->Value) (n:Nat):(XU LN LL n).length=n*2:=by
 unfold XU;rw[iw (sz:=2) (fun _=>rfl)];simp
theorem vw (LN LL:Nat->Value) {n k:Nat} (h:k<n):(XU LN LL n)[k*2]? =some (LN k)/\(XU LN LL n)[k*2+1]? =some (LL k):=by
 have h1:=flat_get (enc:=fun k=>[LN k,LL k]) (sz:=2) (fun _=>rfl) (List.range n) k (by simpa using h) 0 (by omega);have h2:=flat_get (enc:=fun k=>[LN k,LL k]) (sz:=2) (fun _=>rfl) (List.range n) k (by simpa using h) 1 (by omega);simp only[zW,eG,aT,aS]at h1 h2;exact⟨h1,h2⟩
theorem XV (LN LL:Nat->Value) {n k:Nat} (h:k<n) (v:Value):(XU LN LL n).set (k*2) v=XU (upd LN k v) LL n:=by
 apply zY;intro i;rw[List.getElem?_set];by_cases hi:i<n*2
 .have hd:i/2<n:=by omega
  obtain⟨a1,a2⟩:=vw LN LL hd;obtain⟨b1,b2⟩:=vw (upd LN k v) LL hd;rcases Ir i with hm|hm
  .have e:i/2*2=i:=by omega
   rw[e]at a1 b1;rw[b1];by_cases hk:k*2=i
   .rw[aR hk,aR (by rw[rE];omega),show i/2=k by omega,upd_same]
   .rw[aP hk,a1,upd_ne (by omega)]
  .have e:i/2*2+1=i:=by omega
   rw[e]at a2 b2;rw[b2,aP (by omega),a2]
 .rw[aP (by omega),p9 (by rw[rE];omega),p9 (by rw[rE];omega)]
theorem XW (LN LL:Nat->Value) {n k:Nat} (h:k<n) (v:Value):(XU LN LL n).set (k*2+1) v=XU LN (upd LL k v) n:=by
 apply zY;intro i;rw[List.getElem?_set];by_cases hi:i<n*2
 .have hd:i/2<n:=by omega
  obtain⟨a1,a2⟩:=vw LN LL hd;obtain⟨b1,b2⟩:=vw LN (upd LL k v) hd;rcases Ir i with hm|hm
  .have e:i/2*2=i:=by omega
   rw[e]at a1 b1;rw[b1,aP (by omega),a1]
  .have e:i/2*2+1=i:=by omega
   rw[e]at a2 b2;rw[b2];by_cases hk:k*2+1=i
   .rw[aR hk,aR (by rw[rE];omega),show i/2=k by omega,upd_same]
   .rw[aP hk,a2,upd_ne (by omega)]
 .rw[aP (by omega),p9 (by rw[rE];omega),p9 (by rw[rE];omega)]
abbrev dw (W:World) (base gl n c:Nat) (LN LL:Nat->Value):Prop:=W.ownsRow base 150 2 (aD gl n c) n (XU LN LL n)
theorem dw.get {W:World} {base gl n c k:Nat} {LN LL:Nat->Value} (h:dw W base gl n c LN LL) (hk:k<n):W.cell? (ah gl (k*2))=some (LN k)/\W.cell? (ah gl (k*2+1))=some (LL k):=by
 obtain⟨g1,g2⟩:=vw LN LL hk;exact⟨(h.cellAt (k*2) (by omega)).trans g1,(h.cellAt (k*2+1) (by omega)).trans g2⟩
theorem dw.Er {W:World} {base gl n c k:Nat} {LN LL:Nat->Value} (h:dw W base gl n c LN LL) (hk:k<n) (v:Value):dw (W.setCell (ah gl (k*2)) v) base gl n c (upd LN k v) LL:=by
 have:=(h.stored (k*2) v).1;rwa [XV LN LL hk]at this
theorem dw.acT {W:World} {base gl n c k:Nat} {LN LL:Nat->Value} (h:dw W base gl n c LN LL) (hk:k<n) (v:Value):dw (W.setCell (ah gl (k*2+1)) v) base gl n c LN (upd LL k v):=by
 have:=(h.stored (k*2+1) v).1;rwa [XW LN LL hk]at this
theorem dw.kept {S:Nat->Prop} {W W':World} {base gl n c:Nat} {LN LL:Nat->Value} (h:dw W base gl n c LN LL) (K:aC S W W') (hS:¬S gl):dw W' base gl n c LN LL:=
 aY h K fun g e=>by injection e with e;exact e▸hS
theorem zf {w w':World} {pm n:Nat} {D:DataW Unit} (h:w.ownsMap Tryz.prog 27 (plainElem Tryz.prog 3) pm n D) (e:w'.heap[pm]? =w.heap[pm]?):w'.ownsMap Tryz.prog 27 (plainElem Tryz.prog 3) pm n D:=by
 obtain⟨es,clock,hb,r⟩:=h;exact⟨es,clock,e.trans hb,r⟩
theorem XX {w:World} {pm n:Nat} {D:DataW Unit} {x:Int} {i:Nat} (h:w.ownsMap Tryz.prog 27 (plainElem Tryz.prog 3) pm n D) (hx:(Lit.int .u32 x).wf=true) (hd:D.atKey (.int .u32 x) (.lit (.int .i64 0))=.lit (.int .i64 (i:Nat))):
  (Instr.lookup 26 (.map (some pm)) (.int .u32 x) false).run Tryz.prog w=.ok (.int .i64 i) w:=by
 obtain⟨c,hrun,hat,hwc⟩:=h.lookup_int (t:=26) (e:=3) (q:=.i64) (key:=.int .u32 x) (int_keyed lh) tK nQ (pK _) (keyOf_int_mk lh hx);rw[hd]at hat;injection hat with hat;injection hat with _ hat;subst hat;exact hrun
def ou (w0:World) (base gl n cl:Nat) (LN LL:Nat->Value) (K kl kr m fb:Nat) (nm:Nat->Int) (L:List Nat) (j jf:Nat) (wr:World) (vl vr vf:Value):Prop:=
 dw wr base gl n cl (upd (upd LN kl vl) kr vr) (upd LL K vf)/\
 wr.ownsRow w0.heap.size 27 1 vl ((L.take j).filter fun i=>decide (i<m)).length ((((L.take j).filter fun i=>decide (i<m)).map nm).map (Value.int .u32))/\
 wr.ownsRow w0.heap.size 27 1 vr ((L.take j).filter fun i=>!decide (i<m)).length ((((L.take j).filter fun i=>!decide (i<m)).map nm).map (Value.int .u32))/\
 wr.ownsRow fb 3 1 vf (jf+1) (((lf m L).take (jf+1)).map (Value.int .i64))/\
 (∀g,vl.ownBlock=some g->vr.ownBlock≠some g)/\aC (fun b=>b=gl\/b=fb) w0 wr
theorem ou.drewN {w0:World} {base gl n cl:Nat} {LN LL:Nat->Value} {K kl kr m fb:Nat} {nm:Nat->Int} {L:List Nat} {j jf:Nat} {wr:World} {vl vr vf:Value} (h:ou w0 base gl n cl LN LL K kl kr m fb nm L j jf wr vl vr vf) (q:Nat):ou w0 base gl n cl LN LL K kl kr m fb nm L j jf (wr.drewN q) vl vr vf:=by
 obtain⟨a,b,c,d,e,f⟩:=h;exact⟨a,b,c,d,e,f.below (Below.bP _ q)⟩
section
variable {w0:World} {base gl n cl:Nat} {LN LL:Nat->Value} {K kl kr m fb:Nat} {nm:Nat->Int} {L:List Nat} {j jf:Nat} {w3 w4:World} {vl vr vf v1:Value}
theorem ou.left (h:ou w0 base gl n cl LN LL K kl kr m fb nm L j jf w3 vl vr vf) (hj:j<L.length) (hi:L[j]<m) (gU:kl<n) (hne:kl≠kr) (Uk:gl<w0.heap.size) (vS:fb<w0.heap.size) (hgf:gl≠fb)
  (hown:w4.ownsRow w0.heap.size 27 1 v1 (((L.take j).filter fun i=>decide (i<m)).length+1) ((((L.take j).filter fun i=>decide (i<m)).map nm).map (Value.int .u32)++[.int .u32 (nm L[j])])) (hg:w3.grownBy w4 vl.ownBlock) (hb:v1.ownBlock=vl.ownBlock\/∃b,v1.ownBlock=some b/\w3.heap.size<=b):
  ou w0 base gl n cl LN LL K kl kr m fb nm L (j+1) jf (w4.setCell (ah gl (kl*2)) v1) v1 vr vf:=by
 obtain⟨a,b,c,d,e,f⟩:=h;have KA:aC (fun k=>vl.ownBlock=some k) w3 w4:=(aC.refl _ w3).grown hg (fun k hk=>.inl hk);have KS:aC (fun k=>k=gl) w4 (w4.setCell (ah gl (kl*2)) v1):=(aC.refl (fun k=>k=gl) w4).set (a:=(ah gl (kl*2))) v1 (.inl rfl);have Ul:=b.lt;have hvr:=c.lt;have et:L.take (j+1)=L.take j++[L[j]]:=fG hj;have ef1:(L.take (j+1)).filter (fun i=>decide (i<m))=(L.take j).filter (fun i=>decide (i<m))++[L[j]]:=by rw[et,mU];simp[hi]
 have ef2:(L.take (j+1)).filter (fun i=>!decide (i<m))=(L.take j).filter (fun i=>!decide (i<m)):=by rw[et,mU];simp[hi]
 have hv1:∀g,v1.ownBlock=some g->w0.heap.size<=g:=fun g hg=>(hown.lt g hg).1;refine⟨?_,?_,?_,?_,?_,?_⟩
 .have h1:=(a.kept KA fun h=>by have:=(Ul gl h).1;omega).Er gU v1;rwa [XT _ _ _ (fun h=>hne h.symm),vo]at h1
 .rw[ef1,bF,dh,dh];exact aY (S:=fun k=>k=gl) hown KS fun g h=>by have:=hv1 g h;omega
 .rw[ef2];exact aY (S:=fun k=>k=gl) (aY (S:=fun k=>vl.ownBlock=some k) c KA fun g h h2=>e g h2 h) KS fun g h=>by have:=(hvr g h).1;omega
 .refine aY (S:=fun k=>k=gl) (aY (S:=fun k=>vl.ownBlock=some k) d KA fun g h h2=>bK b d (by decide) g h2 h) KS fun g h h2=>?_;subst h2;have h3:=dw.kept a (aC.refl (fun _=>False) w3) (fun h=>h);exact bK h3 d (by decide) g rfl h
 .intro g h h2;rcases hb with h9|⟨b9,h9,h8⟩
  .exact e g (h9▸h) h2
  .rw[h9]at h;injection h with h;have:=(hvr g h2).2;omega
 .exact((f.mono (S':=fun k=>(k=gl\/k=fb)\/w0.heap.size<=k) (fun k h=>.inl h)).trans (KA.mono (fun k h=>.inr (Ul k h).1))).strip.set (a:=(ah gl (kl*2))) v1 (.inl (.inl rfl))
theorem ou.right (h:ou w0 base gl n cl LN LL K kl kr m fb nm L j jf w3 vl vr vf) (hj:j<L.length) (hi:¬L[j]<m) (Dg:kr<n) (hne:kl≠kr) (Uk:gl<w0.heap.size) (vS:fb<w0.heap.size) (hgf:gl≠fb)
  (hown:w4.ownsRow w0.heap.size 27 1 v1 (((L.take j).filter fun i=>!decide (i<m)).length+1) ((((L.take j).filter fun i=>!decide (i<m)).map nm).map (Value.int .u32)++[.int .u32 (nm L[j])])) (hg:w3.grownBy w4 vr.ownBlock) (hb:v1.ownBlock=vr.ownBlock\/∃b,v1.ownBlock=some b/\w3.heap.size<=b):
  ou w0 base gl n cl LN LL K kl kr m fb nm L (j+1) jf (w4.setCell (ah gl (kr*2)) v1) vl v1 vf:=by
 obtain⟨a,b,c,d,e,f⟩:=h;have KA:aC (fun k=>vr.ownBlock=some k) w3 w4:=(aC.refl _ w3).grown hg (fun k hk=>.inl hk);have KS:aC (fun k=>k=gl) w4 (w4.setCell (ah gl (kr*2)) v1):=(aC.refl (fun k=>k=gl) w4).set (a:=(ah gl (kr*2))) v1 (.inl rfl);have Ul:=b.lt;have hvr:=c.lt;have et:L.take (j+1)=L.take j++[L[j]]:=fG hj;have ef1:(L.take (j+1)).filter (fun i=>!decide (i<m))=(L.take j).filter (fun i=>!decide (i<m))++[L[j]]:=by rw[et,mU];simp[hi]
 have ef2:(L.take (j+1)).filter (fun i=>decide (i<m))=(L.take j).filter (fun i=>decide (i<m)):=by rw[et,mU];simp[hi]
 have hv1:∀g,v1.ownBlock=some g->w0.heap.size<=g:=fun g hg=>(hown.lt g hg).1;refine⟨?_,?_,?_,?_,?_,?_⟩
 .have h1:=(a.kept KA fun h=>by have:=(hvr gl h).1;omega).Er Dg v1;rwa [vo]at h1
 .rw[ef2];exact aY (S:=fun k=>k=gl) (aY (S:=fun k=>vr.ownBlock=some k) b KA fun g h h2=>e g h h2) KS fun g h=>by have:=(Ul g h).1;omega
 .rw[ef1,bF,dh,dh];exact aY (S:=fun k=>k=gl) hown KS fun g h=>by have:=hv1 g h;omega
 .refine aY (S:=fun k=>k=gl) (aY (S:=fun k=>vr.ownBlock=some k) d KA fun g h h2=>bK c d (by decide) g h2 h) KS fun g h h2=>?_;subst h2;have h3:=dw.kept a (aC.refl (fun _=>False) w3) (fun h=>h);exact bK h3 d (by decide) g rfl h
 .intro g h h2;rcases hb with h9|⟨b9,h9,h8⟩
  .exact e g h (h9▸h2)
  .rw[h9]at h2;injection h2 with h2;have:=(Ul g h).2;omega
 .exact((f.mono (S':=fun k=>(k=gl\/k=fb)\/w0.heap.size<=k) (fun k h=>.inl h)).trans (KA.mono (fun k h=>.inr (hvr k h).1))).strip.set (a:=(ah gl (kr*2))) v1 (.inl (.inl rfl))
end
theorem acU {m:Nat} {L:List Nat} {j:Nat} (h:j<L.length):(lf m L).take (j+1+1)=(lf m L).take (j+1)++[(((L.take (j+1)).filter fun i=>decide (i<m)).length:Int)]:=by
 have hl:=ui m L;rw[fG (by omega),rq];rw[Oi]
theorem ou.aeY {w0:World} {base gl n cl:Nat} {LN LL:Nat->Value} {K kl kr m fb:Nat} {nm:Nat->Int} {L:List Nat} {j:Nat} {w5 w7:World} {vl vr vf v1:Value} (h:ou w0 base gl n cl LN LL K kl kr m fb nm L (j+1) j w5 vl vr vf) (hj:j<L.length) (hK:K<n) (Uk:gl<w0.heap.size) (vS:w0.heap.size=fb+1) (hgf:gl≠fb)
  (hown:w7.ownsRow fb 3 1 v1 (j+1+1) (((lf m L).take (j+1)).map (Value.int .i64)++[.int .i64 (((L.take (j+1)).filter fun i=>decide (i<m)).length:Nat)])) (hg:w5.grownBy w7 vf.ownBlock):
  ou w0 base gl n cl LN LL K kl kr m fb nm L (j+1) (j+1) (w7.setCell (ah gl (K*2+1)) v1) vl vr v1:=by
 obtain⟨a,b,c,d,e,f⟩:=h;have KA:aC (fun k=>vf.ownBlock=some k) w5 w7:=(aC.refl _ w5).grown hg (fun k hk=>.inl hk);have KS:aC (fun k=>k=gl) w7 (w7.setCell (ah gl (K*2+1)) v1):=(aC.refl (fun k=>k=gl) w7).set (a:=(ah gl (K*2+1))) v1 (.inl rfl);have Ul:=b.lt;have hvr:=c.lt;have hvf:=d.lt;have a':=dw.kept a (aC.refl (fun _=>False) w5) (fun h=>h);have hgv:vf.ownBlock≠some gl:=fun h=>bK a' d (by decide) gl rfl h;have a7:=a.kept KA hgv;refine⟨?_,?_,?_,?_,e,?_⟩
 .have h1:=a7.acT hK v1;rwa [vo]at h1
 .exact aY (S:=fun k=>k=gl) (aY (S:=fun k=>vf.ownBlock=some k) b KA fun g h h2=>bK b d (by decide) g h h2) KS fun g h=>by have:=(Ul g h).1;omega
 .exact aY (S:=fun k=>k=gl) (aY (S:=fun k=>vf.ownBlock=some k) c KA fun g h h2=>bK c d (by decide) g h h2) KS fun g h=>by have:=(hvr g h).1;omega
 .rw[acU hj,dh];refine aY (S:=fun k=>k=gl) hown KS fun g h h2=>?_;subst h2;exact bK a7 hown (by decide) g rfl h
 .exact((f.mono (S':=fun k=>(k=gl\/k=fb)\/w0.heap.size<=k) (fun k h=>.inl h)).trans (KA.mono (fun k h=>by have:=(hvf k h).1;by_cases e:k=fb;exact .inl (.inr e);exact .inr (by omega)))).strip.set (a:=(ah gl (K*2+1))) v1 (.inl (.inl rfl))
theorem AZ (l r:FT) (s tb gn off cn gl cl base K kl kr m pm alR:Nat) (N:List Nd) (LN LL:Nat->Value) (L:List Nat) (nm:Nat->Int) (an:Option Addr) (cnn:Nat) (D:DataW Unit) (w:World) (ha:FT.At N (.node l r) s) (hK:(FT.node l r).root s=K) (gU:l.root s=kl) (Dg:r.root (s+l.size)=kr) (hm:l.hi=m) (hmb:m<=1000000) (hN:N.length<=1000000)
  (c4:w.cell? (ah tb 4)=some (.slice (some (ah gn off)) N.length cn)) (r4:dU qo 7 w (some (ah gn off)) N) (c5:w.cell? (ah tb 5)=some (aD gl N.length cl))
  (mK:dw w base gl N.length cl LN LL) (hne:gn≠gl/\tb≠gl/\∀b o,an=some (ah b o)->b≠gl)
  (hLN:LN K=.slice an L.length cnn) (hLr:Rd (.int .u32) w an (L.map nm)) (hlL:L.length<=1000000) (hel:LN kl=aN) (her:LN kr=aN)
  (hmap:w.ownsMap Tryz.prog 27 (plainElem Tryz.prog 3) pm alR D) (hpl:∀i∈L,D.atKey (.int .u32 (nm i)) (.lit (.int .i64 0))=.lit (.int .i64 (i:Nat))) (yo:∀i∈L,(Lit.int .u32 (nm i)).wf=true) (hLm:∀i∈L,i<=1000000):
  aO 96 #[ay tb,ag K,.map (some pm)] w fun e w'=>e=.returned (.tuple #[])/\∃vl vr vf,dw w' base gl N.length cl (upd (upd LN kl vl) kr vr) (upd LL K vf)/\
   w'.ownsRow w.heap.size 27 1 vl (L.filter fun i=>decide (i<m)).length (((L.filter fun i=>decide (i<m)).map nm).map (Value.int .u32))/\
   w'.ownsRow w.heap.size 27 1 vr (L.filter fun i=>!decide (i<m)).length (((L.filter fun i=>!decide (i<m)).map nm).map (Value.int .u32))/\
   w'.ownsRow w.heap.size 3 1 vf (lf m L).length ((lf m L).map (Value.int .i64))/\(∀g,vl.ownBlock=some g->vr.ownBlock≠some g)/\aC (fun b=>b=gl) w w':=by
 obtain⟨Rm,n0,n1,n2,n3,n4,n5,n6⟩:=nW r4 ha.get;have hlt:=ha.lt;have jk:=iD w _ c4;have Uk:gl<w.heap.size:=(mK.lt gl rfl).2;simp only at jk;simp only[FT.top]at n0 n1 n2 n3 n4 n6;have PG:=FT.yU l r s;have Um:=ha.left.lt;have acV:=ha.right.lt;obtain⟨alS,-,-,-,-,p4,-,-⟩:=nW r4 ha.left.get;rw[FT.xB,hm,gU]at p4;have TG:((s+l.size:Nat):Int)-1=(kl:Int):=by rw[<-gU];unfold FT.root;have:=l.size_pos;omega
 have su:((s+l.size+r.size:Nat):Int)-1=(kr:Int):=by rw[<-Dg];unfold FT.root;have:=r.size_pos;omega
 rw[TG]at n1;rw[su]at n2;rw[hK]at n0 n1 n2 n3 n4 n5 n6 hlt PG;rw[gU]at Um PG;rw[Dg]at acV PG;generalize hlo:l.lo=lo at*;generalize hhi:r.hi=hi at*;have acW:=ae mK;have XY:=ae mK;have fr1:=mK.frozenAt (K*2+1);obtain⟨q0,q1⟩:=mK.get hlt;have C4:=ae c4;have R4:=ae r4;have C5:=ae c5;obtain⟨ql,NZ⟩:∃ql,ql=LL K:=⟨_,rfl⟩;rw[<-NZ]at q1;clear mK r4 NZ;go_enter Tryz.func96,Tryz.ntmps96
 go_upto_region 0 with fail
 go_cut [6,7]from 6 (fun v6 v7 wx=>∃x:Nat,v6=ay x/\v7=.pointer (some (ah gl (K*2)))/\Hid (wx.heap[x]? =some (.cells #[.int .u8 2,ag kl,ag kr,ag lo,ag hi,ag 0,ag 0] 163 (0,0)))/\Hid (Below w.heap.size w wx)/\w.heap.size<=x)
 case first=>
  have g4:=aj c4;have g5:=aj c5;have k0:=aj n0;have k1:=aj n1;have k2:=aj n2;have k3:=aj n3;have k4:=aj n4;have k5:=aj n5;have k6:=aj n6;clear c4 c5 n0 n1 n2 n3 n4 n5 n6;refine aF (fun W=>∃p:bg w,W=p.W) [15] [(0,false),(1,false),(2,false),(3,true),(4,false),(5,false),(6,true),(7,false),(8,false),(9,false),(10,true),(11,false),(12,false)] (by kernel_rfl) (by kernel_rfl) (fun _ _ d _ _ h=>by cases d<;>exact h) ⟨⟨_,(aM _ _).drew⟩,rfl⟩ 3 rfl (by kernel_rfl) ?_;simp only[bG,bz,bA,bu,aS,aT,aU]
  repeat(refine aI (fun K hK=>?_);go_simp;first|(refine hK _ ?_;clear hK K)|(apply Exists.intro;refine⟨fun _=>?_,hK _ ?_⟩;rfl;clear hK K))
  refine aQ ?_;refine az [13] (by kernel_rfl) (by simp) ?_;refine ak.cons rfl (fun K hK=>?_) ak.nil;go_simp;refine hK _ _ (fun _ _=>⟨⟨_,(aM _ w).alloc (aG _) _|>.drew⟩,rfl⟩) ?_;clear hK K;refine az [14] (by kernel_rfl) (by simp) ?_;refine ak.cons rfl (fun K hK=>?_) ak.nil;go_simp;refine hK _ _ (fun _ _=>⟨⟨_,(aM _ w).alloc (aG _) _|>.drew⟩,rfl⟩) ?_;clear hK K;refine aK [15] _ _ _ (by kernel_rfl) ?_;simp only[pick,bz,bA,bu,aS,aT];go_wp2;go_meet;exact⟨w.heap.size,rfl,rfl,lX _ _,(aM _ w).alloc (aG _) _|>.drew,aG _⟩
 case rest=>
  obtain⟨x,rfl,rfl,HX,HB,hx⟩:=hcut;have nD:x<wc.heap.size:=(bn.1 HX.out).1;have HL0:Hid (dw wc base gl N.length cl LN LL):=au acW.out HB.out;have WY:=HL0.out.frozenAt (K*2+1);have m1:=(HL0.out.get hlt).2;obtain⟨ql2,Un⟩:∃ql2,ql2=LL K:=⟨_,rfl⟩;rw[<-Un]at m1;clear Un;have Lv:=HX.out;have x0:wc.cell? (ah x 0)=some (.int .u8 2):=by simp[World.cell?,Lv]
  clear Lv;clear n0 n1 n2 n3 n4 n5 n6 c4 c5 fr1 q0 q1;have hsz:=HB.out.size;obtain⟨fb,vS⟩:∃fb,fb=wc.heap.size:=⟨_,rfl⟩;have a1:(wc.alloc (.cells #[ag 0] 3)).cell? (ah gl (K*2+1))=some ql2:=(((aM wc.heap.size wc).alloc (aG _) _).cell (p:=(ah gl (K*2+1))) (by show gl<_;omega)).trans m1;have a2:(wc.alloc (.cells #[ag 0] 3)).frozen? (ah gl (K*2+1))=false:=(((aM wc.heap.size wc).alloc (aG _) _).frozen (p:=(ah gl (K*2+1))) (by show gl<_;omega)).trans WY;obtain⟨W1,V9⟩:∃W1,W1=(wc.alloc (.cells #[ag 0] 3)).setCell (ah gl (K*2+1)) (aD wc.heap.size 1 1):=⟨_,rfl⟩;have KW:aC (fun b=>b=gl) wc W1:=by rw[V9];exact((aC.refl (fun b=>b=gl) wc).alloc _).set (a:=(ah gl (K*2+1))) _ (.inl rfl)
  have KWw:aC (fun b=>b=gl) w W1:=((aC.refl (fun b=>b=gl) w).below HB.out).trans KW;have L1:dw W1 base gl N.length cl LN (upd LL K (aD fb 1 1)):=by rw[V9,vS];exact dw.acT (au HL0.out ((aM _ _).alloc (aG _) _)) hlt _
  have F1:W1.ownsRow fb 3 1 (aD fb 1 1) 1 [.int .i64 0]:=by
   have h:=EE wc fb [.int .i64 0] 3 (by omega) (by unfold maxLen;simp);rw[V9];rw[vS]at h |-;exact aY (S:=fun b=>b=gl) h ((aC.refl (fun b=>b=gl) _).set (a:=(ah gl (K*2+1))) _ (.inl rfl)) (fun g e=>by have e9:=Xm e;omega)
  have hW1:W1.heap.size=fb+1:=by rw[V9,vS];simp
  have hxf:x<fb:=by rw[vS];exact nD
  have hxg:x≠gl:=by omega
  have hgf:gl≠fb:=by omega
  obtain⟨xk,-⟩:=di KW nD hxg;have Lv:=HX.out;have y1:W1.cell? (ah x 1)=some (ag kl):=(xk 1).trans (by simp[World.cell?,Lv]);have y2:W1.cell? (ah x 2)=some (ag kr):=(xk 2).trans (by simp[World.cell?,Lv]);have y5:W1.cell? (ah tb 5)=some (aD gl N.length cl):=((di KWw jk hne.2.1).1 5).trans C5.out;have y4:W1.cell? (ah tb 4)=some (.slice (some (ah gn off)) N.length cn):=((di KWw jk hne.2.1).1 4).trans C4.out;have z0:W1.cell? (ah gl (K*2))=some (.slice an L.length cnn):=(L1.get hlt).1.trans (by rw[hLN]);have yp:W1.cell? (ah gn (off+kl*7+4))=some (ag m):=((di KWw Rm hne.1).1 _).trans p4;have HLr:Hid (Rd (.int .u32) W1 an (L.map nm)):=by
   rcases hLr with h|⟨b,o,e,hb,hc⟩
   .exact .inl h
   .exact .inr ⟨b,o,e,bJ hb KWw.size,fun i hi=>((di KWw hb (hne.2.2 b o e)).1 _).trans (hc i hi)⟩
  have aBE:w.heap[pm]? =W1.heap[pm]? /\pm<W1.heap.size:=by
   obtain⟨es,clock,hb,-⟩:=hmap;have hpl:pm<w.heap.size:=(bn.1 hb).1;refine⟨(KWw.block pm hpl fun e=>?_).symm,bJ hpl KWw.size⟩;subst e;rcases XY.out.2 with⟨h,-⟩|⟨g,cap,cur,h,-,hh,-⟩
   .cases h
   .injection h with h;injection h with h;injection h with h;subst h;rw[hb]at hh;cases hh
  have z1:W1.cell? (ah x 0)=some (.int .u8 2):=(xk 0).trans (by simp[World.cell?,Lv]);clear Lv xk KW
  go_upto_region 2 with fail
  rw[<-V9];clear V9
  go_upto_region 3 with fail
  go_quiet (fail)
  go_wp2_with fail
  obtain⟨w2,kI⟩:∃w2,w2=W1.drewN nq:=⟨_,rfl⟩;have vR:Hid (aC (fun b=>b=gl) w w2):=by rw[kI];exact KWw.trans (Below.bP W1.heap.size _|>fun h=>(aC.refl _ W1).below h)
  have hL2:dw w2 base gl N.length cl LN (upd LL K (aD fb 1 1)):=by rw[kI];exact L1
  have hF2:w2.ownsRow fb 3 1 (aD fb 1 1) 1 [.int .i64 0]:=by rw[kI];exact F1
  have u1:w2.cell? (ah x 1)=some (ag kl):=by rw[kI];exact y1
  have u4:w2.cell? (ah tb 4)=some (.slice (some (ah gn off)) N.length cn):=by rw[kI];exact y4
  have up:w2.cell? (ah gn (off+kl*7+4))=some (ag m):=by rw[kI];exact yp
  have HU:Hid (w2.cell? (ah x 1)=some (ag kl)/\w2.cell? (ah tb 4)=some (.slice (some (ah gn off)) N.length cn)/\w2.cell? (ah gn (off+kl*7+4))=some (ag m)):=⟨u1,u4,up⟩;have kV:Hid (Rd (.int .u32) w2 an (L.map nm)):=by rw[kI];exact HLr.out
  have vT:Hid (w2.ownsMap Tryz.prog 27 (plainElem Tryz.prog 3) pm alR D/\pm≠gl/\pm<fb):=by
   rw[kI];obtain⟨es,clock,hb,r⟩:=hmap;have hpl:pm<w.heap.size:=(bn.1 hb).1;have hpg:pm≠gl:=by
    rintro rfl;rcases XY.out.2 with⟨h,-⟩|⟨g,cap,cur,h,-,hh,-⟩
    .cases h
    .have h9:=Xm (show(aD pm N.length cl).ownBlock=some g by rw[h];rfl);subst h9;rw[hb]at hh;cases hh
   exact⟨⟨es,clock,(KWw.block pm hpl hpg).trans hb,r⟩,hpg,by omega⟩
  have hw2:w2.heap.size=fb+1:=by rw[kI];exact hW1
  have htf:tb<fb/\gn<fb:=by omega
  have WK:ou w2 base gl N.length cl LN LL K kl kr m fb nm L 0 0 w2 (aN) (aN) (aD fb 1 1):=by
   refine⟨?_,dL _ _ _ _,dL _ _ _ _,?_,fun g h=>(by cases h),aC.refl _ _⟩
   .rw[PE _ kl _ hel,PE _ kr _ her];exact hL2
   .have e9:(lf m L).take (0+1)=[0]:=by simp[lf,List.range_succ_eq_map]
    rw[e9];exact hF2
  have OV:=ae WK;have HAB:Hid (∀b o,0<L.length->an=some (ah b o)->b<fb):=fun b o h0 e=>by
   obtain⟨b',o',e',hb',-⟩:=hLr.get (by simpa using h0);rw[e]at e';injection e' with e';injection e' with e';subst e';omega
  have HPL:=ae hpl;have N7:=ae yo;have HEL:=ae (And.intro hel her);rw[<-kI];clear kI L1 F1 y1 y2 y4 y5 yp z0 z1 KWw HLr hL2 hF2 u1 u4 up hmap hpl yo WK XY acW HL0 hel her hLr
  go_loopg [51] L.length (fun kx s51 wr=>∃(j:Nat) (vl vr vf:Value),s51=.int .i64 j/\j<=L.length/\L.length-j<=kx/\Hid (ou w2 base gl N.length cl LN LL K kl kr m fb nm L j j wr vl vr vf))
  case atStart=>exact⟨0,_,_,_,rfl,bC _,by omega,OV⟩
  case round=>
   obtain⟨j,vl,vr,vf,rfl,hj,PH,HI⟩:=hrel;obtain⟨al0,cl0,rfl⟩:=fI HI.out.2.1;obtain⟨iL,il,ir,ivf,ine,iK⟩:=HI.out;have Rz:((L.take j).filter fun i=>decide (i<m)).length<=L.length:=bO (gG _ _) (by simp;omega);have alV:((L.take j).filter fun i=>!decide (i<m)).length<=L.length:=bO (gG _ _) (by simp;omega);obtain⟨xk,-⟩:=di iK (b:=x) (by omega) (by omega);obtain⟨tk,-⟩:=di iK (b:=tb) (by omega) (by have:=hne.2.1;omega);obtain⟨gk,-⟩:=di iK (b:=gn) (by omega) (by have:=hne.1;omega);have u1:=(xk 1).trans HU.out.1;have u4:=(tk 4).trans HU.out.2.1;have up:=(gk (off+kl*7+4)).trans HU.out.2.2;clear xk tk gk;by_cases jl:j<L.length
   .obtain⟨i,hi⟩:∃i,i=L[j]:=⟨_,rfl⟩;have acY:i∈L:=by rw[hi];exact bW _
    have hib:=hLm i acY;obtain⟨nmi,acZ⟩:∃nmi,nmi=nm i:=⟨_,rfl⟩;have hcell:∃b o,an=some (ah b o)/\wr.cell? (ah b (o+j))=some (aJ nmi):=by
     obtain⟨b,o,e,hb,hc⟩:=kV.out.get (by simp;omega);have h9:=hc j (by simpa using jl);rw[fZ,<-hi,<-acZ]at h9;have hbn:=hne.2.2 b o e;have hbf:=HAB.out b o (by omega) e;have hbf:=HAB.out b o (by omega) e;have hbf:=HAB.out b o (by omega) e;have hbf:=HAB.out b o (by omega) e;have hbf:=HAB.out b o (by omega) e;have hbf:=HAB.out b o (by omega) e;have hbf:=HAB.out b o (by omega) e;exact⟨b,o,e,((di iK hb (by omega)).1 _).trans h9⟩
    obtain⟨b,o,ean,hnc⟩:=hcell;subst ean;have alW:∀q,(Instr.lookup 26 (.map (some pm)) (.int .u32 nmi) false).run Tryz.prog (wr.drewN q)=.ok (.int .i64 i) (wr.drewN q):=fun q=>by
     rw[acZ];exact XX (zf vT.out.1 (iK.block pm (by have:=vT.out.2.2;omega) (by have:=vT.out.2;omega))) (N7.out i acY) (HPL.out i acY)
    have Di:Hid (i=L[j]/\nmi=nm i):=⟨hi,acZ⟩;clear hi acZ acY
    go_wp2_with fail
    go_quiet (fail)
    obtain⟨w3,jQ⟩:∃w3,w3=wr.drewN nq:=⟨_,rfl⟩;have HI3:Hid (ou w2 base gl N.length cl LN LL K kl kr m fb nm L j j w3 (.slice al0 ((L.take j).filter fun i=>decide (i<m)).length cl0) vr vf):=by rw[jQ];exact HI.out.drewN nq
    rw[<-jQ];clear jQ iL il ir ivf ine iK HI u1 u4 up hnc alW;obtain⟨iL3,il3,ir3,alY,alZ,iK3⟩:=HI3.out;have ac0:gl<w3.heap.size:=by have:=iK3.size;omega
    by_cases KN:i<m
    .have d1:decide ((i:Int)<(m:Int))=true:=by simpa using KN
     have d2:decide (i<m)=true:=by simpa using KN
     have q0:w3.cell? (ah gl (kl*2))=some (.slice al0 ((L.take j).filter fun i=>decide (i<m)).length cl0):=(iL3.get Um).1.trans (by rw[upd_ne (by omega),upd_same]);have f0:=iL3.frozenAt (kl*2)
     go_wp2_with (at_builtin;refine cz yw w2.heap.size il3 [.int .u32 nmi] rfl (by simp[Value.oneCell']) rfl _ _ rfl rfl _ rfl (by unfold maxLen;omega) (by omega) (by have:=iK3.size;omega) ?_;intro v1 w4 pq hg4 hb4;have KA4:aC (fun k=>(Value.slice al0 ((L.take j).filter fun i=>decide (i<m)).length cl0).ownBlock=some k) w3 w4:=(aC.refl _ w3).grown hg4 (fun k hk=>.inl hk);have XZ:¬(Value.slice al0 ((L.take j).filter fun i=>decide (i<m)).length cl0).ownBlock=some gl:=(fun h=>by have h9:=(il3.lt gl h).1;omega);obtain⟨ck4,fk4⟩:=di KA4 ac0 XZ;have q4:=(ck4 (kl*2)).trans q0;have f4:=(fk4 (kl*2)).trans f0;clear ck4 fk4;obtain⟨va1,vc1,rfl⟩:=fI pq;have N8:=ae pq;have HG4:=ae hg4;have kJ:=ae hb4;clear pq hg4 hb4)
     obtain⟨w5,JH⟩:∃w5,w5=w4.setCell (ah gl (kl*2)) (.slice va1 (((L.take j).filter fun i=>decide (i<m)).length+1) vc1):=⟨_,rfl⟩;have X6:Hid (ou w2 base gl N.length cl LN LL K kl kr m fb nm L (j+1) j w5 (.slice va1 (((L.take j).filter fun i=>decide (i<m)).length+1) vc1) vr vf):=by
      rw[JH];exact ou.left HI3.out jl (by rw[<-Di.out.1];exact KN) Um (by omega) (by omega) (by omega) hgf (by rw[<-Di.out.1,<-Di.out.2];exact N8.out) HG4.out (gm kJ.out)
     have hA:((L.take (j+1)).filter fun i=>decide (i<m)).length=((L.take j).filter fun i=>decide (i<m)).length+1:=by
      rw[fG jl,mU,<-Di.out.1];simp[KN]
     rw[<-JH];clear JH KA4 XZ q4 f4 N8 HG4 kJ iL3 il3 ir3 alY alZ iK3 HI3 q0 f0 ac0;generalize hVL:((.slice va1 (((L.take j).filter fun i=>decide (i<m)).length+1) vc1):Value)=VL at*;generalize hVR:(vr:Value)=VR at*;have hVS:∃a c,VL=.slice a (((L.take j).filter fun i=>decide (i<m)).length+1) c:=⟨_,_,hVL.symm⟩;clear hVL hVR;obtain⟨aV,cV,rfl⟩:=hVS;obtain⟨A,hAA⟩:∃A,A=((L.take j).filter fun i=>decide (i<m)).length+1:=⟨_,rfl⟩
     first|rw[<-hAA]at hA X6 |- |rw[<-hAA]at hA X6
     have HA:=ae hA;have hA3:A<=1000001:=by omega
     clear hA hAA;obtain⟨Uo,il5,ir5,PI,ahi,iK5⟩:=X6.out;have ahk:gl<w5.heap.size:=by have:=iK5.size;omega
     have g1:=aj ((Uo.get hlt).2.trans (by rw[upd_same]));have g2:=aj ((Uo.get Um).1.trans (by rw[upd_ne (by omega),upd_same]));have f2:=Uo.frozenAt (K*2+1);have q2:=(Uo.get hlt).2;rw[upd_same]at q2;have X7:=ae PI;have ahl:¬vf.ownBlock=some gl:=fun h=>bK Uo PI (by decide) gl rfl h;have hK5:=iK5.size;clear Uo il5 ir5 PI ahi iK5;refine aF (fun W=>∃p:bg w5,W=p.W) [11,12,13,14] [(0,false),(1,false),(2,false),(3,false),(4,true),(5,false),(6,false),(7,false),(8,true),(9,false)] (by kernel_rfl) (by kernel_rfl) (fun _ _ d _ _ h=>by cases d<;>exact h) ⟨⟨_,(aM _ _).drew⟩,rfl⟩ 5 rfl (by kernel_rfl) ?_;simp only[bG,bz,bA,bu,aS,aT,aU]
     repeat(refine aI (fun K hK=>?_);go_simp;first|(refine hK _ ?_;clear hK K)|(apply Exists.intro;refine⟨fun _=>?_,hK _ ?_⟩;rfl;clear hK K))
     refine aQ ?_;refine az [10] (by kernel_rfl) (by simp) ?_;refine ak.cons rfl (fun K hK=>?_) ak.nil;go_simp;refine hK _ _ (fun _ _=>⟨⟨_,(aM _ w5).alloc (aG _) _|>.drew⟩,rfl⟩) ?_;clear hK K;refine az [11] (by kernel_rfl) (by simp) ?_;refine ak.cons rfl (fun K hK=>?_) ak.nil;refine bM oU fb (w:=(w5.alloc (.cells #[ag A] 3)).drew) (au X7.out ((aM _ w5).alloc (aG _) _|>.drew)) [.int .i64 A] rfl (by simp[Value.oneCell']) rfl (.tmp 92) (.tmp 98) rfl rfl w5.heap.size rfl (lX _ _) (by unfold maxLen;omega) (by omega) (by simp;omega) ?_;intro ga gz w7 mg hg7 Rf asR;refine hK _ _ (fun _ h=>absurd (by simp) h) ?_;clear hK K;refine aK [12,13,14] _ _ _ (by kernel_rfl) ?_;simp only[pick,bz,bA,bu,aS,aT];have PK:w5.grownBy w7 vf.ownBlock:=dP (bV ((aM _ w5).alloc (aG _) _|>.drew)) hg7;have KA7:aC (fun k=>vf.ownBlock=some k) w5 w7:=(aC.refl _ w5).grown PK (fun k hk=>.inl hk);obtain⟨ck7,fk7⟩:=di KA7 ahk ahl;have q7:=(ck7 (K*2+1)).trans q2;have f7:=(fk7 (K*2+1)).trans f2;have HI7:Hid (ou w2 base gl N.length cl LN LL K kl kr m fb nm L (j+1) (j+1) (w7.setCell (ah gl (K*2+1)) (aD ga (j+1+1) gz)) (.slice aV A cV) VR (aD ga (j+1+1) gz)):=
      ou.aeY X6.out jl hlt (by omega) hw2 hgf (by rw[HA.out];exact mg) PK
     clear ck7 fk7 KA7 PK hg7 mg q2 f2 g1 g2 X7 X6;go_wp2
     go_roundg (L.length-(j+1))
     case measure=>omega
     case rel=>exact⟨j+1,_,_,_,by go_num,by omega,aG _,HI7⟩
    .have d1:decide ((i:Int)<(m:Int))=false:=by simpa using KN
     have d2:decide (i<m)=false:=by simpa using KN
     have q0:w3.cell? (ah gl (kr*2))=some vr:=(iL3.get acV).1.trans (by rw[upd_same]);have f0:=iL3.frozenAt (kr*2)
     go_wp2_with (at_builtin;refine cz yw w2.heap.size ir3 [.int .u32 nmi] rfl (by simp[Value.oneCell']) rfl _ _ rfl rfl _ rfl (by unfold maxLen;omega) (by omega) (by have:=iK3.size;omega) ?_;intro v1 w4 pq hg4 hb4;have KA4:aC (fun k=>vr.ownBlock=some k) w3 w4:=(aC.refl _ w3).grown hg4 (fun k hk=>.inl hk);have XZ:¬vr.ownBlock=some gl:=(fun h=>by have h9:=(ir3.lt gl h).1;omega);obtain⟨ck4,fk4⟩:=di KA4 ac0 XZ;have q4:=(ck4 (kr*2)).trans q0;have f4:=(fk4 (kr*2)).trans f0;clear ck4 fk4;obtain⟨va1,vc1,rfl⟩:=fI pq;have N8:=ae pq;have HG4:=ae hg4;have kJ:=ae hb4;clear pq hg4 hb4)
     obtain⟨w5,JH⟩:∃w5,w5=w4.setCell (ah gl (kr*2)) (.slice va1 (((L.take j).filter fun i=>!decide (i<m)).length+1) vc1):=⟨_,rfl⟩;have X6:Hid (ou w2 base gl N.length cl LN LL K kl kr m fb nm L (j+1) j w5 (.slice al0 ((L.take j).filter fun i=>decide (i<m)).length cl0) (.slice va1 (((L.take j).filter fun i=>!decide (i<m)).length+1) vc1) vf):=by
      rw[JH];exact ou.right HI3.out jl (by rw[<-Di.out.1];exact KN) acV (by omega) (by omega) (by omega) hgf (by rw[<-Di.out.1,<-Di.out.2];exact N8.out) HG4.out (gm kJ.out)
     have hA:((L.take (j+1)).filter fun i=>decide (i<m)).length=((L.take j).filter fun i=>decide (i<m)).length:=by
      rw[fG jl,mU,<-Di.out.1];simp[KN]
     rw[<-JH];clear JH KA4 XZ q4 f4 N8 HG4 kJ iL3 il3 ir3 alY alZ iK3 HI3 q0 f0 ac0;generalize hVL:((.slice al0 ((L.take j).filter fun i=>decide (i<m)).length cl0):Value)=VL at*;generalize hVR:((.slice va1 (((L.take j).filter fun i=>!decide (i<m)).length+1) vc1):Value)=VR at*;have hVS:∃a c,VL=.slice a (((L.take j).filter fun i=>decide (i<m)).length) c:=⟨_,_,hVL.symm⟩;clear hVL hVR;obtain⟨aV,cV,rfl⟩:=hVS;obtain⟨A,hAA⟩:∃A,A=((L.take j).filter fun i=>decide (i<m)).length:=⟨_,rfl⟩
     first|rw[<-hAA]at hA X6 |- |rw[<-hAA]at hA X6
     have HA:=ae hA;have hA3:A<=1000001:=by omega
     clear hA hAA;obtain⟨Uo,il5,ir5,PI,ahi,iK5⟩:=X6.out;have ahk:gl<w5.heap.size:=by have:=iK5.size;omega
     have g1:=aj ((Uo.get hlt).2.trans (by rw[upd_same]));have g2:=aj ((Uo.get Um).1.trans (by rw[upd_ne (by omega),upd_same]));have f2:=Uo.frozenAt (K*2+1);have q2:=(Uo.get hlt).2;rw[upd_same]at q2;have X7:=ae PI;have ahl:¬vf.ownBlock=some gl:=fun h=>bK Uo PI (by decide) gl rfl h;have hK5:=iK5.size;clear Uo il5 ir5 PI ahi iK5;refine aF (fun W=>∃p:bg w5,W=p.W) [11,12,13,14] [(0,false),(1,false),(2,false),(3,false),(4,true),(5,false),(6,false),(7,false),(8,true),(9,false)] (by kernel_rfl) (by kernel_rfl) (fun _ _ d _ _ h=>by cases d<;>exact h) ⟨⟨_,(aM _ _).drew⟩,rfl⟩ 5 rfl (by kernel_rfl) ?_;simp only[bG,bz,bA,bu,aS,aT,aU]
     repeat(refine aI (fun K hK=>?_);go_simp;first|(refine hK _ ?_;clear hK K)|(apply Exists.intro;refine⟨fun _=>?_,hK _ ?_⟩;rfl;clear hK K))
     refine aQ ?_;refine az [10] (by kernel_rfl) (by simp) ?_;refine ak.cons rfl (fun K hK=>?_) ak.nil;go_simp;refine hK _ _ (fun _ _=>⟨⟨_,(aM _ w5).alloc (aG _) _|>.drew⟩,rfl⟩) ?_;clear hK K;refine az [11] (by kernel_rfl) (by simp) ?_;refine ak.cons rfl (fun K hK=>?_) ak.nil;refine bM oU fb (w:=(w5.alloc (.cells #[ag A] 3)).drew) (au X7.out ((aM _ w5).alloc (aG _) _|>.drew)) [.int .i64 A] rfl (by simp[Value.oneCell']) rfl (.tmp 92) (.tmp 98) rfl rfl w5.heap.size rfl (lX _ _) (by unfold maxLen;omega) (by omega) (by simp;omega) ?_;intro ga gz w7 mg hg7 Rf asR;refine hK _ _ (fun _ h=>absurd (by simp) h) ?_;clear hK K;refine aK [12,13,14] _ _ _ (by kernel_rfl) ?_;simp only[pick,bz,bA,bu,aS,aT];have PK:w5.grownBy w7 vf.ownBlock:=dP (bV ((aM _ w5).alloc (aG _) _|>.drew)) hg7;have KA7:aC (fun k=>vf.ownBlock=some k) w5 w7:=(aC.refl _ w5).grown PK (fun k hk=>.inl hk);obtain⟨ck7,fk7⟩:=di KA7 ahk ahl;have q7:=(ck7 (K*2+1)).trans q2;have f7:=(fk7 (K*2+1)).trans f2;have HI7:Hid (ou w2 base gl N.length cl LN LL K kl kr m fb nm L (j+1) (j+1) (w7.setCell (ah gl (K*2+1)) (aD ga (j+1+1) gz)) (.slice aV A cV) VR (aD ga (j+1+1) gz)):=
      ou.aeY X6.out jl hlt (by omega) hw2 hgf (by rw[HA.out];exact mg) PK
     clear ck7 fk7 KA7 PK hg7 mg q2 f2 g1 g2 X7 X6;go_wp2
     go_roundg (L.length-(j+1))
     case measure=>omega
     case rel=>exact⟨j+1,_,_,_,by go_num,by omega,aG _,HI7⟩
   .obtain rfl:j=L.length:=by omega
    clear iL il ir ivf ine iK u1 u4 up;go_wp2
    first|go_end0|go_ret
    obtain⟨iL,il,ir,ivf,ine,iK⟩:=HI.out;have hs2:=vR.out.size;have uy:=ui m L;simp only[mW]at iL il ir ine;rw[kZ (Ay uy),<-uy]at ivf;exact⟨rfl,_,_,_,iL,bR il (by omega),bR ir (by omega),bR ivf (by omega),ine,
     ((vR.out.mono (S':=fun k=>k=gl\/w.heap.size<=k) (fun k h=>.inl h)).trans (iK.mono (fun k h=>by rcases h with h|h;exact .inl h;exact .inr (by omega)))).strip⟩
theorem Ba (a s tb gn off cn gl cl base K pm:Nat) (N:List Nd) (LN LL:Nat->Value) (w:World) (ha:FT.At N (.leaf a) s) (hK:(FT.leaf a).root s=K) (hN:N.length<=1000000)
  (c4:w.cell? (ah tb 4)=some (.slice (some (ah gn off)) N.length cn)) (r4:dU qo 7 w (some (ah gn off)) N) (c5:w.cell? (ah tb 5)=some (aD gl N.length cl))
  (mK:dw w base gl N.length cl LN LL):
  aO 96 #[ay tb,ag K,.map (some pm)] w fun e w'=>e=.returned (.tuple #[])/\∃vf,(∃a m c,vf=.slice a m c)/\dw w' base gl N.length cl LN (upd LL K vf)/\(∀g,vf.ownBlock=some g->w.heap.size<=g/\g<w'.heap.size)/\aC (fun b=>b=gl) w w':=by
 obtain⟨Rm,n0,n1,n2,n3,n4,n5,n6⟩:=nW r4 ha.get;have hlt:=ha.lt;have jk:=iD w _ c4;have Uk:gl<w.heap.size:=(mK.lt gl rfl).2;simp only at jk;simp only[FT.top]at n0 n1 n2 n3 n4 n6;rw[hK]at n0 n1 n2 n3 n4 n5 n6 hlt;have acW:=ae mK;have fr1:=mK.frozenAt (K*2+1);obtain⟨q0,q1⟩:=mK.get hlt;have C4:=ae c4;have R4:=ae r4;have C5:=ae c5;obtain⟨ql,NZ⟩:∃ql,ql=LL K:=⟨_,rfl⟩;rw[<-NZ]at q1;clear mK r4 NZ;go_enter Tryz.func96,Tryz.ntmps96
 go_upto_region 0 with fail
 go_cut [6,7]from 6 (fun v6 v7 wx=>∃x:Nat,v6=ay x/\v7=.pointer (some (ah gl (K*2)))/\Hid (wx.heap[x]? =some (.cells #[.int .u8 1,ag (-1),ag (-1),ag a,ag (a+1),ag 0,ag a] 163 (0,0)))/\Hid (Below w.heap.size w wx)/\w.heap.size<=x)
 case first=>
  have g4:=aj c4;have g5:=aj c5;have k0:=aj n0;have k1:=aj n1;have k2:=aj n2;have k3:=aj n3;have k4:=aj n4;have k5:=aj n5;have k6:=aj n6;clear c4 c5 n0 n1 n2 n3 n4 n5 n6;refine aF (fun W=>∃p:bg w,W=p.W) [15] [(0,false),(1,false),(2,false),(3,true),(4,false),(5,false),(6,true),(7,false),(8,false),(9,false),(10,true),(11,false),(12,false)] (by kernel_rfl) (by kernel_rfl) (fun _ _ d _ _ h=>by cases d<;>exact h) ⟨⟨_,(aM _ _).drew⟩,rfl⟩ 3 rfl (by kernel_rfl) ?_;simp only[bG,bz,bA,bu,aS,aT,aU]
  repeat(refine aI (fun K hK=>?_);go_simp;first|(refine hK _ ?_;clear hK K)|(apply Exists.intro;refine⟨fun _=>?_,hK _ ?_⟩;rfl;clear hK K))
  refine aQ ?_;refine az [13] (by kernel_rfl) (by simp) ?_;refine ak.cons rfl (fun K hK=>?_) ak.nil;go_simp;refine hK _ _ (fun _ _=>⟨⟨_,(aM _ w).alloc (aG _) _|>.drew⟩,rfl⟩) ?_;clear hK K;refine az [14] (by kernel_rfl) (by simp) ?_;refine ak.cons rfl (fun K hK=>?_) ak.nil;go_simp;refine hK _ _ (fun _ _=>⟨⟨_,(aM _ w).alloc (aG _) _|>.drew⟩,rfl⟩) ?_;clear hK K;refine aK [15] _ _ _ (by kernel_rfl) ?_;simp only[pick,bz,bA,bu,aS,aT];go_wp2;go_meet;exact⟨w.heap.size,rfl,rfl,lX _ _,(aM _ w).alloc (aG _) _|>.drew,aG _⟩
 case rest=>
  obtain⟨x,rfl,rfl,HX,HB,hx⟩:=hcut;have nD:x<wc.heap.size:=(bn.1 HX.out).1;have HL0:Hid (dw wc base gl N.length cl LN LL):=au acW.out HB.out;have WY:=HL0.out.frozenAt (K*2+1);have m1:=(HL0.out.get hlt).2;obtain⟨ql2,Un⟩:∃ql2,ql2=LL K:=⟨_,rfl⟩;rw[<-Un]at m1;clear Un;have a1:(wc.alloc (.cells #[ag 0] 3)).cell? (ah gl (K*2+1))=some ql2:=(((aM wc.heap.size wc).alloc (aG _) _).cell (p:=(ah gl (K*2+1))) (by have:=HB.out.size;show gl<_;omega)).trans m1;have a2:(wc.alloc (.cells #[ag 0] 3)).frozen? (ah gl (K*2+1))=false:=(((aM wc.heap.size wc).alloc (aG _) _).frozen (p:=(ah gl (K*2+1))) (by have:=HB.out.size;show gl<_;omega)).trans WY;clear n0 n1 n2 n3 n4 n5 n6 c4 c5 fr1 q0 q1;have hsz:=HB.out.size;obtain⟨W1,V9⟩:∃W1,W1=(wc.alloc (.cells #[ag 0] 3)).setCell (ah gl (K*2+1)) (aD wc.heap.size 1 1):=⟨_,rfl⟩;have KW:aC (fun b=>b=gl) wc W1:=by rw[V9];exact((aC.refl (fun b=>b=gl) wc).alloc _).set (a:=(ah gl (K*2+1))) _ (.inl rfl)
  have HS:Hid (dw W1 base gl N.length cl LN (upd LL K (aD wc.heap.size 1 1))):=by rw[V9];exact dw.acT (au HL0.out ((aM _ _).alloc (aG _) _)) hlt _
  have HK:Hid (aC (fun b=>b=gl) w W1):=((aC.refl (fun b=>b=gl) w).below HB.out).trans KW;have hW1:W1.heap.size=wc.heap.size+1:=by rw[V9];simp
  have Lv:=HX.out;have x0:W1.cell? (ah x 0)=some (.int .u8 1):=((di KW nD (by omega)).1 0).trans (by simp[World.cell?,Lv]);clear Lv
  go_upto_region 2 with fail
  rw[<-V9];clear V9;go_wp2;refine ng (mF rfl _ _ _) rfl ?_;exact⟨rfl,aD wc.heap.size 1 1,⟨_,_,_,rfl⟩,HS.out,fun g e=>by have e9:=Xm e;omega,HK.out⟩
end Go.Proofs.YtkjdbndekceffaaGreat
namespace Go.Proofs.YtkjdbndekceffaaGreat
open Go.RowKit Go.Sort Go.Shelf Go.Lib
def pO (p q:Pt):Int:=if jH p.2.1 q.2.1=0 then jH p.2.2 q.2.2 else jH p.2.1 q.2.1
theorem rF (p q:Pt):pO p q<0↔vN p q:=by
 unfold pO vN jH
 repeat' split
 all_goals omega
theorem ahm (p q:Pt) (w:World):aO 71 #[ku p.1 p.2.1 p.2.2,ku q.1 q.2.1 q.2.2] w fun e w'=>e=.returned (ag (pO p q))/\zN w w':=by
 have C1:=ae (fun W=>iBy p.2.1 q.2.1 p.2.2 q.2.2 W);unfold pO;generalize(if jH p.2.1 q.2.1=0 then jH p.2.2 q.2.2 else jH p.2.1 q.2.1)=r at*;go_enter Tryz.func71,Tryz.ntmps71
 go_wp2_with fail
 refine(C1.out _).mono ?_;rintro e w1 ⟨rfl,h⟩;go_wp2;go_ret;exact⟨rfl,(((zN.refl _).alloc _).alloc _).trans h⟩
theorem EM:∀args w,(callFunc 71 args).run Tryz.prog w=.ok (.enter 71 args) w:=dF Tryz.func71 (by kernel_rfl) rfl
def Wd (p q:Pt):Bool:=!decide (vN q p)
def kY (l:List Pt):List Pt:=l.mergeSort Wd
theorem jo (l:List Pt):(kY l).Perm l:=sP l Wd
theorem kK (l:List Pt) (p:Pt):p∈kY l↔p∈l:=(jo l).mem_iff
theorem Cc {l:List Pt} (h:(ids l).Nodup):(kY l).Pairwise vN:=by
 have h1:(kY l).Pairwise fun p q=>Wd p q=true:=BM (le:=Wd) (fun p q r hpq hqr=>by simp only[Wd,qf,iE]at*;unfold vN at*;omega) (fun p q=>by simp only[Wd,DU,qf,iE];unfold vN;omega) l;have h2:(ids (kY l)).Nodup:=((jo l).map _).nodup_iff.2 h;have h3:(kY l).Pairwise fun p q=>p.2.2≠q.2.2:=by
  unfold ids at h2;exact dG.1 h2
 refine(h1.and h3).imp fun{a b} hab=>?_;obtain⟨ha,hb⟩:=hab;simp only[Wd,qf,iE]at ha;unfold vN at*;omega
theorem RA {l S:List Pt} (h:(ids l).Nodup) (hS:S.Pairwise vN) (hm:∀p,p∈S↔p∈l):S=kY l:=
 xC yF G5 hS (Cc h) fun p=>by rw[hm,kK]
theorem ac2:SWO (ltOf pO):=AR rF yF (fun _ _ _=>uX) (fun x y z=>by unfold vN;omega)
theorem Mq {l l':List Pt} (hu:(ids l).Nodup) (hp:l'.Perm l) (hs:l'.Pairwise fun x y=>¬pO y x<0):l'=kY l:=by
 refine RA hu ?_ fun p=>hp.mem_iff;have h2:(ids l').Nodup:=(hp.map _).nodup_iff.2 hu;have h3:l'.Pairwise fun p q=>p.2.2≠q.2.2:=dG.1 h2;refine(hs.and h3).imp fun{a b} hab=>?_;obtain⟨ha,hb⟩:=hab;rw[rF]at ha;unfold vN at*;omega
theorem X8 {w:World} {base g c n:Nat} {l:List Pt} (hn:l.length=n) (hsz:n<4611686018427387904) (h:w.ownsRow base 29 3 (aD g n c) n (l.flatMap fH)) (hu:(ids l).Nodup):
  aO 93 #[aD g n c,.func (.func 71) #[] #[]] w fun e w'=>
   e=.returned (.tuple #[])/\w'.ownsRow base 29 3 (aD g n c) n ((kY l).flatMap fH)/\w.grownBy w' (some g):=by
 have hc:=og Tryz.OA cZ (by decide) Tryz.isAgg29 Tryz.sizeOf29 yL pO ac2 71 #[] EM (fun x y W=>ahm x y W) hn hsz h;change aO 93 _ _ _ at hc;refine hc.mono ?_;rintro e w' ⟨he,l',hp,hs,ho,hg⟩;rw[Mq hu hp hs]at ho;exact⟨he,ho,hg⟩
theorem Bb {w:World} {base n:Nat} {v:Value} {l:List Pt} (hn:l.length=n) (hsz:n<4611686018427387904) (h:w.ownsRow base 29 3 v n (l.flatMap fH)) (hu:(ids l).Nodup):
  aO 93 #[v,.func (.func 94) #[] #[]] w fun e w'=>
   e=.returned (.tuple #[])/\w'.ownsRow base 29 3 v n ((gM l).flatMap fH)/\aC (fun k=>v.ownBlock=some k) w w':=by
 rcases h.2 with⟨rfl,h0⟩|⟨g,cap,cur,rfl,hg,_⟩
 .subst h0;obtain rfl:l=[]:=jw hn;refine(yO none 0 _ w).mono ?_;rintro e w' ⟨he,rfl⟩;exact⟨he,by simpa[gM]using h,aC.refl _ _⟩
 .refine(acw hn hsz h hu).mono ?_;rintro e w' ⟨he,ho,hgr⟩;exact⟨he,ho,(aC.refl _ w).grown hgr (fun k e=>.inl e)⟩
theorem Uq {w:World} {base n:Nat} {v:Value} {l:List Pt} (hn:l.length=n) (hsz:n<4611686018427387904) (h:w.ownsRow base 29 3 v n (l.flatMap fH)) (hu:(ids l).Nodup):
  aO 93 #[v,.func (.func 71) #[] #[]] w fun e w'=>
   e=.returned (.tuple #[])/\w'.ownsRow base 29 3 v n ((kY l).flatMap fH)/\aC (fun k=>v.ownBlock=some k) w w':=by
 rcases h.2 with⟨rfl,h0⟩|⟨g,cap,cur,rfl,hg,_⟩
 .subst h0;obtain rfl:l=[]:=jw hn;refine(yO none 0 _ w).mono ?_;rintro e w' ⟨he,rfl⟩;exact⟨he,by simpa[kY]using h,aC.refl _ _⟩
 .refine(X8 hn hsz h hu).mono ?_;rintro e w' ⟨he,ho,hgr⟩;exact⟨he,ho,(aC.refl _ w).grown hgr (fun k e=>.inl e)⟩
end Go.Proofs.YtkjdbndekceffaaGreat
namespace Go.Proofs.YtkjdbndekceffaaGreat
open Go.RowKit Go.Sort Go.Shelf Go.Lib Go.Maps
structure xJ (w:World) (lo fb n:Nat) (rv gv nv fv:Value) (l:List Pt):Prop where
 row:w.ownsRow lo 29 3 rv n (l.flatMap fH)
 Hd:w.ownsRow lo 4 1 gv n ((List.replicate n false).map Value.bool)
 iT:o8 w lo fb n fv
 lof:lo<=fb
 jG:w.ownsRow lo 163 7 nv (aZ n).length ((aZ n).flatMap qo)
def Else (w:World) (S:Nat->Prop):Prop:=∀k,k<w.heap.size->S k->∃cs t fr,w.heap[k]? =some (.cells cs t fr)/\t≠29/\t≠4/\t≠236/\t≠163
theorem qD {S:Nat->Prop} {w w':World} {base:Nat} {e:TypeId} {sz:Nat} {v:Value} {n:Nat} {xs:List Value} (h:w.ownsRow base e sz v n xs) (K:aC S w w') (hS:∀k,k<w.heap.size->S k->∃cs t fr,w.heap[k]? =some (.cells cs t fr)/\t≠e):w'.ownsRow base e sz v n xs:=
 aY h K fun gb he hs=>by
  obtain⟨cs,t,fr,hh,ht⟩:=hS gb (h.lt gb he).2 hs;exact bH h hh ht gb he rfl
theorem xJ.kept {S:Nat->Prop} {w w':World} {lo fb n:Nat} {rv gv nv fv:Value} {l:List Pt} (h:xJ w lo fb n rv gv nv fv l) (K:aC S w w') (hS:Else w S):xJ w' lo fb n rv gv nv fv l:=by
 refine⟨qD h.row K fun k h1 h2=>?_,qD h.Hd K fun k h1 h2=>?_,⟨bL K h.iT.blk fun h2=>?_,qD h.iT.row K fun k h1 h2=>?_⟩,h.lof,qD h.jG K fun k h1 h2=>?_⟩
 .obtain⟨cs,t,fr,a,b,c,d,e⟩:=hS k h1 h2;exact⟨cs,t,fr,a,b⟩
 .obtain⟨cs,t,fr,a,b,c,d,e⟩:=hS k h1 h2;exact⟨cs,t,fr,a,c⟩
 .have hl:=(bn.1 h.iT.blk).1;obtain⟨cs,t,fr,a,b,c,d,e⟩:=hS fb hl h2;have:=a.symm.trans h.iT.blk;injection this with this;injection this with _ this _;exact d this
 .obtain⟨cs,t,fr,a,b,c,d,e⟩:=hS k h1 h2;exact⟨cs,t,fr,a,e⟩
 .obtain⟨cs,t,fr,a,b,c,d,e⟩:=hS k h1 h2;exact⟨cs,t,fr,a,e⟩
abbrev zg (rv xv gv:Value) (fb:Nat) (nv lv yv:Value) (n:Nat):Obj:=.cells #[rv,xv,gv,ay fb,nv,lv,yv,ag n] 146 (0,0)
theorem zh:∀args w,(callFunc 91 args).run Tryz.prog w=.ok (.enter 91 args) w:=dF Tryz.func91 (by kernel_rfl) rfl
theorem nM:∀args w,(callFunc 95 args).run Tryz.prog w=.ok (.enter 95 args) w:=dF Tryz.func95 (by kernel_rfl) rfl
theorem xK:∀args w,(callFunc 92 args).run Tryz.prog w=.ok (.enter 92 args) w:=dF Tryz.func92 (by kernel_rfl) rfl
theorem Ur:∃i,Tryz.prog.info? 4=some i/\i.zero=some (.bool false)/\i.size=1/\i.bytes=1:=by
 have h:(Tryz.prog.info? 4).map (fun i=>(i.zero,i.size,i.bytes))=some (some (.bool false),1,1):=by kernel_rfl
 cases hi:Tryz.prog.info? 4 with
 |none=>rw[hi]at h;cases h
 |some i=>rw[hi]at h;injection h with h;injection h with h1 h2;injection h2 with h2 h3;exact⟨i,rfl,h1,h2,h3⟩
theorem Us:∃i,Tryz.prog.info? 150=some i/\i.zero=some (.agg #[aN,aN])/\i.size=2/\i.bytes=48:=by
 have h:(Tryz.prog.info? 150).map (fun i=>(i.zero,i.size,i.bytes))=some (some (.agg #[aN,aN]),2,48):=by kernel_rfl
 cases hi:Tryz.prog.info? 150 with
 |none=>rw[hi]at h;cases h
 |some i=>rw[hi]at h;injection h with h;injection h with h1 h2;injection h2 with h2 h3;exact⟨i,rfl,h1,h2,h3⟩
theorem X9 (n:Nat) (hn:n<=1000000) (W:World):(Instr.makeSlice 95 (.int .i64 n) (.int .i64 n)).run Tryz.prog W=.ok (aD W.heap.size n n) (W.alloc (.cells (madeCells #[.bool false] n) 4)):=by
 obtain⟨i,hi,hz,hs,hb⟩:=Ur;have h:=run_make (P:=Tryz.prog) W 95 4 i (.bool false) Tryz.underlying95 hi hz .i64 .i64 n n (by omega) (Int.le_refl _) (by rw[hb];omega) (by omega);rw[h,iF,hs,lC];rfl
theorem Ya (n:Nat) (hn:n<=1000000) (W:World):(Instr.makeSlice 144 (.int .i64 n) (.int .i64 n)).run Tryz.prog W=.ok (aD W.heap.size n n) (W.alloc (.cells (madeCells #[aN,aN] (n*2)) 150)):=by
 obtain⟨i,hi,hz,hs,hb⟩:=Us;have h:=run_make (P:=Tryz.prog) W 144 150 i (.agg #[aN,aN]) Tryz.underlying144 hi hz .i64 .i64 n n (by omega) (Int.le_refl _) (by rw[hb];omega) (by omega);rw[h,iF,hs];rfl
theorem Bc (W:World) (base n:Nat) (hb:base<=W.heap.size) (hn:n<=1000000):(W.alloc (.cells (madeCells #[.bool false] n) 4)).ownsRow base 4 1 (aD W.heap.size n n) n ((List.replicate n false).map Value.bool):=by
 have h:=World.ownsRow_lit (e:=4) (size:=1) W (madeCells #[.bool false] n) n hb (by unfold maxLen;omega) (by rw[size_madeCells,lC]);rwa [toList_madeCells_one,<-IM]at h
theorem Ut (W:World) (base n:Nat) (hb:base<=W.heap.size) (hn:n<=1000000):dw (W.alloc (.cells (madeCells #[aN,aN] (n*2)) 150)) base W.heap.size n n (fun _=>aN) (fun _=>aN):=by
 have h:=World.ownsRow_lit (e:=150) (size:=2) W (madeCells #[aN,aN] (n*2)) n hb (by unfold maxLen;omega) (by rw[size_madeCells]);have e:(madeCells #[aN,aN] (n*2)).toList=XU (fun _=>aN) (fun _=>aN) n:=by
  apply zY;intro i;by_cases hi:i<n*2
  .have hd:i/2<n:=by omega
   obtain⟨a1,a2⟩:=vw (fun _=>aN) (fun _=>aN) hd;have e1:(madeCells #[aN,aN] (n*2)).toList[i]? =some (aN):=by
    simp only[madeCells,Ow,Array.getElem?_map,Array.getElem?_range,hi,gV,aU];rcases Ir i with hm|hm<;>simp[hm]
   rw[e1];rcases Ir i with hm|hm
   .rw[show i=i/2*2 by omega,a1]
   .rw[show i=i/2*2+1 by omega,a2]
  .rw[p9 (by simp[size_madeCells];omega),p9 (by rw[rE];omega)]
 rw[e]at h;exact h
theorem PL {w3 w5:World} {base fb n:Nat} {d m0:Int} {nv0:Value} {e:TypeId} {sz:Nat} {v:Value} {m:Nat} {xs:List Value} (h:w3.ownsRow base e sz v m xs) (he:e≠236) (hf:w3.heap[fb]? =some (ma d m0 nv0 n)) (hk:aC (fun k=>k=fb) w3 w5):w5.ownsRow base e sz v m xs:=
 aY h hk fun g e1 e2=>bH h hf (jb he) g e1 e2.symm
theorem Yb {w w':World} {pm:Nat} {es:Array MapEntry} {ck:Nat} {base:Nat} {e:TypeId} {sz:Nat} {v:Value} {n:Nat} {xs:List Value} (h:w.ownsRow base e sz v n xs) (K:aC (fun k=>k=pm) w w') (hm:w.heap[pm]? =some (.map es ck)):w'.ownsRow base e sz v n xs:=
 aY h K fun gb he hs=>by
  subst hs;rcases h.2 with⟨rfl,-⟩|⟨g,cap,cur,rfl,-,hh,-⟩
  .cases he
  .injection he with he;subst he;rw[hh]at hm;cases hm
theorem xJ.ama {w w':World} {pm:Nat} {es:Array MapEntry} {ck:Nat} {lo fb n:Nat} {rv gv nv fv:Value} {l:List Pt} (h:xJ w lo fb n rv gv nv fv l) (K:aC (fun k=>k=pm) w w') (hm:w.heap[pm]? =some (.map es ck)):xJ w' lo fb n rv gv nv fv l:=
 ⟨Yb h.row K hm,Yb h.Hd K hm,⟨bL K h.iT.blk (fun e=>by subst e;have h9:=h.iT.blk.symm.trans hm;cases h9),Yb h.iT.row K hm⟩,h.lof,Yb h.jG K hm⟩
def dQ (R:List Pt):List Nat:=(kY R).map fun p=>R.idxOf p
theorem ac3 {R:List Pt} {i:Nat} (hi:i<(dQ R).length):bY R (dQ R)[i]=(kY R)[i]'(by simpa[dQ]using hi):=by
 have h1:i<(kY R).length:=by simpa[dQ]using hi
 have hm:(kY R)[i]∈R:=(kK R _).1 (bW h1);have hl:=Oj hm;simp only[dQ,fZ,bY];rw[jy,dD hl];simp
theorem kL (R:List Pt):(dQ R).length=R.length:=by simp[dQ,(jo R).length_eq]
theorem EN {R:List Pt} {p:Pt} (h:p∈R):bY R (R.idxOf p)=p:=by
 have hl:=Oj h;simp only[bY];rw[jy,dD hl];simp
theorem pz {R:List Pt} (hx:R.Pairwise sK) (hu:(ids R).Nodup):dm R (List.replicate R.length false) (dQ R):=by
 have xI:R.Nodup:=hx.imp fun{a b} h e=>by subst e;exact yE _ h
 have hnY:(kY R).Nodup:=(jo R).nodup_iff.2 xI;refine⟨hx,hu,by simp,?_,fun i=>?_,?_⟩
 .unfold dQ;refine dG.2 (Dq (fun{p q} hp hq h e=>h ?_) hnY);rw[<-EN ((kK R p).1 hp),<-EN ((kK R q).1 hq),e]
 .rw[sS];constructor
  .intro h;unfold dQ at h;obtain⟨p,hp,rfl⟩:=dY.1 h;rw[aR (Oj ((kK R p).1 hp))]
  .intro h;have hi:i<R.length:=by
    by_cases h9:i<R.length
    .exact h9
    .rw[aP h9]at h;cases h
   unfold dQ;refine dY.2 ⟨R[i],(kK R _).2 (bW hi),?_⟩;exact List.Nodup.idxOf_getElem xI i hi
 .unfold dQ;refine dG.2 (Dq (fun{p q} hp hq h=>?_) (Cc hu));rw[EN ((kK R p).1 hp),EN ((kK R q).1 hq)];exact h
theorem fQ {j:Nat} (h:0<j):aZ j=(dO 0 j).nodes 0:=by unfold aZ;rw[aP (by omega)]
theorem lS {j:Nat} {t:FT} {s:Nat} (h:FT.At (aZ j) t s):0<j:=by
 have:=h.lt;rw[dA]at this;omega
theorem mh {j:Nat} (h:0<j):(dO 0 j).root 0=2*j-2:=by
 have:=fB 0 j h;unfold FT.root;omega
theorem vz {j k:Nat} (h:k<(aZ j).length):∃t s,FT.At (aZ j) t s/\t.root s=k:=by
 have hj:0<j:=by rw[dA]at h;omega
 have hT:=kH j hj;rw[fQ hj]at h hT |-;rw[FT.iQ]at h;have h2:k<((dO 0 j).subs 0).length:=by rw[FT.fD];exact h
 exact⟨_,_,FT.lM _ 0 hT _ (bW h2),by rw[FT.qB];omega⟩
abbrev amb (t:FT) (s:Nat) (l r:FT) (q:Nat):Prop:=(t=l/\s=q)\/(t=r/\s=q+l.size)
structure Be (w:World) (B j:Nat) (R:List Pt) (YS:List Nat) (m:Nat) (LN LL:Nat->Value):Prop where
 fil:∀t s,FT.At (aZ j) t s->(t.root s=2*j-2\/∃l r q,FT.At (aZ j) (.node l r) q/\m<=(FT.node l r).root q/\amb t s l r q)->w.ownsRow B 27 1 (LN (t.root s)) (nl YS t).length (((nl YS t).map (ko R)).map (Value.int .u32))
 emp:∀l r q,FT.At (aZ j) (.node l r) q->(FT.node l r).root q<m->LN (l.root q)=aN/\LN (r.root (q+l.size))=aN
 Em:∀l r q,FT.At (aZ j) (.node l r) q->m<=(FT.node l r).root q->w.ownsRow B 3 1 (LL ((FT.node l r).root q)) (lf l.hi (nl YS (.node l r))).length ((lf l.hi (nl YS (.node l r))).map (Value.int .i64))
 G6:∀k,k<(aZ j).length->m<=k->(∃a n c,LL k=.slice a n c)/\∀g,(LL k).ownBlock=some g->B<=g/\g<w.heap.size
 nil:∀k,k<m->LL k=aN
 ac4:∀k,k<(aZ j).length->∀g,(LN k).ownBlock=some g->B<=g/\g<w.heap.size
 NV:∀i k,i<(aZ j).length->k<(aZ j).length->i≠k->∀g,(LN i).ownBlock=some g->(LN k).ownBlock≠some g
 Mf:∀i k,i<(aZ j).length->k<(aZ j).length->i≠k->∀g,(LL i).ownBlock=some g->(LL k).ownBlock≠some g
section
variable {w w':World} {B base gl n c j k:Nat} {R:List Pt} {YS:List Nat} {LN LL:Nat->Value}
theorem Be.leaf (h:Be w B j R YS (k+1) LN LL) (hL:dw w base gl n c LN LL) {a s:Nat} (ha:FT.At (aZ j) (.leaf a) s) (hk:(FT.leaf a).root s=k) (hK:aC (fun b=>b=gl) w w') (hB:B<=w.heap.size) {vf:Value} (hs:∃a m c,vf=.slice a m c) (hv:∀g,vf.ownBlock=some g->w.heap.size<=g/\g<w'.heap.size):
  Be w' B j R YS k LN (upd LL k vf):=by
 have hno:∀l r q,FT.At (aZ j) (.node l r) q->k<=(FT.node l r).root q->k+1<=(FT.node l r).root q:=fun l r q h1 h2=>by
  by_cases e:(FT.node l r).root q=k
  .have:=(FT.At.unique ha h1 (by rw[hk,e])).1;cases this
  .omega
 have gU:k<(aZ j).length:=hk▸ha.lt;have hsz:=hK.size;refine⟨fun t s' h1 h2=>?_,fun l r q h1 h2=>h.emp l r q h1 (by omega),fun l r q h1 h2=>?_,fun i h1 h2=>?_,fun i h1=>?_,fun i h1 g h2=>?_,h.NV,fun i i' h1 h2 h3 g h4 h5=>?_⟩
 .have h3:=h.fil t s' h1 (h2.imp id fun⟨l,r,q,a1,a2,a3⟩=>⟨l,r,q,a1,hno l r q a1 a2,a3⟩);exact aY h3 hK fun g e1 e2=>bK hL h3 (by decide) g (by rw[e2];rfl) e1
 .have h4:=hno l r q h1 h2;have h3:=h.Em l r q h1 h4;rw[upd_ne (by omega)];exact aY h3 hK fun g e1 e2=>bK hL h3 (by decide) g (by rw[e2];rfl) e1
 .by_cases e:i=k
  .subst e;rw[upd_same];exact⟨hs,fun g hg=>by have:=hv g hg;omega⟩
  .rw[upd_ne e];obtain⟨a1,a2⟩:=h.G6 i h1 (by omega);exact⟨a1,fun g hg=>by have:=a2 g hg;omega⟩
 .rw[upd_ne (by omega)];exact h.nil i (by omega)
 .have:=h.ac4 i h1 g h2;omega
 .have old:∀i,i<(aZ j).length->i≠k->∀g,(LL i).ownBlock=some g->g<w.heap.size:=fun i hi hne g hg=>by
   by_cases e:i<k
   .rw[h.nil i (by omega)]at hg;cases hg
   .exact((h.G6 i hi (by omega)).2 g hg).2
  by_cases e:i=k
  .subst e;rw[upd_same]at h4;rw[upd_ne (jb h3)]at h5;have:=old i' h2 (jb h3) g h5;have:=hv g h4;omega
  .rw[upd_ne e]at h4;by_cases e':i'=k
   .subst e';rw[upd_same]at h5;have:=old i h1 e g h4;have:=hv g h5;omega
   .rw[upd_ne e']at h5;exact h.Mf i i' h1 h2 h3 g h4 h5
theorem Be.node (h:Be w B j R YS (k+1) LN LL) (hL:dw w base gl n c LN LL) {l r:FT} {s:Nat} (ha:FT.At (aZ j) (.node l r) s) (hw:(FT.node l r).wf) (hk:(FT.node l r).root s=k) (hK:aC (fun b=>b=gl) w w') (hB:B<=w.heap.size) {vl vr vf:Value}
  (Ul:w'.ownsRow w.heap.size 27 1 vl ((nl YS (.node l r)).filter fun i=>decide (i<l.hi)).length ((((nl YS (.node l r)).filter fun i=>decide (i<l.hi)).map (ko R)).map (Value.int .u32)))
  (hvr:w'.ownsRow w.heap.size 27 1 vr ((nl YS (.node l r)).filter fun i=>!decide (i<l.hi)).length ((((nl YS (.node l r)).filter fun i=>!decide (i<l.hi)).map (ko R)).map (Value.int .u32)))
  (hvf:w'.ownsRow w.heap.size 3 1 vf (lf l.hi (nl YS (.node l r))).length ((lf l.hi (nl YS (.node l r))).map (Value.int .i64))) (hne:∀g,vl.ownBlock=some g->vr.ownBlock≠some g):
  Be w' B j R YS k (upd (upd LN (l.root s) vl) (r.root (s+l.size)) vr) (upd LL k vf):=by
 have hj:=lS ha;have Ru:=FT.yU l r s;have Um:=ha.left.lt;have acV:=ha.right.lt;have Dg:=FT.BU (fQ hj▸ha);rw[mh hj]at Dg;have huq:∀l' r' q,FT.At (aZ j) (.node l' r') q->(FT.node l' r').root q=k->l'=l/\r'=r/\q=s:=fun l' r' q h1 h2=>by
  obtain⟨e1,e2⟩:=FT.At.unique h1 ha (by rw[h2,hk]);cases e1;exact⟨rfl,rfl,e2⟩
 have hot:∀l' r' q,FT.At (aZ j) (.node l' r') q->(FT.node l' r').root q≠k->l'.root q≠l.root s/\l'.root q≠r.root (s+l.size)/\r'.root (q+l'.size)≠l.root s/\r'.root (q+l'.size)≠r.root (s+l.size):=fun l' r' q h1 h2=>by
  have hu:=fun e=>h2 ((FT.Pw (fQ hj▸h1) (fQ hj▸ha) e).trans hk);exact⟨fun e=>hu (.inl e),fun e=>hu (.inr (.inl e)),fun e=>hu (.inr (.inr (.inl e))),fun e=>hu (.inr (.inr (.inr e)))⟩
 have hsz:=hK.size;have amd:=Ul.lt;have ame:=hvr.lt;have ahn:=hvf.lt;have Yc:∀{v:Value} {m:Nat} {xs:List Value},w.ownsRow B 27 1 v m xs->w'.ownsRow B 27 1 v m xs:=fun h3=>aY h3 hK fun g e1 e2=>bK hL h3 (by decide) g (by rw[e2];rfl) e1;have amf:∀{v:Value} {m:Nat} {xs:List Value},w.ownsRow B 3 1 v m xs->w'.ownsRow B 3 1 v m xs:=fun h3=>aY h3 hK fun g e1 e2=>bK hL h3 (by decide) g (by rw[e2];rfl) e1;refine⟨fun t s' h1 h2=>?_,fun l' r' q h1 h2=>?_,fun l' r' q h1 h2=>?_,fun i h1 h2=>?_,fun i h1=>?_,fun i h1 g h2=>?_,fun i i' h1 h2 h3 g h4 h5=>?_,fun i i' h1 h2 h3 g h4 h5=>?_⟩
 .rcases h2 with h2|⟨l',r',q,a1,a2,a3⟩
  .rw[h2,upd_ne (jb Dg.2),upd_ne (jb Dg.1),<-h2];exact Yc (h.fil t s' h1 (.inl h2))
  .by_cases e:(FT.node l' r').root q=k
   .obtain⟨rfl,rfl,rfl⟩:=huq l' r' q a1 e;rcases a3 with⟨rfl,rfl⟩|⟨rfl,rfl⟩
    .rw[upd_ne (by omega),upd_same,uW YS t r' hw];exact bR Ul hB
    .rw[upd_same,qm YS l' t hw];exact bR hvr hB
   .obtain⟨b1,b2,b3,b4⟩:=hot l' r' q a1 e;have h3:=h.fil t s' h1 (.inr ⟨l',r',q,a1,by omega,a3⟩);rcases a3 with⟨rfl,rfl⟩|⟨rfl,rfl⟩
    .rw[upd_ne b2,upd_ne b1];exact Yc h3
    .rw[upd_ne b4,upd_ne b3];exact Yc h3
 .obtain⟨b1,b2,b3,b4⟩:=hot l' r' q h1 (by omega);obtain⟨c1,c2⟩:=h.emp l' r' q h1 (by omega);rw[upd_ne b2,upd_ne b1,upd_ne b4,upd_ne b3];exact⟨c1,c2⟩
 .by_cases e:(FT.node l' r').root q=k
  .obtain⟨rfl,rfl,rfl⟩:=huq l' r' q h1 e;rw[e,upd_same];exact bR hvf hB
  .rw[upd_ne e];exact amf (h.Em l' r' q h1 (by omega))
 .by_cases e:i=k
  .subst e;rw[upd_same];obtain⟨a1,c1,e1⟩:=fI hvf;exact⟨⟨_,_,_,e1⟩,fun g hg=>by have:=ahn g hg;omega⟩
  .rw[upd_ne e];obtain⟨a1,a2⟩:=h.G6 i h1 (by omega);exact⟨a1,fun g hg=>by have:=a2 g hg;omega⟩
 .rw[upd_ne (by omega)];exact h.nil i (by omega)
 .by_cases e:i=r.root (s+l.size)
  .subst e;rw[upd_same]at h2;have:=ame g h2;omega
  .rw[upd_ne e]at h2;by_cases e2:i=l.root s
   .subst e2;rw[upd_same]at h2;have:=amd g h2;omega
   .rw[upd_ne e2]at h2;have:=h.ac4 i h1 g h2;omega
 .have cls:∀i,i<(aZ j).length->∀g,(upd (upd LN (l.root s) vl) (r.root (s+l.size)) vr i).ownBlock=some g->(i=r.root (s+l.size)/\vr.ownBlock=some g/\w.heap.size<=g)\/(i=l.root s/\vl.ownBlock=some g/\w.heap.size<=g)\/(i≠l.root s/\i≠r.root (s+l.size)/\(LN i).ownBlock=some g/\g<w.heap.size):=fun i hi g hg=>by
   by_cases e:i=r.root (s+l.size)
   .subst e;rw[upd_same]at hg;exact .inl ⟨rfl,hg,(ame g hg).1⟩
   .rw[upd_ne e]at hg;by_cases e2:i=l.root s
    .subst e2;rw[upd_same]at hg;exact .inr (.inl ⟨rfl,hg,(amd g hg).1⟩)
    .rw[upd_ne e2]at hg;exact .inr (.inr ⟨e2,e,hg,(h.ac4 i hi g hg).2⟩)
  rcases cls i h1 g h4 with⟨a1,a2,a3⟩|⟨a1,a2,a3⟩|⟨a0,a1,a2,a3⟩<;>rcases cls i' h2 g h5 with⟨b1,b2,b3⟩|⟨b1,b2,b3⟩|⟨b0,b1,b2,b3⟩
  .omega
  .exact hne g b2 a2
  .omega
  .exact hne g a2 b2
  .omega
  .omega
  .omega
  .omega
  .exact h.NV i i' h1 h2 h3 g a2 b2
 .have old:∀i,i<(aZ j).length->i≠k->∀g,(LL i).ownBlock=some g->g<w.heap.size:=fun i hi hne g hg=>by
   by_cases e:i<k
   .rw[h.nil i (by omega)]at hg;cases hg
   .exact((h.G6 i hi (by omega)).2 g hg).2
  by_cases e:i=k
  .subst e;rw[upd_same]at h4;rw[upd_ne (jb h3)]at h5;have:=old i' h2 (jb h3) g h5;have:=ahn g h4;omega
  .rw[upd_ne e]at h4;by_cases e':i'=k
   .subst e';rw[upd_same]at h5;have:=old i h1 e g h4;have:=ahn g h5;omega
   .rw[upd_ne e']at h5;exact h.Mf i i' h1 h2 h3 g h4 h5
theorem Be.cur (h:Be w B j R YS (k+1) LN LL) {t:FT} {s:Nat} (ha:FT.At (aZ j) t s) (hk:k<=t.root s):w.ownsRow B 27 1 (LN (t.root s)) (nl YS t).length (((nl YS t).map (ko R)).map (Value.int .u32)):=by
 have hj:=lS ha;refine h.fil t s ha ?_;rcases FT.XN (fQ hj▸ha)with⟨rfl,rfl⟩|⟨l,r,q,h1,h2⟩
 .exact .inl (mh hj)
 .refine .inr ⟨l,r,q,fQ hj▸h1,?_,h2⟩;have:=FT.yU l r q;rcases h2 with⟨rfl,rfl⟩|⟨rfl,rfl⟩<;>omega
theorem Be.all (h:Be w B j R YS 0 LN LL) {t:FT} {s:Nat} (ha:FT.At (aZ j) t s):w.ownsRow B 27 1 (LN (t.root s)) (nl YS t).length (((nl YS t).map (ko R)).map (Value.int .u32)):=by
 have hj:=lS ha;refine h.fil t s ha ?_;rcases FT.XN (fQ hj▸ha)with⟨rfl,rfl⟩|⟨l,r,q,h1,h2⟩
 .exact .inl (mh hj)
 .exact .inr ⟨l,r,q,fQ hj▸h1,bC _,h2⟩
end
end Go.Proofs.YtkjdbndekceffaaGreat
