/- Made small by a program. -/
import Derived.Test.YtkjdbndekceffaaGreatV05
set_option linter.unusedSimpArgs false
set_option linter.unusedVariables false
set_option maxRecDepth 100000
set_option maxHeartbeats 16000000
namespace Go.Proofs.YtkjdbndekceffaaGreat
open Tryz
section
open Go
namespace FT
theorem At.unique {N:List Nd}:∀{t b:FT} {s c:Nat},At N t s->At N b c->t.root s=b.root c->t=b/\s=c
 |leaf a,b,s,c,h,h',e=>by
  have g:=h.get;rw[e,h'.get]at g;injection g with g;cases b with
  |leaf a'=>
   simp only[top,Nd.mk.injEq]at g;obtain⟨-,-,-,k,-⟩:=g;have d:a'=a:=aa;subst d;unfold root at e;simp only[size]at e;exact⟨rfl,aa⟩
  |node l r=>
   simp only[top,Nd.mk.injEq]at g;omega
 |node l r,b,s,c,h,h',e=>by
  have g:=h.get;rw[e,h'.get]at g;injection g with g;cases b with
  |leaf a'=>
   simp only[top,Nd.mk.injEq]at g;omega
  |node l' f=>
   simp only[top,Nd.mk.injEq]at g;obtain⟨-,i,j,-⟩:=g;have m:=l.size_pos;have n:=l'.size_pos;have o:=r.size_pos;have p:=f.size_pos;obtain⟨rfl,rfl⟩:=At.unique h.left h'.left (by unfold root;omega);obtain⟨rfl,-⟩:=At.unique h.right h'.right (by unfold root;omega);exact⟨rfl,rfl⟩
def subs:FT->Nat->List (FT×Nat)
 |leaf a,s=>[(leaf a,s)]
 |node l r,s=>l.subs s++r.subs (s+l.size)++[(node l r,s)]
theorem fO:∀(t:FT) (s:Nat),(t.subs s).length=t.size
 |leaf a,s=>rfl
 |node l r,s=>by simp only[subs,size,bQ,fO l,fO r,eH,fE]
theorem pY:∀(t:FT) (s i:Nat) (h:i<(t.subs s).length),(t.subs s)[i].1.root (t.subs s)[i].2=s+i
 |leaf a,s,i,h=>by
  have:i=0:=by simpa[subs]using h
  subst this;simp[subs,root,size]
 |node l r,s,i,h=>by
  have h':=h;rw[fO]at h';simp only[subs];by_cases b:i<l.size
  .rw[rJ (by rw[bQ,fO,fO];omega),rJ (by rw[fO];exact b)];exact pY l s i _
  .by_cases d:i<l.size+r.size
   .rw[rJ (by rw[bQ,fO,fO];omega),uZ (by rw[fO];omega)];have c:=pY r (s+l.size) (i-(l.subs s).length) (by rw[fO,fO];omega);rw[c,fO];omega
   .simp only[size]at h';rw[uZ (by rw[bQ,fO,fO];omega)];simp only[List.getElem_singleton];unfold root;simp only[size];omega
theorem lG {N:List Nd}:∀(t:FT) (s:Nat),At N t s->∀p∈t.subs s,At N p.1 p.2
 |leaf a,s,h,p,hp=>by
  have:p=(leaf a,s):=by simpa[subs]using hp
  subst this;exact h
 |node l r,s,h,p,hp=>by
  simp only[subs,bW,lS]at hp;rcases hp with(hp|hp)|hp
  .exact lG l s h.left p hp
  .exact lG r _ h.right p hp
  .subst hp;exact h
theorem at_mem {t:FT} {b:FT} {a:Nat} (h:At (t.nodes 0) b a):(b,a)∈t.subs 0:=by
 have j:At (t.nodes 0) t 0:=⟨[],[],ax,rfl⟩;have d:=h.lt;rw[iR]at d;have c:b.root a<(t.subs 0).length:=by rw[fO];exact d
 have g:=pY t 0 _ c;have i:=lG t 0 j _ (bC c);have⟨e,f⟩:=At.unique h i (by rw[g];omega);have:(b,a)=(t.subs 0)[b.root a]:=Prod.ext e f;rw[this];exact bC c
theorem Cz:∀(t:FT) (s:Nat),∀p∈t.subs s,p=(t,s)\/∃l r q,(node l r,q)∈t.subs s/\(p=(l,q)\/p=(r,q+l.size))
 |leaf a,s,p,hp=>.inl (by simpa[subs]using hp)
 |node l r,s,p,hp=>by
  simp only[subs,bW,lS]at hp |-;rcases hp with(hp|hp)|hp
  .rcases Cz l s p hp with h|⟨l',d,q,b,c⟩
   .exact .inr ⟨l,r,s,.inr rfl,.inl h⟩
   .exact .inr ⟨l',d,q,.inl (.inl b),c⟩
  .rcases Cz r _ p hp with h|⟨l',d,q,b,c⟩
   .exact .inr ⟨l,r,s,.inr rfl,.inr h⟩
   .exact .inr ⟨l',d,q,.inl (.inr b),c⟩
  .exact .inl hp
def pars:FT->Nat->Nat->List Nat
 |leaf _,_,p=>[p]
 |node l r,s,p=>l.pars s ((node l r).root s)++r.pars (s+l.size) ((node l r).root s)++[p]
theorem jq:∀(t:FT) (s p:Nat),(t.pars s p).length=t.size
 |leaf a,s,p=>rfl
 |node l r,s,p=>by simp only[pars,size,bQ,jq l,jq r,eH,fE]
theorem EE:∀(t:FT) (s p:Nat),(t.pars s p)[t.root s-s]? =some p
 |leaf a,s,p=>by simp[pars,root,size]
 |node l r,s,p=>by
  have e:(node l r).root s-s=l.size+r.size:=by unfold root;simp only[size];omega
  rw[e];simp only[pars];rw[nV (by rw[bQ,jq,jq];omega),bQ,jq,jq,jh];rfl
theorem uH:∀(t:FT) (s:Nat),∀p∈t.subs s,s<=p.2/\p.2+p.1.size<=s+t.size
 |leaf a,s,p,hp=>by
  have:p=(leaf a,s):=by simpa[subs]using hp
  subst this;exact⟨aA _,aA _⟩
 |node l r,s,p,hp=>by
  simp only[subs,bW,lS]at hp;simp only[size];rcases hp with(hp|hp)|hp
  .have:=uH l s p hp;omega
  .have:=uH r _ p hp;omega
  .subst hp;simp only[size];omega
theorem Ke {l r:FT} {s p i:Nat} (h:i<l.size):((node l r).pars s p)[i]? =(l.pars s ((node l r).root s))[i]? :=by
 simp only[pars];rw[dW,mr (by rw[jq];exact h)]
theorem Kg {l r:FT} {s p i:Nat} (a:l.size<=i) (h:i<l.size+r.size):((node l r).pars s p)[i]? =(r.pars (s+l.size) ((node l r).root s))[i-l.size]? :=by
 simp only[pars];rw[mr (by rw[bQ,jq,jq];exact h),nV (by rw[jq];exact a),jq]
theorem xJ:∀(t:FT) (s p:Nat) (l r:FT) (q:Nat),(node l r,q)∈t.subs s->(t.pars s p)[l.root q-s]? =some ((node l r).root q)/\(t.pars s p)[r.root (q+l.size)-s]? =some ((node l r).root q)
 |leaf a,s,p,l,r,q,h=>by simp[subs]at h
 |node b e,s,p,l,r,q,h=>by
  simp only[subs,bW,lS]at h;have pl:=l.size_pos;have k:=r.size_pos;have j:=b.size_pos;have m:=e.size_pos;have g:l.root q=q+l.size-1:=rfl;have i:r.root (q+l.size)=q+l.size+r.size-1:=rfl;rcases h with(h|h)|h
  .obtain⟨c,d⟩:=xJ b s ((node b e).root s) l r q h;have f:=uH b s _ h;simp only[size]at f;rw[Ke aa,Ke aa];exact⟨c,d⟩
  .obtain⟨c,d⟩:=xJ e _ ((node b e).root s) l r q h;have f:=uH e _ _ h;simp only[size]at f;rw[Kg aa aa,Kg aa aa];rw[show l.root q-s-b.size=l.root q-(s+b.size) by omega,show r.root (q+l.size)-s-b.size=r.root (q+l.size)-(s+b.size) by omega];exact⟨c,d⟩
  .simp only[vX,node.injEq]at h;obtain⟨⟨rfl,rfl⟩,rfl⟩:=h;have c:=EE l q ((node l r).root q);have d:=EE r (q+l.size) ((node l r).root q);rw[Ke aa,Kg aa aa];rw[show r.root (q+l.size)-q-l.size=r.root (q+l.size)-(q+l.size) by omega];exact⟨c,d⟩
theorem Kh {t l r l' d:FT} {q c:Nat} (h:At (t.nodes 0) (node l r) q) (h':At (t.nodes 0) (node l' d) c)
  (e:l.root q=l'.root c\/l.root q=d.root (c+l'.size)\/r.root (q+l.size)=l'.root c\/r.root (q+l.size)=d.root (c+l'.size)):(node l r).root q=(node l' d).root c:=by
 have⟨a,b⟩:=xJ t 0 0 l r q (at_mem h);have⟨f,g⟩:=xJ t 0 0 l' d c (at_mem h');rcases e with e|e|e|e
 .rw[e,f]at a;injection a with a;exact a.symm
 .rw[e,g]at a;injection a with a;exact a.symm
 .rw[e,f]at b;injection b with b;exact b.symm
 .rw[e,g]at b;injection b with b;exact b.symm
theorem xK (l r:FT) (q:Nat):l.root q<r.root (q+l.size)/\r.root (q+l.size)<(node l r).root q:=by
 have:=l.size_pos;have:=r.size_pos;unfold root;simp only[size];omega
theorem Al {t l r:FT} {q:Nat} (h:At (t.nodes 0) (node l r) q):l.root q≠t.root 0/\r.root (q+l.size)≠t.root 0:=by
 have a:=uH t 0 _ (at_mem h);simp only[size]at a;have:=r.size_pos;unfold root;omega
theorem Ps {t b:FT} {a:Nat} (h:At (t.nodes 0) b a):(b=t/\a=0)\/∃l r q,At (t.nodes 0) (node l r) q/\((b=l/\a=q)\/(b=r/\a=q+l.size)):=by
 have c:At (t.nodes 0) t 0:=⟨[],[],ax,rfl⟩;rcases Cz t 0 _ (at_mem h)with h1|⟨l,r,q,h1,h2⟩
 .simp only[vX]at h1;exact .inl h1
 .refine .inr ⟨l,r,q,lG t 0 c _ h1,?_⟩;simpa only[vX]using h2
theorem q8:∀(t:FT) (s:Nat),t.wf->∀p∈t.subs s,p.1.wf
 |leaf a,s,h,p,hp=>by
  have:p=(leaf a,s):=by simpa[subs]using hp
  subst this;exact h
 |node l r,s,h,p,hp=>by
  simp only[subs,bW,lS]at hp;rcases hp with(hp|hp)|hp
  .exact q8 l s h.1 p hp
  .exact q8 r _ h.2.1 p hp
  .subst hp;exact h
theorem Be:∀(t:FT) (s:Nat),t.wf->∀p∈t.subs s,p.1.hi<=t.hi
 |leaf a,s,h,p,hp=>by
  have:p=(leaf a,s):=by simpa[subs]using hp
  subst this;exact aA _
 |node l r,s,h,p,hp=>by
  simp only[subs,bW,lS]at hp;have b:=fF r h.2.1;have c:=h.2.2;show _<=r.hi;rcases hp with(hp|hp)|hp
  .have:=Be l s h.1 p hp;omega
  .exact Be r _ h.2.1 p hp
  .subst hp;exact aA _
end FT
def eF (YS:List Nat) (x:Nat):List Nat:=YS.filter fun i=>decide (i≠x)
theorem erase_filter {L:List Nat} (c:L.Nodup) {i x:Nat} (hi:i<L.length) (b:L[i]=x):L.eraseIdx i=L.filter fun k=>decide (k≠x):=by
 induction L generalizing i with
 |nil=>simp at hi
 |cons a L ih=>
  rw[mF]at c;cases i with
  |zero=>
   simp only[ni]at b;subst b;rw[List.eraseIdx_cons_zero,yK ax];symm;refine kV.2 fun k e=>?_;simp only[bO];rintro rfl;exact c.1 e
  |succ i=>
   simp only[vJ]at b;have d:i<L.length:=aQ hi;rw[List.eraseIdx_cons_succ,Fg,ih c.2 d b];simp only[bO];rintro rfl;exact c.1 (b▸bC d)
theorem LK (YS:List Nat) (x:Nat) (t:FT):nl (eF YS x) t=(nl YS t).filter fun k=>decide (k≠x):=by
 unfold nl eF;rw[sK,sK];refine l9 fun k _=>?_;rw[Bool.and_comm]
theorem xL {YS:List Nat} {x:Nat} {t:FT} (h:¬(t.lo<=x/\x<t.hi)):nl (eF YS x) t=nl YS t:=by
 rw[LK];refine kV.2 fun k a=>?_;have:=(bI.1 a).2;simp only[bO]at this |-;rintro rfl;exact h this
theorem Na {YS:List Nat} (a:YS.Nodup) {x i:Nat} {t:FT} (hi:i<(nl YS t).length) (b:(nl YS t)[i]=x):nl (eF YS x) t=(nl YS t).eraseIdx i:=by
 rw[LK];exact(erase_filter (L:=nl YS t) (show(nl YS t).Nodup from mD _ a) hi b).symm
section
variable {m:Nat} {L:List Nat} {i x:Nat}
theorem uI (hi:i<L.length):((lf m L).eraseIdx (i+1)).length=L.length:=by
 rw[Br,tL,aO aa];omega
theorem xM (hi:i<L.length):(lf m (L.eraseIdx i)).length=L.length:=by
 rw[tL,Br,aO hi];omega
theorem D5 {j:Nat} (a:j<=i):(L.eraseIdx i).take j=L.take j:=by
 by_cases h:i<L.length
 .rw[yG,yH (by rw[dO];omega),Ca,Nat.min_eq_left a]
 .rw[List.eraseIdx_of_length_le aa]
theorem VP (hi:i<L.length) {j:Nat} (a:j<=i) (b:j<((lf m L).eraseIdx (i+1)).length) (c:j<(lf m (L.eraseIdx i)).length):((lf m L).eraseIdx (i+1))[j]=(lf m (L.eraseIdx i))[j]:=by
 rw[List.getElem_eraseIdx,dif_pos aa,qO,qO,D5 a]
theorem VQ (hi:i<L.length) (e:L[i]=x) {j:Nat} (k:i<j) (f:j<((lf m L).eraseIdx (i+1)).length) (g:j<(lf m (L.eraseIdx i)).length):((lf m L).eraseIdx (i+1))[j]-(if x<m then 1 else 0)=(lf m (L.eraseIdx i))[j]:=by
 have a:(L.take (j+1)).countP (fun i=>decide (i<m))=((L.eraseIdx i).take j).countP (fun i=>decide (i<m))+(if x<m then 1 else 0):=by
  have b:(L.eraseIdx i).take j=(L.take (j+1)).eraseIdx i:=by
   rw[yG,yG,List.take_append,Ca,dO,Ca,List.drop_take];rw[show min j i=i by omega,show min i (j+1)=i by omega,show j-min i L.length=j+1-(i+1) by omega]
  rw[b,yG,List.countP_append];have l:i<(L.take (j+1)).length:=by rw[dO];omega
  have c:L.take (j+1)=(L.take (j+1)).take i++x::(L.take (j+1)).drop (i+1):=by
   have d:(L.take (j+1))[i]=x:=by rw[qx];exact e
   rw[<-d,List.getElem_cons_drop,jd]
  conv=>lhs;rw[c]
  rw[List.countP_append,vS];by_cases h:x<m<;>simp[h]<;>omega
 rw[List.getElem_eraseIdx,dif_neg aa,qO,qO,a];split<;>simp
theorem R3 (hi:i<L.length) (a:L[i]=x) (b:i+1<(lf m L).length) (c:i<(lf m L).length):(lf m L)[i+1]-(lf m L)[i]=if x<m then 1 else 0:=by
 rw[qO,qO,gT hi,List.countP_append,a];by_cases h:x<m<;>simp[h]<;>omega
def AP (m:Nat) (L:List Nat) (i j:Nat):List Int:=(lf m (L.eraseIdx i)).take j++((lf m L).eraseIdx (i+1)).drop j
theorem Nb (hi:i<L.length):AP m L i (i+1)=(lf m L).eraseIdx (i+1):=by
 have b:=uI (m:=m) hi;have c:=xM (m:=m) hi;unfold AP;have e:(lf m (L.eraseIdx i)).take (i+1)=((lf m L).eraseIdx (i+1)).take (i+1):=by
  refine sO (by simp[b,c]) fun j a d=>?_;rw[qx,qx];rw[dO]at a;exact(VP hi aa _ _).symm
 rw[e,jd]
theorem Pv (hi:i<L.length):AP m L i L.length=lf m (L.eraseIdx i):=by
 have a:=uI (m:=m) hi;have b:=xM (m:=m) hi;unfold AP;rw[jc aa,o8 aa,je]
theorem q9 (hi:i<L.length) {j:Nat} (c:j<=L.length):(AP m L i j).length=L.length:=by
 have a:=uI (m:=m) hi;have b:=xM (m:=m) hi;unfold AP;rw[bQ,dO,mg];omega
theorem LM (hi:i<L.length) {j:Nat} (a:j<L.length):(AP m L i j)[j]'(by rw[q9 hi aa];exact a)=((lf m L).eraseIdx (i+1))[j]'(by rw[uI hi];exact a):=by
 have b:=xM (m:=m) hi;simp only[AP];rw[uZ (by rw[dO];omega),List.getElem_drop];congr 1;rw[dO];omega
theorem Pw (hi:i<L.length) (c:L[i]=x) {j:Nat} (b:i<j) (a:j<L.length):(AP m L i j).set j ((AP m L i j)[j]'(by rw[q9 hi aa];exact a)-(if x<m then 1 else 0))=AP m L i (j+1):=by
 have d:=uI (m:=m) hi;have e:=xM (m:=m) hi;rw[LM hi a,VQ hi c b aa aa];unfold AP;rw[su _ _ (by rw[dO];omega),dO,show j-min j (lf m (L.eraseIdx i)).length=0 by omega];rw[gT aa,dW];congr 1;rw[ky aa];rfl
end
namespace FT
theorem tX:∀(t:FT) (s:Nat),t.wf->∀p∈t.subs s,t.lo<=p.1.lo/\p.1.hi<=t.hi
 |leaf a,s,h,p,hp=>by
  have:p=(leaf a,s):=by simpa[subs]using hp
  subst this;exact⟨aA _,aA _⟩
 |node l r,s,h,p,hp=>by
  simp only[subs,bW,lS]at hp;have b:=fF r h.2.1;have d:=fF l h.1;have c:=h.2.2;show l.lo<=_/\_<=r.hi;rcases hp with(hp|hp)|hp
  .have:=tX l s h.1 p hp;omega
  .have:=tX r _ h.2.1 p hp;omega
  .subst hp;exact⟨aA _,aA _⟩
theorem xN:∀(t:FT) (s x:Nat),t.wf->∀p∈t.subs s,p.1.lo<=x->x<p.1.hi->p.1.root p.2∈t.path s x
 |leaf a,s,x,h,p,hp,b,c=>by
  have:p=(leaf a,s):=by simpa[subs]using hp
  subst this;simp[path,root,size]
 |node l r,s,x,h,p,hp,b,c=>by
  simp only[subs,bW,lS]at hp;rw[path];rcases hp with(hp|hp)|hp
  .have:=tX l s h.1 p hp;rw[aO aa];exact lM _ (xN l s x h.1 p hp b c)
  .have:=tX r _ h.2.1 p hp;have:=h.2.2;rw[aN aa];exact lM _ (xN r _ x h.2.1 p hp b c)
  .subst hp;exact ny
theorem nM:∀(t:FT) (s x:Nat),t.wf->t.lo<=x->x<t.hi->∀k∈t.path s x,∃p∈t.subs s,p.1.root p.2=k/\p.1.lo<=x/\x<p.1.hi
 |leaf a,s,x,h,b,c,k,hk=>by
  have:k=s:=by simpa[path]using hk
  subst this;exact⟨(leaf a,k),by simp[subs],by simp[root,size],b,c⟩
 |node l r,s,x,h,b,c,k,hk=>by
  rw[path,gW]at hk;have f:=h.2.2;rcases hk with rfl|hk
  .exact⟨(node l r,s),by simp[subs],rfl,b,c⟩
  .split at hk
   .rename_i d;have⟨p,hp,e⟩:=nM l s x h.1 b d k hk;exact⟨p,by simp[subs,hp],e⟩
   .rename_i d;have⟨p,hp,e⟩:=nM r _ x h.2.1 aa c k hk;exact⟨p,by simp[subs,hp],e⟩
theorem uJ:∀(t:FT) (s x:Nat),t.wf->t.lo<=x->x<t.hi->(t.path s x).Pairwise (·>·)
 |leaf a,s,x,h,c,d=>by simp[path]
 |node l r,s,x,h,c,d=>by
  have j:=h.2.2;have g:∀(t:FT) (s:Nat),∀p∈t.subs s,p.1.root p.2<=t.root s:=fun t s p hp=>by
   have:=uH t s p hp;have:=p.1.size_pos;have:=t.size_pos;unfold root;omega
  have m:=xK l r s;by_cases b:x<l.hi
  .rw[path,aO b,lQ];refine⟨fun k f=>?_,uJ l s x h.1 c b⟩;obtain⟨p,hp,e,-⟩:=nM l s x h.1 c b k f;have:=g l s p hp;omega
  .have i:r.lo<=x:=aa;rw[path,aN b,lQ];refine⟨fun k f=>?_,uJ r _ x h.2.1 i d⟩;obtain⟨p,hp,e,-⟩:=nM r _ x h.2.1 i d k f;have:=g r _ p hp;omega
end FT
theorem dm.drop {R:List Pt} {gone:List Bool} {YS:List Nat} (h:dm R gone YS) {x:Nat} (c:gone[x]? =some false):dm R (gone.set x true) (eF YS x):=by
 have b:=(fI.1 c).1;refine⟨h.Cm,h.ids,by rw[nu];exact h.VG,mD _ h.nodup,fun i=>?_,mD _ h.Vw⟩;unfold eF;rw[bI,h.live,bO,List.getElem?_set];by_cases e:x=i
 .subst e;simp[b]
 .rw[aN e];exact⟨fun h=>h.1,fun h=>⟨h,fun a=>e a.symm⟩⟩
end
section
open Go Go.RowKit
def sj (x1 x2 y1 y2:Int) (p:Pt):Bool:=decide (x1<=p.1/\p.1<=x2/\y1<=p.2.1/\p.2.1<=y2)
def hasB (l:List Pt) (x1 x2 y1 y2:Int):List Int:=dh (ids (l.filter (sj x1 x2 y1 y2)))
structure tY (R:List Pt) (YS:List Nat) (l:List Pt):Prop where
 jD:(ids l).Nodup
 mem:∀p,p∈l↔∃i∈YS,cu R i=p
theorem tZ {l:List Int} (f:l.Pairwise (·<=·)) (x:Int) {i:Nat} (hi:i<l.length):(aZ l x).1<=i↔x<=l[i]:=by
 have⟨g,c,d⟩:=mP (fun i=>decide (x<=l.getD i 0)) l.length (fun i j k b hi=>by
  by_cases e:i=j
  .exact e▸hi
  .have:=gH.1 f i j aa b aa;simp[b,show i<l.length by omega]at hi |-;omega) l.length 0 l.length 0 aa aa (aA _) aa aa
 constructor
 .intro h;have:=d i h hi;simpa[hi]using this
 .intro h;by_cases a:(aZ l x).1<=i
  .exact a
  .have:=c i (by unfold aZ at a;omega);simp[hi]at this;omega
theorem uf {l:List Int} (f:l.Pairwise (·<=·)) (x:Int) {i:Nat} (hi:i<l.length):i<(aV l x).1↔l[i]<=x:=by
 have⟨g,c,d⟩:=mP (fun i=>decide (x<l.getD i 0)) l.length (fun i j k b hi=>by
  by_cases e:i=j
  .exact e▸hi
  .have:=gH.1 f i j aa b aa;simp[b,show i<l.length by omega]at hi |-;omega) l.length 0 l.length 0 aa aa (aA _) aa aa
 constructor
 .intro h;have:=c i h;simpa[hi]using this
 .intro h;by_cases a:i<(aV l x).1
  .exact a
  .have:=d i (by unfold aV at a;omega) hi;simp[hi]at this;omega
theorem dm.UC {R:List Pt} {gone:List Bool} {YS:List Nat} (h:dm R gone YS):(cz R).Pairwise (·<=·):=dF.2 (h.Cm.imp fun h=>by unfold kY at h;omega)
section
variable {R:List Pt} {gone:List Bool} {YS:List Nat} {l:List Pt}
theorem dK {i:Nat} (hi:i<R.length):cu R i=R[i]:=by simp[cu,hi]
theorem xO (c:dm R gone YS) (x1 x2 y1 y2:Int) (i:Nat):i∈(kS R YS x1 x2 y1 y2).1↔i∈YS/\sj x1 x2 y1 y2 (cu R i)=true:=by
 unfold kS;split
 .rename_i h;refine⟨fun k=>absurd k iO,fun⟨j,d⟩=>?_⟩;have hi:=c.lt j;rcases h with h|h|h
  .subst h;simp at hi
  .unfold sj at d;simp at d;omega
  .unfold sj at d;simp at d;omega
 .rename_i h;have e:0<R.length:=by
   cases R with
   |nil=>simp at h
   |cons a b=>simp
  have m:y1<=y2:=aa;have⟨w1,w2,w3⟩:=bR 0 R.length e;show i∈(down _ _ _ _ _ _ _).1↔_;rw[xx _ w1 c.le m i,c.top e];refine and_congr_right fun hi=>?_;have f:=c.lt hi;have g:i<(cz R).length:=by unfold cz;simpa using f
  have l:(cz R)[i]=(cu R i).1:=by rw[dK f];simp[cz]
  rw[tZ c.UC x1 g,uf c.UC x2 g,l];unfold sj l7;simp only[bO]
theorem Ki (c:dm R gone YS) (x1 x2 y1 y2:Int):(kS R YS x1 x2 y1 y2).1.Nodup:=by
 unfold kS;split
 .exact qD
 .rename_i h;have d:0<R.length:=by
   cases R with
   |nil=>simp at h
   |cons a b=>simp
  have e:y1<=y2:=aa;have⟨w1,w2,w3⟩:=bR 0 R.length d;exact Ck _ w1 c.nodup c.le e
theorem Gd (b:dm R gone YS) {i k:Nat} (hi:i<R.length) (a:k<R.length) (e:ku R i=ku R k):i=k:=by
 unfold ku at e;rw[dK hi,dK a]at e;have hid:=dF.1 b.ids;rcases Nat.lt_trichotomy i k with h|h|h
 .exact absurd e (gH.1 hid i k hi a h)
 .exact h
 .exact absurd e.symm (gH.1 hid k i a hi h)
theorem Px {a b:List Int} (f:a.Nodup) (g:b.Nodup) (h:∀x,x∈a↔x∈b):dh a=dh b:=by
 have hp:a.Perm b:=(xh f g).2 h;have i:(dh a).Pairwise (·<=·):=(sH (le:=fun x y:Int=>decide (x<=y)) (fun a b c d e=>by simp at*;omega) (fun a b=>aH) a).imp (fun h=>aQ h);have j:(dh b).Pairwise (·<=·):=(sH (le:=fun x y:Int=>decide (x<=y)) (fun a b c d e=>by simp at*;omega) (fun a b=>aH) b).imp (fun h=>aQ h);exact JE (fun x y _ _ d e=>aa) i j (((pg a _).trans hp).trans (pg b _).symm)
theorem CE (a:dm R gone YS) (d:tY R YS l) (x1 x2 y1 y2:Int):dh ((kS R YS x1 x2 y1 y2).1.map (ku R))=hasB l x1 x2 y1 y2/\(kS R YS x1 x2 y1 y2).1.length=(l.filter (sj x1 x2 y1 y2)).length:=by
 have g:((kS R YS x1 x2 y1 y2).1.map (ku R)).Nodup:=by
  refine dF.2 (Bp (fun{i k} hi m h e=>h ?_) (Ki a x1 x2 y1 y2));exact Gd a (a.lt ((xO a x1 x2 y1 y2 i).1 hi).1) (a.lt ((xO a x1 x2 y1 y2 k).1 m).1) e
 have j:(ids (l.filter (sj x1 x2 y1 y2))).Nodup:=by
  have h:=dF.1 d.jD;exact dF.2 (mD _ h)
 have f:∀x,x∈(kS R YS x1 x2 y1 y2).1.map (ku R)↔x∈ids (l.filter (sj x1 x2 y1 y2)):=fun x=>by
  unfold ids;rw[dD,dD];constructor
  .rintro⟨i,hi,rfl⟩;have⟨b,c⟩:=(xO a x1 x2 y1 y2 i).1 hi;exact⟨cu R i,bI.2 ⟨(d.mem _).2 ⟨i,b,rfl⟩,c⟩,rfl⟩
  .rintro⟨p,hp,rfl⟩;have⟨b,c⟩:=bI.1 hp;obtain⟨i,hi,rfl⟩:=(d.mem p).1 b;exact⟨i,(xO a x1 x2 y1 y2 i).2 ⟨hi,c⟩,rfl⟩
 refine⟨Px g j f,?_⟩;have:=((xh g j).2 f).length_eq;unfold ids at this;simpa using this
theorem tY.len (a:dm R gone YS) (b:tY R YS l):YS.length=l.length:=by
 have f:(YS.map (ku R)).Nodup:=dF.2 (Bp (fun{i k} hi c h e=>h (Gd a (a.lt hi) (a.lt c) e)) a.nodup);have d:∀x,x∈YS.map (ku R)↔x∈ids l:=fun x=>by
  unfold ids;rw[dD,dD];constructor
  .rintro⟨i,hi,rfl⟩;exact⟨_,(b.mem _).2 ⟨i,hi,rfl⟩,rfl⟩
  .rintro⟨p,hp,rfl⟩;obtain⟨i,hi,rfl⟩:=(b.mem p).1 hp;exact⟨i,hi,rfl⟩
 have:=((xh f b.jD).2 d).length_eq;unfold ids at this;simpa using this
theorem tY.drop (d:dm R gone YS) (f:tY R YS l) {x:Nat} (b:x<R.length) (h:x∈YS):tY R (eF YS x) (l.filter fun p=>decide (p≠R[x])):=by
 refine⟨dF.2 (mD _ (dF.1 f.jD)),fun p=>?_⟩;rw[bI,bO,f.mem];unfold eF;constructor
 .rintro⟨⟨i,hi,rfl⟩,a⟩;refine⟨i,bI.2 ⟨hi,?_⟩,rfl⟩;rw[bO];rintro rfl;exact a (dK b)
 .rintro⟨i,hi,rfl⟩;have⟨c,a⟩:=bI.1 hi;refine⟨⟨i,c,rfl⟩,fun e=>?_⟩;rw[bO]at a;apply a;have g:=d.lt c;refine Gd d g b ?_;unfold ku;rw[e,dK b]
end
theorem Am {l:List Pt} (hu:(ids l).Nodup) (YS:List Nat) (h:∀i,i∈YS↔i<(fC l).length):tY (fC l) YS l:=by
 refine⟨hu,fun p=>?_⟩;rw[<-xB];constructor
 .intro hp;have⟨i,hi,e⟩:=iN hp;exact⟨i,(h i).2 hi,by rw[dK hi];exact e⟩
 .rintro⟨i,hi,rfl⟩;have:=(h i).1 hi;rw[dK this];exact bC this
end
section
open Go.RowKit
attribute [local irreducible] wpQuiet
theorem CF:eY prog 35 27 1 4:=.mk' (z:=.int .u32 0) underlying35 aL rfl ai
theorem lY (l:List Int):(dh l).Pairwise (·<=·):=
 (sH (le:=fun x y:Int=>decide (x<=y)) (fun a b c d e=>by simp at*;omega) (fun a b=>aH) l).imp (fun h=>aQ h)
theorem xP {l S:List Int} (a:S.Pairwise (·<=·)) (hp:S.Perm l):dh l=S:=
 JE (fun x y _ _ b c=>aa) (lY l) a ((pg l _).trans hp.symm)
theorem Ib {l:List Int} {i k:Nat} (hi:i<l.length) (S:List Int) (hS:S=dh (l.take i)) (f:k<=S.length) (c:∀y∈S.drop k,l[i]<=y) (a:k=0\/∃h:k-1<S.length,S[k-1]<=l[i]):fQ S k l[i]=dh (l.take (i+1)):=by
 have b:S.Pairwise (·<=·):=by rw[hS];exact lY _
 refine(xP (vo b c ?_) ?_).symm
 .intro y d;obtain⟨t,ht,rfl⟩:=iN d;rw[qx];simp at ht;rcases a with a|⟨h,a⟩
  .omega
  .by_cases e:t=k-1
   .subst e;exact a
   .have:=gH.1 b t (k-1) aa h aa;omega
 .rw[gT hi];refine(Em S k l[i]).trans (List.Perm.append_right _ ?_);rw[hS];exact pg _ _
theorem ug (a:Option Addr) (l:List Int) (n c:Nat) (w:World) (ae:l.length=n) (h:Rd (.int .u32) w a l) (ax:n<=1000000):
  aK 156 #[.slice a n c] w fun e w'=>∃v,e=.returned v/\w'.ownsRow w.heap.size 27 1 v l.length ((dh l).map (.int .u32))/\Below w.heap.size w w':=by
 subst ae;have H:=af h;clear h;go_enter func156,ntmps156;go_wp2
 go_loopw [3,4] (fun v B wr=>∃(i:Nat) (S:List Int),B=.int .i64 i/\i<=l.length/\S.length=i/\Hid (S=dh (l.take i))/\Hid (wr.ownsRow w.heap.size 27 1 v S.length (S.map (.int .u32)))/\Below w.heap.size w wr) (fun _ B _=>l.length-(intOf B).toNat)
 case atStart=>exact⟨0,[],rfl,aT _,rfl,by simp[dh,Hid],cZ _ _ _ _,aJ _ _⟩
 case round=>
  obtain⟨i,S,rfl,hi,ab,s,HO,f⟩:=hrel;by_cases O:i<l.length
  .obtain⟨av,cv,rfl,-,-,-⟩:=Rd.aD HO.o;obtain⟨b,off,W,L,M⟩:=H.o.get aa;have Q:=M i O;have q:Hid (∀k,k<=S.length->(∀y∈S.drop k,l[i]<=y)->(k=0\/∃h:k-1<S.length,S[k-1]<=l[i])->fQ S k l[i]=dh (l.take (i+1))):=fun k X Y Z=>Ib O S s.o X Y Z;clear M s;generalize l[i]=x at*;subst W;have ah:=f.size;have P:=(f.cell (p:=(ag b (off+i))) L).trans Q
   go_wp2_with (at_builtin;refine iw CF w.heap.size HO.o [.int .u32 x] rfl (by simp[Value.oneCell']) rfl _ _ rfl rfl _ rfl dE aa aa ?_;intro ay w6 A N;have I:=bH f HO.o N ah (aA _);obtain⟨g,J,rfl,t,ar,au,ac⟩:=aS A aa)
   have D:Hid (w6.ownsRow w.heap.size 27 1 (aC g (S.length+1) J) (S.length+1) ((fQ S S.length x).map (Value.int .u32))):=by
    have K:=Cg S (x:Int);show w6.ownsRow _ _ _ _ _ _;rw[K,bJ];exact A
   clear A N HO f P;unfold maxLen at ac
   go_loopw [5] (fun C wr=>∃(j:Nat) (z:Int),C=.int .i64 j/\j<=S.length/\Hid (∀y∈S.drop j,x<=y)/\Hid (wr.ownsRow w.heap.size 27 1 (aC g (S.length+1) J) (S.length+1) ((fQ S j z).map (Value.int .u32)))/\Below w.heap.size w wr) (fun C _=>(intOf C).toNat)
   case atStart=>exact⟨S.length,x,by go_num,aA _,by simp[Hid],D,I⟩
   case round=>
    clear I D;obtain⟨j,z,rfl,d,m,HO,f⟩:=hrel;have aw:=gL S j z d;have P:=(f.cell (p:=(ag b (off+i))) L).trans Q;have U:=HO.o.cellAt j aa;have f1:=HO.o.frozenAt j;rw[ib,cK aa,Ch S j z d,eP]at U;have G:Hid (((fQ S j z).map (Value.int .u32)).set j (ak x)=(fQ S j x).map (Value.int .u32)):=by
     show _=_;rw[<-xm S j z x d,jg]
    by_cases ad:0<j
    .have V:=HO.o.cellAt (j-1) aa;rw[ib,cK aa,zl S j z aa d,eP]at V;have F:Hid (((fQ S j z).map (Value.int .u32)).set j (ak S[j-1])=(fQ S (j-1) S[j-1]).map (Value.int .u32)):=by
      show _=_;rw[<-wD S j z aa d,jg]
     have K:((j:Int)-1).toNat=j-1:=aa;have ai:(0:Int)<=(j:Int)-1:=aa;have aj:(j:Int)<(S.length:Int)+1:=aa;have al:(j:Int)-1<=(S.length:Int):=aa;have am:(j:Int)<=(S.length:Int)+1:=aa;have an:(1:Int)<=(j:Int):=aa;have ao:j<=S.length+1:=aa;have ap:1<=j:=aa;have aq:decide (0<j)=true:=by simp[ad]
     by_cases u:x<S[j-1]
     .have T:Hid (∀y∈S.drop (j-1),x<=y):=by
       intro y R;rw[ky aa,show j-1+1=j by omega]at R;rcases gW.1 R with h|h
       .omega
       .exact m.o y h
      have d1:decide (x<S[j-1])=true:=by simp[u]
      clear m u q;generalize S[j-1]=y at*;go_wp2
      go_quiet (fail)
      go_wp2;go_roundw
      case rel=>
       refine⟨j-1,y,by go_num,aa,T,?_,(f.trans (Below.aX _ _)).setCell t _⟩;show World.ownsRow _ _ _ _ _ _ _;rw[<-F.o];exact((HO.o.aX _).stored j _).1
      case measure=>exact bZ
     .have d1:decide (x<S[j-1])=false:=aH;have r:=af (q.o j d m.o (.inr ⟨aa,aa⟩));clear F m u q;generalize S[j-1]=y at*;go_wp2
      go_quiet (fail)
      go_wp2;go_roundw
      case rel=>
       refine⟨i+1,fQ S j x,by go_num,aa,by rw[gL S j x d];omega,r,?_,(f.trans (Below.aX _ _)).setCell t _⟩;show World.ownsRow _ _ _ _ _ _ _;rw[<-G.o,gL S j x d,show i+1=S.length+1 by omega];exact((HO.o.aX _).stored j _).1
      case measure=>exact bZ
    .obtain rfl:j=0:=aa;have r:=af (q.o 0 d m.o (.inl rfl));clear m q;go_wp2
     go_quiet (fail)
     go_wp2;go_roundw
     case rel=>
      refine⟨i+1,fQ S 0 x,by go_num,aa,by rw[gL S 0 x d];omega,r,?_,(f.trans (Below.aX _ _)).setCell t _⟩;show World.ownsRow _ _ _ _ _ _ _;rw[<-G.o,gL S 0 x d,show i+1=S.length+1 by omega];exact((HO.o.aX _).stored 0 _).1
     case measure=>exact bZ
  .obtain rfl:i=l.length:=aa;have E:=s.o;rw[iE]at E;go_wp2;go_ret;exact⟨_,rfl,by rw[<-E,ab.symm];exact HO.o,f⟩
end
section
open Go.RowKit
theorem bD (x:Nat) (h:x<2^64) (a:x≠0):1<=Lib.bitLen x/\2^(Lib.bitLen x-1)<=x/\x<2^Lib.bitLen x:=Lib.bitLenAux_bounds 64 x h a
theorem Ao:Lib.bitLen 0=0:=rfl
theorem fP {a b:Nat} (e:a<=b) (h:b<2^64):Lib.bitLen a<=Lib.bitLen b:=by
 by_cases c:a=0
 .subst c;rw[Ao];exact aT _
 .have d:=bD a aa c;have f:=bD b h aa;have:=(JF (by decide:1<2)).1 (qw d.2.1 (qw e f.2.2));omega
theorem Ap {d e:Nat} (hd:0<d) (h:d<2^62) (a:e<=d/2):Lib.bitLen e+1<=Lib.bitLen d:=by
 have b:Lib.bitLen d=1+Lib.bitLen (d/2):=Lib.bitLen_half _ aa aa;have c:=fP a aa;omega
end
section
open Go Go.RowKit
theorem CG (p:Nat->Bool):∀(f lo hi k:Nat),hi-lo<=f->hi-lo<1000000->(bsrch p f lo hi k).2<=k+Lib.bitLen (hi-lo):=by
 intro f
 induction f with
 |zero=>
  intro lo hi k a _;simp only[bsrch];omega
 |succ f ih=>
  intro lo hi k a d;simp only[bsrch];by_cases h:lo<hi
  .rw[aO h];have b:Lib.bitLen (hi-lo)=1+Lib.bitLen ((hi-lo)/2):=Lib.bitLen_half _ aa aa;split
   .have:=ih lo (lo+(hi-lo)/2) (k+1) aa aa;rw[show lo+(hi-lo)/2-lo=(hi-lo)/2 by omega]at this;omega
   .have:=ih (lo+(hi-lo)/2+1) hi (k+1) aa aa;have c:Lib.bitLen (hi-(lo+(hi-lo)/2+1))<=Lib.bitLen ((hi-lo)/2):=fP aa aa;omega
  .rw[aN h];simp
theorem lH (l:List Int) (x:Int) (h:l.length<1000000):(aZ l x).2<=Lib.bitLen l.length:=by
 have:=CG (fun i=>decide (x<=l.getD i 0)) l.length 0 l.length 0 aa aa;simpa[aZ]using this
theorem lI (l:List Int) (x:Int) (h:l.length<1000000):(aV l x).2<=Lib.bitLen l.length:=by
 have:=CG (fun i=>decide (x<l.getD i 0)) l.length 0 l.length 0 aa aa;simpa[aV]using this
section
variable {R:List Pt} {gone:List Bool} {YS:List Nat}
theorem dm.R4 (h:dm R gone YS):YS.length<=R.length:=by
 have hp:YS.Perm ((List.range R.length).filter fun i=>decide (i∈YS)):=(xh h.nodup (List.nodup_range.filter _)).2 fun i=>by
  rw[bI,vV,bO];exact⟨fun hi=>⟨h.lt hi,hi⟩,fun hi=>hi.2⟩
 rw[hp.length_eq];exact bA (fq _ _) ax
theorem EF (i:dm R gone YS) (o:R.length<=100000) (x1 x2 y1 y2:Int):(kS R YS x1 x2 y1 y2).2<=8*Lib.bitLen R.length+1:=by
 unfold kS;split
 .exact aT _
 .rename_i h;have g:0<R.length:=by
   cases R with
   |nil=>simp at h
   |cons a b=>simp
  have⟨w1,w2,w3⟩:=bR 0 R.length g;have j:=i.R4;have c:=lH (cz R) x1 (by simp[cz];omega);have d:=lI (cz R) x2 (by simp[cz];omega);have e:=lH (jI R YS) y1 (by simp[jI];omega);have f:=lI (jI R YS) y2 (by simp[jI];omega);rw[show(cz R).length=R.length by simp[cz]]at c d;rw[show(jI R YS).length=YS.length by simp[jI]]at e f;have k:=fP j aa;have p:=(bD R.length aa aa).2.2;have l:=wE 0 R.length (Lib.bitLen R.length) aa;have m:=@MP YS (l7 R) y1 y2 (aZ (cz R) x1).1 (aV (cz R) x2).1 (dU 0 R.length) w1 0;have n:=FT.Cj (dU 0 R.length) w1 0 (aZ (cz R) x1).1 (aV (cz R) x2).1;show _+_+_+_+_<=_;omega
end
end
section
open Go.RowKit Go.Maps
theorem xQ:∀(a b:List Int),a.Nodup->(∀x∈a,x∈b)->a.length<=b.length
 |[],b,_,_=>aT _
 |x::a,b,h,c=>by
  rw[mF]at h;have d:=c x ax;have g:∀y∈a,y∈b.erase x:=by
   intro y f;have i:y≠x:=fun e=>h.1 (e▸f);exact(List.mem_erase_of_ne i).2 (c y (by simp[f]))
  have:=xQ a (b.erase x) h.2 g;rw[List.length_erase_of_mem d]at this;have:0<b.length:=List.length_pos_of_mem d;simp only[eH];omega
def IsM {H:Type} (kk vk:IntKind) (D:DataW H) (f:Int->Option Int) (s:List Int):Prop:=
 Tidy D/\Maps.size D=s.length/\s.Nodup/\(∀x,x∈s↔(f x).isSome=true)/\
  ∀x,has D (.int kk x)=(f x).isSome/\∀z,D.atKey (.int kk x) z=(match f x with|none=>z|some v=>.lit (.int vk v))
def Ic (f:Int->Option Int) (x v:Int):Int->Option Int:=fun y=>if y=x then some v else f y
theorem IsM.empty {H:Type} (a b:IntKind):IsM (H:=H) a b (.map []) (fun _=>none) []:=
 ⟨tidy_empty,rfl,qD,ax,fun x=>⟨rfl,fun z=>rfl⟩⟩
theorem IsM.put {H:Type} {g m:IntKind} {D:DataW H} {f:Int->Option Int} {s:List Int} (h:IsM g m D f s) (x v:Int):
  IsM g m (D.put (.int g x) (.lit (.int m v))) (Ic f x v) (if x∈s then s else s++[x]):=by
 have⟨i,n,o,j,k⟩:=h;have l:WideAt.IsKeyLit (Lit.int g x):=trivial;refine⟨i.put l _,?_,?_,?_,?_⟩
 .rw[size_put i,(k x).1];by_cases c:x∈s
  .rw[aO c,aO ((j x).1 c),n]
  .rw[aN c,aN (fun h=>c ((j x).2 h)),n,bQ];rfl
 .by_cases c:x∈s
  .rw[aO c];exact o
  .rw[aN c,oG];exact⟨o,ax,fun a r b p=>by simp at p;subst p;exact fun e=>c (e▸r)⟩
 .intro y;unfold Ic;by_cases d:y=x
  .subst d;by_cases c:y∈s<;>simp[c]
  .by_cases c:x∈s<;>simp[c,d,j]
 .intro y;unfold Ic;by_cases d:y=x
  .subst d;exact⟨by simpa using has_put_same i.isMap l _,fun z=>by simpa using atKey_put_same i.isMap l _ z⟩
  .have q:(Lit.int g y)≠(.int g x):=fun e=>d (by injection e);exact⟨by rw[has_put_other q];simpa[d]using(k y).1,fun z=>by rw[atKey_put_other q];simpa[d]using(k y).2 z⟩
theorem CK {a b:List Int} (d:a.Nodup) (e:b.Nodup) (h:∀x,x∈a↔x∈b):a.length=b.length:=
 Nat.le_antisymm (xQ _ _ d fun x c=>(h x).1 c) (xQ _ _ e fun x c=>(h x).2 c)
theorem xR:∀(L s:List Int),s.Nodup->(∀x,x∈s↔x∈L)->s.length=L.length->L.Nodup
 |[],_,_,_,_=>qD
 |x::L,s,c,b,d=>by
  have g:x∈s:=(b x).2 ax;have a:x∉L:=fun a=>by
   have:=xQ s L c (fun y i=>by rcases gW.1 ((b y).1 i)with rfl|h;exact a;exact h);simp at d;omega
  refine mF.2 ⟨a,xR L (s.erase x) (c.erase x) (fun y=>?_) ?_⟩
  .rw[c.mem_erase_iff,b y,gW];constructor
   .rintro⟨f,rfl|h⟩
    .exact absurd rfl f
    .exact h
   .exact fun h=>⟨fun e=>a (e▸h),.inr h⟩
  .rw[List.length_erase_of_mem g];simp at d;omega
theorem xS (L s:List Int) (b:s.Nodup) (a:∀x,x∈s↔x∈L):decide (s.length=L.length)=decide L.Nodup:=by
 rw[pF];exact⟨xR L s b a,fun h=>CK b h a⟩
def Jw (l:List Pt):Prop:=∀p∈l,(Lit.int .u32 p.2.2).wf=true
def placeF:List Pt->Nat->(Int->Option Int)
 |_,0=>fun _=>none
 |l,i+1=>Ic (placeF l i) (l.getD i (0,0,0)).2.2 i
theorem Aq (l:List Pt):∀(i:Nat),i<=l.length->∀x,(placeF l i x).isSome=true↔x∈ids (l.take i)
 |0,_,x=>by simp[placeF,ids]
 |i+1,h,x=>by
  have ih:=Aq l i aa x;have c:l.take (i+1)=l.take i++[l[i]]:=gT aa;have b:l.getD i (0,0,0)=l[i]:=by simp[show i<l.length by omega]
  unfold placeF Ic;rw[c,ids,bJ,bW,b];by_cases a:x=l[i].2.2
  .simp[a]
  .rw[aN a,ih];simp[ids,a]
theorem CL {l:List Pt} (hu:(ids l).Nodup):∀(i:Nat),i<=l.length->∀k,k<i->placeF l i (l.getD k (0,0,0)).2.2=some (k:Int)
 |0,_,k,d=>aa
 |i+1,h,k,d=>by
  have g:∀j,j<l.length->l.getD j (0,0,0)=l[j]! :=fun j c=>by simp[c]
  unfold placeF Ic;by_cases e:k=i
  .subst e;rw[aO rfl]
  .have f:(l.getD k (0,0,0)).2.2≠(l.getD i (0,0,0)).2.2:=by
    intro b;have a:=gH.1 hu k i (by simp[ids];omega) (by simp[ids];omega) aa;simp[ids]at a;simp[show k<l.length by omega,show i<l.length by omega]at b;exact a b
   rw[aN f];exact CL hu i aa k aa
def oo (D:DataW Unit) (l:List Pt) (i:Nat):Prop:=∃s,IsM .u32 .i64 D (placeF l i) s
theorem oo.put {D:DataW Unit} {l:List Pt} {i:Nat} (h:oo D l i) (hi:i<l.length):oo (D.put (.int .u32 l[i].2.2) (.lit (.int .i64 (i:Nat)))) l (i+1):=by
 have⟨s,h⟩:=h;have a:=h.put l[i].2.2 i;have b:l.getD i (0,0,0)=l[i]:=by simp[hi]
 have e:placeF l (i+1)=Ic (placeF l i) l[i].2.2 i:=by rw[placeF,b]
 rw[<-e]at a;exact⟨_,a⟩
theorem oo.size {D:DataW Unit} {l:List Pt} (h:oo D l l.length):(((Maps.size D:Nat):Int)==((l.length:Nat):Int))=lF l:=by
 have⟨s,a⟩:=h;have c:(ids l).length=l.length:=by simp[ids]
 have b:=xS (ids l) s a.2.2.1 (fun x=>(a.2.2.2.1 x).trans (by have:=Aq l l.length (aA _) x;rwa [iE]at this));rw[a.2.1,<-c];unfold lF;rw[<-b,nD];simp only[beq_iff_eq,bO];omega
theorem Ie (a:Option Addr) (c:Nat) (l:List Pt) (w:World) (s:bV bX 3 w a l) (O:l.length<=1000000) (x:Jw l):
  aK 89 #[.slice a l.length c] w (gD w (.bool (lF l))):=by
 have B:=af s;have E:=af x;clear s x;have N:=@run_makeMap prog;go_enter func89,ntmps89;go_wp2
 go_loopw [9] (fun k wr=>∃i:Nat,k=.int .i64 i/\i<=l.length/\Below w.heap.size w wr/\Hid (∃(D:DataW Unit),wr.ownsMap prog 27 (plainElem prog 3) w.heap.size i D/\oo D l i)) (fun k _=>l.length-(intOf k).toNat)
 case atStart=>exact⟨0,rfl,aT _,(aJ _ _).alloc (aA _) _,⟨.map [],yT _ _ _ _,[],IsM.empty _ _⟩⟩
 case round=>
  obtain⟨i,rfl,hi,e,HO⟩:=hrel;by_cases g:i<l.length
  .obtain⟨b,off,q,M,f⟩:=(B.o.below e).get aa;have K:=f i g 0 aa;have x1:=f i g 1 aa;have x2:=f i g 2 aa;simp only[bX,eG,eQ,df]at K x1 x2;have G:Hid (keyOf prog 27 (.int .u32 l[i].2.2)=some (.int .u32 l[i].2.2)):=zh underlying27 (E.o _ (bC _));obtain⟨D,t,d⟩:=HO.o;have n:=af (d.put g);have L:=e.size;have m:=af q;clear HO f d q;generalize l[i]=p at*;obtain⟨I,J,H⟩:=p;obtain rfl:=m.o;clear m;have h:=t.kept (rP wr (.cells #[ae I,ae J,ak H] 29) none) ax
   go_wp2_with (at_mapUpdate;refine yO _ rfl _ _ _ 26 rfl 27 3 (int_keyed underlying27) underlying26 _ w.heap.size i _ rfl h dE _ _ _ rfl rfl G.o _ [] (vY underlying3 (by simp[Lit.wf,IntKind.min,IntKind.max,IntKind.bits,IntKind.signed];omega)) ?_;intro w3 u r)
   have y:Below w.heap.size wr w3:=(((aJ _ wr).alloc aa _)).grown r aH (fun j F=>by cases F;omega);have A:Hid (∃(D:DataW Unit),w3.ownsMap prog 27 (plainElem prog 3) w.heap.size (i+1) D/\oo D l (i+1)):=⟨_,u,n.o⟩;have z:=e.trans y;clear u r h t n;go_wp2;go_roundw
   case rel=>exact⟨i+1,by go_num,aa,z,A⟩
   case measure=>exact bZ
  .obtain rfl:i=l.length:=aa;obtain⟨D,h,d⟩:=HO.o;have v:=d.size;have C:=af v;clear v d HO
   go_wp2_with (at_len;refine wpList_len_own _ rfl _ 26 rfl 27 3 underlying26 _ w.heap.size _ _ rfl h ?_)
   go_ret;exact⟨by rw[C.o];rfl,e⟩
end
section
open Go.RowKit Go.Sort Go.Shelf Go.Lib Go.Maps
attribute [local irreducible] wpQuiet
attribute [local go_sem] Oper.dZ
def upd (f:Nat->Value) (k:Nat) (v:Value):Nat->Value:=fun j=>if j=k then v else f j
theorem upd_same (f:Nat->Value) (k:Nat) (v:Value):upd f k v k=v:=by simp[upd]
theorem upd_ne {f:Nat->Value} {k j:Nat} {v:Value} (h:j≠k):upd f k v j=f j:=by simp[upd,h]
theorem uK (f:Nat->Value) (k:Nat) (v a:Value):upd (upd f k v) k a=upd f k a:=by funext j;simp only[upd];split<;>rfl
theorem Py (f:Nat->Value) {k j:Nat} (v a:Value) (h:k≠j):upd (upd f k v) j a=upd (upd f j a) k v:=by
 funext i;simp only[upd];split<;>split<;>first|rfl|omega
theorem Kj (f:Nat->Value) (k:Nat) (v:Value) (h:f k=v):upd f k v=f:=by
 funext j;simp only[upd];split
 .rename_i e;rw[e,h]
 .rfl
def Pz (LN LL:Nat->Value) (n:Nat):List Value:=(List.range n).flatMap fun k=>[LN k,LL k]
theorem rf (LN LL:Nat->Value) (n:Nat):(Pz LN LL n).length=n*2:=by
 unfold Pz;rw[gK (sz:=2) (fun _=>rfl)];simp
theorem uL (LN LL:Nat->Value) {n k:Nat} (h:k<n):(Pz LN LL n)[k*2]? =some (LN k)/\(Pz LN LL n)[k*2+1]? =some (LL k):=by
 have a:=flat_get (enc:=fun k=>[LN k,LL k]) (sz:=2) (fun _=>rfl) (List.range n) k (aQ h) 0 aa;have b:=flat_get (enc:=fun k=>[LN k,LL k]) (sz:=2) (fun _=>rfl) (List.range n) k (aQ h) 1 aa;simp only[yS,df,eG,eQ]at a b;exact⟨a,b⟩
theorem PD (LN LL:Nat->Value) {n k:Nat} (h:k<n) (v:Value):(Pz LN LL n).set (k*2) v=Pz (upd LN k v) LL n:=by
 apply yU;intro i;rw[List.getElem?_set];by_cases hi:i<n*2
 .have hd:i/2<n:=aa;have⟨a,b⟩:=uL LN LL hd;have⟨c,d⟩:=uL (upd LN k v) LL hd;rcases Fb i with hm|hm
  .have e:i/2*2=i:=aa;rw[e]at a c;rw[c];by_cases f:k*2=i
   .rw[aO f,aO (by rw[rf];omega),show i/2=k by omega,upd_same]
   .rw[aN f,a,upd_ne aa]
  .have e:i/2*2+1=i:=aa;rw[e]at b d;rw[d,aN aa,b]
 .rw[aN aa,o9 (by rw[rf];omega),o9 (by rw[rf];omega)]
theorem PE (LN LL:Nat->Value) {n k:Nat} (h:k<n) (v:Value):(Pz LN LL n).set (k*2+1) v=Pz LN (upd LL k v) n:=by
 apply yU;intro i;rw[List.getElem?_set];by_cases hi:i<n*2
 .have hd:i/2<n:=aa;have⟨a,b⟩:=uL LN LL hd;have⟨c,d⟩:=uL LN (upd LL k v) hd;rcases Fb i with hm|hm
  .have e:i/2*2=i:=aa;rw[e]at a c;rw[c,aN aa,a]
  .have e:i/2*2+1=i:=aa;rw[e]at b d;rw[d];by_cases f:k*2+1=i
   .rw[aO f,aO (by rw[rf];omega),show i/2=k by omega,upd_same]
   .rw[aN f,b,upd_ne aa]
 .rw[aN aa,o9 (by rw[rf];omega),o9 (by rw[rf];omega)]
abbrev dw (W:World) (base gl n c:Nat) (LN LL:Nat->Value):Prop:=W.ownsRow base 150 2 (aC gl n c) n (Pz LN LL n)
theorem dw.get {W:World} {base gl n c k:Nat} {LN LL:Nat->Value} (h:dw W base gl n c LN LL) (d:k<n):W.cell? (ag gl (k*2))=some (LN k)/\W.cell? (ag gl (k*2+1))=some (LL k):=by
 have⟨a,b⟩:=uL LN LL d;exact⟨(h.cellAt (k*2) aa).trans a,(h.cellAt (k*2+1) aa).trans b⟩
theorem dw.Cr {W:World} {base gl n c k:Nat} {LN LL:Nat->Value} (h:dw W base gl n c LN LL) (a:k<n) (v:Value):dw (W.setCell (ag gl (k*2)) v) base gl n c (upd LN k v) LL:=by
 have:=(h.stored (k*2) v).1;rwa [PD LN LL a]at this
theorem dw.R5 {W:World} {base gl n c k:Nat} {LN LL:Nat->Value} (h:dw W base gl n c LN LL) (a:k<n) (v:Value):dw (W.setCell (ag gl (k*2+1)) v) base gl n c LN (upd LL k v):=by
 have:=(h.stored (k*2+1) v).1;rwa [PE LN LL a]at this
theorem dw.kept {S:Nat->Prop} {W W':World} {base gl n c:Nat} {LN LL:Nat->Value} (h:dw W base gl n c LN LL) (K:aB S W W') (hS:¬S gl):dw W' base gl n c LN LL:=
 aU h K fun g e=>by injection e with e;exact e▸hS
theorem xU {w w':World} {a n:Nat} {D:DataW Unit} (h:w.ownsMap prog 27 (plainElem prog 3) a n D) (e:w'.heap[a]? =w.heap[a]?):w'.ownsMap prog 27 (plainElem prog 3) a n D:=by
 have⟨c,b,d,r⟩:=h;exact⟨c,b,e.trans d,r⟩
theorem PG {w:World} {b n:Nat} {D:DataW Unit} {x:Int} {i:Nat} (h:w.ownsMap prog 27 (plainElem prog 3) b n D) (f:(Lit.int .u32 x).wf=true) (hd:D.atKey (.int .u32 x) (.lit (.int .i64 0))=.lit (.int .i64 (i:Nat))):
  (Instr.lookup 26 (.map (some b)) (.int .u32 x) false).run prog w=.ok (.int .i64 i) w:=by
 have⟨c,d,a,g⟩:=h.lookup_int (t:=26) (e:=3) (q:=.i64) (key:=.int .u32 x) (int_keyed underlying27) underlying26 underlying3 (zeroValue3 _) (zh underlying27 f);rw[hd]at a;injection a with a;injection a with _ a;subst a;exact d
def nN (w0:World) (base gl n cl:Nat) (LN LL:Nat->Value) (K kl kr m fb:Nat) (nm:Nat->Int) (L:List Nat) (j jf:Nat) (wr:World) (vl vr vf:Value):Prop:=
 dw wr base gl n cl (upd (upd LN kl vl) kr vr) (upd LL K vf)/\
 wr.ownsRow w0.heap.size 27 1 vl ((L.take j).filter fun i=>decide (i<m)).length ((((L.take j).filter fun i=>decide (i<m)).map nm).map (Value.int .u32))/\
 wr.ownsRow w0.heap.size 27 1 vr ((L.take j).filter fun i=>!decide (i<m)).length ((((L.take j).filter fun i=>!decide (i<m)).map nm).map (Value.int .u32))/\
 wr.ownsRow fb 3 1 vf (jf+1) (((lf m L).take (jf+1)).map (Value.int .i64))/\
 (∀g,vl.ownBlock=some g->vr.ownBlock≠some g)/\aB (fun b=>b=gl\/b=fb) w0 wr
theorem nN.drewN {w0:World} {base gl n cl:Nat} {LN LL:Nat->Value} {K kl kr m fb:Nat} {nm:Nat->Int} {L:List Nat} {j jf:Nat} {wr:World} {vl vr vf:Value} (h:nN w0 base gl n cl LN LL K kl kr m fb nm L j jf wr vl vr vf) (q:Nat):nN w0 base gl n cl LN LL K kl kr m fb nm L j jf (wr.drewN q) vl vr vf:=by
 have⟨a,b,c,d,e,f⟩:=h;exact⟨a,b,c,d,e,f.below (Below.aX _ q)⟩
section
variable {w0:World} {base gl n cl:Nat} {LN LL:Nat->Value} {K kl kr m fb:Nat} {nm:Nat->Int} {L:List Nat} {j jf:Nat} {w3 w4:World} {vl vr vf v1:Value}
theorem nN.left (h:nN w0 base gl n cl LN LL K kl kr m fb nm L j jf w3 vl vr vf) (B:j<L.length) (hi:L[j]<m) (D:kl<n) (E:kl≠kr) (M:gl<w0.heap.size) (I:fb<w0.heap.size) (J:gl≠fb)
  (t:w4.ownsRow w0.heap.size 27 1 v1 (((L.take j).filter fun i=>decide (i<m)).length+1) ((((L.take j).filter fun i=>decide (i<m)).map nm).map (Value.int .u32)++[.int .u32 (nm L[j])])) (r:w3.grownBy w4 vl.ownBlock) (A:v1.ownBlock=vl.ownBlock\/∃b,v1.ownBlock=some b/\w3.heap.size<=b):
  nN w0 base gl n cl LN LL K kl kr m fb nm L (j+1) jf (w4.setCell (ag gl (kl*2)) v1) v1 vr vf:=by
 obtain⟨a,b,c,d,e,f⟩:=h;have o:aB (fun k=>vl.ownBlock=some k) w3 w4:=(aB.refl _ w3).grown r (fun k C=>.inl C);have p:aB (fun k=>k=gl) w4 (w4.setCell (ag gl (kl*2)) v1):=(aB.refl (fun k=>k=gl) w4).set (a:=(ag gl (kl*2))) v1 (.inl rfl);have u:=b.lt;have v:=c.lt;have s:L.take (j+1)=L.take j++[L[j]]:=gT B;have w:(L.take (j+1)).filter (fun i=>decide (i<m))=(L.take j).filter (fun i=>decide (i<m))++[L[j]]:=by rw[s,kW];simp[hi]
 have x:(L.take (j+1)).filter (fun i=>!decide (i<m))=(L.take j).filter (fun i=>!decide (i<m)):=by rw[s,kW];simp[hi]
 have F:∀g,v1.ownBlock=some g->w0.heap.size<=g:=fun g r=>(t.lt g r).1;refine⟨?_,?_,?_,?_,?_,?_⟩
 .have y:=(a.kept o fun h=>by have:=(u gl h).1;omega).Cr D v1;rwa [Py _ _ _ (fun h=>E h.symm),uK]at y
 .rw[w,bQ,bJ,bJ];exact aU (S:=fun k=>k=gl) t p fun g h=>by have:=F g h;omega
 .rw[x];exact aU (S:=fun k=>k=gl) (aU (S:=fun k=>vl.ownBlock=some k) c o fun g h l=>e g l h) p fun g h=>by have:=(v g h).1;omega
 .refine aU (S:=fun k=>k=gl) (aU (S:=fun k=>vl.ownBlock=some k) d o fun g h l=>bB b d ai g l h) p fun g h l=>?_;subst l;have z:=dw.kept a (aB.refl (fun _=>False) w3) (fun h=>h);exact bB z d ai g rfl h
 .intro g h l;rcases A with q|⟨G,q,H⟩
  .exact e g (q▸h) l
  .rw[q]at h;injection h with h;have:=(v g l).2;omega
 .exact((f.mono (S':=fun k=>(k=gl\/k=fb)\/w0.heap.size<=k) (fun k h=>.inl h)).trans (o.mono (fun k h=>.inr (u k h).1))).strip.set (a:=(ag gl (kl*2))) v1 (.inl (.inl rfl))
theorem nN.right (h:nN w0 base gl n cl LN LL K kl kr m fb nm L j jf w3 vl vr vf) (B:j<L.length) (hi:¬L[j]<m) (D:kr<n) (M:kl≠kr) (J:gl<w0.heap.size) (H:fb<w0.heap.size) (I:gl≠fb)
  (t:w4.ownsRow w0.heap.size 27 1 v1 (((L.take j).filter fun i=>!decide (i<m)).length+1) ((((L.take j).filter fun i=>!decide (i<m)).map nm).map (Value.int .u32)++[.int .u32 (nm L[j])])) (r:w3.grownBy w4 vr.ownBlock) (A:v1.ownBlock=vr.ownBlock\/∃b,v1.ownBlock=some b/\w3.heap.size<=b):
  nN w0 base gl n cl LN LL K kl kr m fb nm L (j+1) jf (w4.setCell (ag gl (kr*2)) v1) vl v1 vf:=by
 obtain⟨a,b,c,d,e,f⟩:=h;have o:aB (fun k=>vr.ownBlock=some k) w3 w4:=(aB.refl _ w3).grown r (fun k C=>.inl C);have p:aB (fun k=>k=gl) w4 (w4.setCell (ag gl (kr*2)) v1):=(aB.refl (fun k=>k=gl) w4).set (a:=(ag gl (kr*2))) v1 (.inl rfl);have u:=b.lt;have v:=c.lt;have s:L.take (j+1)=L.take j++[L[j]]:=gT B;have w:(L.take (j+1)).filter (fun i=>!decide (i<m))=(L.take j).filter (fun i=>!decide (i<m))++[L[j]]:=by rw[s,kW];simp[hi]
 have x:(L.take (j+1)).filter (fun i=>decide (i<m))=(L.take j).filter (fun i=>decide (i<m)):=by rw[s,kW];simp[hi]
 have E:∀g,v1.ownBlock=some g->w0.heap.size<=g:=fun g r=>(t.lt g r).1;refine⟨?_,?_,?_,?_,?_,?_⟩
 .have y:=(a.kept o fun h=>by have:=(v gl h).1;omega).Cr D v1;rwa [uK]at y
 .rw[x];exact aU (S:=fun k=>k=gl) (aU (S:=fun k=>vr.ownBlock=some k) b o fun g h l=>e g h l) p fun g h=>by have:=(u g h).1;omega
 .rw[w,bQ,bJ,bJ];exact aU (S:=fun k=>k=gl) t p fun g h=>by have:=E g h;omega
 .refine aU (S:=fun k=>k=gl) (aU (S:=fun k=>vr.ownBlock=some k) d o fun g h l=>bB c d ai g l h) p fun g h l=>?_;subst l;have z:=dw.kept a (aB.refl (fun _=>False) w3) (fun h=>h);exact bB z d ai g rfl h
 .intro g h l;rcases A with q|⟨F,q,G⟩
  .exact e g h (q▸l)
  .rw[q]at l;injection l with l;have:=(u g h).2;omega
 .exact((f.mono (S':=fun k=>(k=gl\/k=fb)\/w0.heap.size<=k) (fun k h=>.inl h)).trans (o.mono (fun k h=>.inr (v k h).1))).strip.set (a:=(ag gl (kr*2))) v1 (.inl (.inl rfl))
end
theorem R6 {m:Nat} {L:List Nat} {j:Nat} (h:j<L.length):(lf m L).take (j+1+1)=(lf m L).take (j+1)++[(((L.take (j+1)).filter fun i=>decide (i<m)).length:Int)]:=by
 have a:=tL m L;rw[gT aa,qO];rw[JA]
theorem nN.TN {w0:World} {base gl n cl:Nat} {LN LL:Nat->Value} {K kl kr m fb:Nat} {nm:Nat->Int} {L:List Nat} {j:Nat} {p l:World} {vl vr vf v1:Value} (h:nN w0 base gl n cl LN LL K kl kr m fb nm L (j+1) j p vl vr vf) (y:j<L.length) (v:K<n) (F:gl<w0.heap.size) (D:w0.heap.size=fb+1) (E:gl≠fb)
  (t:l.ownsRow fb 3 1 v1 (j+1+1) (((lf m L).take (j+1)).map (Value.int .i64)++[.int .i64 (((L.take (j+1)).filter fun i=>decide (i<m)).length:Nat)])) (w:p.grownBy l vf.ownBlock):
  nN w0 base gl n cl LN LL K kl kr m fb nm L (j+1) (j+1) (l.setCell (ag gl (K*2+1)) v1) vl vr v1:=by
 obtain⟨a,b,c,d,e,f⟩:=h;have q:aB (fun k=>vf.ownBlock=some k) p l:=(aB.refl _ p).grown w (fun k z=>.inl z);have r:aB (fun k=>k=gl) l (l.setCell (ag gl (K*2+1)) v1):=(aB.refl (fun k=>k=gl) l).set (a:=(ag gl (K*2+1))) v1 (.inl rfl);have B:=b.lt;have C:=c.lt;have A:=d.lt;have a':=dw.kept a (aB.refl (fun _=>False) p) (fun h=>h);have x:vf.ownBlock≠some gl:=fun h=>bB a' d ai gl rfl h;have s:=a.kept q x;refine⟨?_,?_,?_,?_,e,?_⟩
 .have u:=s.R5 v v1;rwa [uK]at u
 .exact aU (S:=fun k=>k=gl) (aU (S:=fun k=>vf.ownBlock=some k) b q fun g h o=>bB b d ai g h o) r fun g h=>by have:=(B g h).1;omega
 .exact aU (S:=fun k=>k=gl) (aU (S:=fun k=>vf.ownBlock=some k) c q fun g h o=>bB c d ai g h o) r fun g h=>by have:=(C g h).1;omega
 .rw[R6 y,bJ];refine aU (S:=fun k=>k=gl) t r fun g h o=>?_;subst o;exact bB s t ai g rfl h
 .exact((f.mono (S':=fun k=>(k=gl\/k=fb)\/w0.heap.size<=k) (fun k h=>.inl h)).trans (q.mono (fun k h=>by have:=(A k h).1;by_cases e:k=fb;exact .inl (.inr e);exact .inr aa))).strip.set (a:=(ag gl (K*2+1))) v1 (.inl (.inl rfl))
theorem zB (l r:FT) (s tb z off cn gl cl base K kl kr m t cI:Nat) (N:List Nd) (LN LL:Nat->Value) (L:List Nat) (nm:Nat->Int) (I:Option Addr) (cr:Nat) (D:DataW Unit) (w:World) (bb:FT.At N (.node l r) s) (n:(FT.node l r).root s=K) (b9:l.root s=kl) (cx:r.root (s+l.size)=kr) (de:l.hi=m) (dP:m<=1000000) (dB:N.length<=1000000)
  (a3:w.cell? (ag tb 4)=some (.slice (some (ag z off)) N.length cn)) (bI:bV pR 7 w (some (ag z off)) N) (bu:w.cell? (ag tb 5)=some (aC gl N.length cl))
  (aL:dw w base gl N.length cl LN LL) (V:z≠gl/\tb≠gl/\∀b o,I=some (ag b o)->b≠gl)
  (c6:LN K=.slice I L.length cr) (b1:Rd (.int .u32) w I (L.map nm)) (dL:L.length<=1000000) (b5:LN kl=aM) (b6:LN kr=aM)
  (cd:w.ownsMap prog 27 (plainElem prog 3) t cI D) (Y:∀i∈L,D.atKey (.int .u32 (nm i)) (.lit (.int .i64 0))=.lit (.int .i64 (i:Nat))) (cE:∀i∈L,(Lit.int .u32 (nm i)).wf=true) (c7:∀i∈L,i<=1000000):
  aK 96 #[aj tb,ae K,.map (some t)] w fun e w'=>e=.returned (.tuple #[])/\∃vl vr vf,dw w' base gl N.length cl (upd (upd LN kl vl) kr vr) (upd LL K vf)/\
   w'.ownsRow w.heap.size 27 1 vl (L.filter fun i=>decide (i<m)).length (((L.filter fun i=>decide (i<m)).map nm).map (Value.int .u32))/\
   w'.ownsRow w.heap.size 27 1 vr (L.filter fun i=>!decide (i<m)).length (((L.filter fun i=>!decide (i<m)).map nm).map (Value.int .u32))/\
   w'.ownsRow w.heap.size 3 1 vf (lf m L).length ((lf m L).map (Value.int .i64))/\(∀g,vl.ownBlock=some g->vr.ownBlock≠some g)/\aB (fun b=>b=gl) w w':=by
 obtain⟨db,n0,aO,aP,bp,bq,bH,br⟩:=nJ bI bb.get;have C:=bb.lt;have ce:=iF w _ a3;have dF:gl<w.heap.size:=(aL.lt gl rfl).2;simp only at ce;simp only[FT.top]at n0 aO aP bp bq br;have ca:=FT.xK l r s;have bh:=bb.left.lt;have cc:=bb.right.lt;obtain⟨dG,-,-,-,-,cJ,-,-⟩:=nJ bI bb.left.get;rw[FT.wF,de,b9]at cJ;have dg:((s+l.size:Nat):Int)-1=(kl:Int):=by rw[<-b9];unfold FT.root;have:=l.size_pos;omega
 have dh:((s+l.size+r.size:Nat):Int)-1=(kr:Int):=by rw[<-cx];unfold FT.root;have:=r.size_pos;omega
 rw[dg]at aO;rw[dh]at aP;rw[n]at n0 aO aP bp bq bH br C ca;rw[b9]at bh ca;rw[cx]at cc ca;generalize dO:l.lo=lo at*;generalize dH:r.hi=hi at*;have co:=af aL;have cb:=af aL;have c1:=aL.frozenAt (K*2+1);obtain⟨al,cK⟩:=aL.get C;have cR:=af a3;have du:=af bI;have cS:=af bu;obtain⟨cL,cA⟩:∃cL,cL=LL K:=⟨_,rfl⟩;rw[<-cA]at cK;clear aL bI cA;go_enter func96,ntmps96
 go_upto_region 0 with fail
 go_cut [6,7]from 6 (fun dn dp cN=>∃x:Nat,dn=aj x/\dp=.pointer (some (ag gl (K*2)))/\Hid (cN.heap[x]? =some (.cells #[.int .u8 2,ae kl,ae kr,ae lo,ae hi,ae 0,ae 0] 163 (0,0)))/\Hid (Below w.heap.size w cN)/\w.heap.size<=x)
 case first=>
  have dz:=ah a3;have dA:=ah bu;have dW:=ah n0;have dY:=ah aO;have dZ:=ah aP;have d0:=ah bp;have d3:=ah bq;have d4:=ah bH;have d5:=ah br;clear a3 bu n0 aO aP bp bq bH br;refine au (fun W=>∃p:aR w,W=p.W) [15] [(0,false),(1,false),(2,false),(3,true),(4,false),(5,false),(6,true),(7,false),(8,false),(9,false),(10,true),(11,false),(12,false)] ⟨⟨_,(aJ _ _).drew⟩,rfl⟩ 3 ?_;refine ay 13 rfl fun K n=>?_;go_simp;refine n _ _ (fun _ _=>⟨⟨_,(aJ _ w).alloc (aA _) _|>.drew⟩,rfl⟩) ?_;clear n K;refine ay 14 rfl fun K n=>?_;go_simp;refine n _ _ (fun _ _=>⟨⟨_,(aJ _ w).alloc (aA _) _|>.drew⟩,rfl⟩) ?_;clear n K;refine aF [15] ?_;go_wp2;go_meet;exact⟨w.heap.size,rfl,rfl,lU _ _,(aJ _ w).alloc (aA _) _|>.drew,aA _⟩
 case rest=>
  obtain⟨x,rfl,rfl,bP,bK,dU⟩:=hcut;have cF:x<wc.heap.size:=(bg.1 bP.o).1;have bt:Hid (dw wc base gl N.length cl LN LL):=az co.o bK.o;have c2:=bt.o.frozenAt (K*2+1);have m1:=(bt.o.get C).2;obtain⟨cj,cC⟩:∃cj,cj=LL K:=⟨_,rfl⟩;rw[<-cC]at m1;clear cC;have Z:=bP.o;have d7:wc.cell? (ag x 0)=some (.int .u8 2):=aI Z;clear Z;clear n0 aO aP bp bq bH br a3 bu c1 al cK;have dS:=bK.o.size;obtain⟨fb,bv⟩:∃fb,fb=wc.heap.size:=⟨_,rfl⟩;have dv:(wc.alloc (.cells #[ae 0] 3)).cell? (ag gl (K*2+1))=some cj:=(((aJ wc.heap.size wc).alloc (aA _) _).cell (p:=(ag gl (K*2+1))) (by show gl<_;omega)).trans m1;have dx:(wc.alloc (.cells #[ae 0] 3)).frozen? (ag gl (K*2+1))=false:=(((aJ wc.heap.size wc).alloc (aA _) _).frozen (p:=(ag gl (K*2+1))) (by show gl<_;omega)).trans c2;obtain⟨f,aD⟩:∃f,f=(wc.alloc (.cells #[ae 0] 3)).setCell (ag gl (K*2+1)) (aC wc.heap.size 1 1):=⟨_,rfl⟩;have bQ:aB (fun b=>b=gl) wc f:=by rw[aD];exact((aB.refl (fun b=>b=gl) wc).alloc _).set (a:=(ag gl (K*2+1))) _ (.inl rfl)
  have E:aB (fun b=>b=gl) w f:=((aB.refl (fun b=>b=gl) w).below bK.o).trans bQ;have bR:dw f base gl N.length cl LN (upd LL K (aC fb 1 1)):=by rw[aD,bv];exact dw.R5 (az bt.o ((aJ _ _).alloc (aA _) _)) C _
  have ck:f.ownsRow fb 3 1 (aC fb 1 1) 1 [.int .i64 0]:=by
   have h:=Cw wc fb [.int .i64 0] 3 aa (by unfold maxLen;simp);rw[aD];rw[bv]at h |-;exact aU (S:=fun b=>b=gl) h ((aB.refl (fun b=>b=gl) _).set (a:=(ag gl (K*2+1))) _ (.inl rfl)) (fun g e=>by have cs:=Pk e;omega)
  have c8:f.heap.size=fb+1:=by rw[aD,bv];simp
  have dV:x<fb:=by rw[bv];exact cF
  have dj:x≠gl:=aa;have bw:gl≠fb:=aa;obtain⟨aq,-⟩:=di bQ cF dj;have Z:=bP.o;have y1:f.cell? (ag x 1)=some (ae kl):=(aq 1).trans (aI Z);have y2:f.cell? (ag x 2)=some (ae kr):=(aq 2).trans (aI Z);have dq:f.cell? (ag tb 5)=some (aC gl N.length cl):=((di E ce V.2.1).1 5).trans cS.o;have cP:f.cell? (ag tb 4)=some (.slice (some (ag z off)) N.length cn):=((di E ce V.2.1).1 4).trans cR.o;have dr:f.cell? (ag gl (K*2))=some (.slice I L.length cr):=(bR.get C).1.trans (by rw[c6]);have cQ:f.cell? (ag z (off+kl*7+4))=some (ae m):=((di E db V.1).1 _).trans cJ;have cp:Hid (Rd (.int .u32) f I (L.map nm)):=by
   rcases b1 with h|⟨b,o,e,B,b4⟩
   .exact .inl h
   .exact .inr ⟨b,o,e,cO B E.size,fun i hi=>((di E B (V.2.2 b o e)).1 _).trans (b4 i hi)⟩
  have dQ:w.heap[t]? =f.heap[t]? /\t<f.heap.size:=by
   obtain⟨ct,cq,B,-⟩:=cd;have Y:t<w.heap.size:=(bg.1 B).1;refine⟨(E.block t Y fun e=>?_).symm,cO Y E.size⟩;subst e;rcases cb.o.2 with⟨h,-⟩|⟨g,cX,cY,h,-,bf,-⟩
   .cases h
   .injection h with h;injection h with h;injection h with h;subst h;rw[B]at bf;cases bf
  have ds:f.cell? (ag x 0)=some (.int .u8 2):=(aq 0).trans (aI Z);clear Z aq bQ
  go_upto_region 2 with fail
  rw[<-aD];clear aD
  go_upto_region 3 with fail
  go_quiet (fail)
  go_wp2_with fail
  obtain⟨w2,y⟩:∃w2,w2=f.drewN nq:=⟨_,rfl⟩;have cm:Hid (aB (fun b=>b=gl) w w2):=by rw[y];exact E.trans (Below.aX f.heap.size _|>fun h=>(aB.refl _ f).below h)
  have cw:dw w2 base gl N.length cl LN (upd LL K (aC fb 1 1)):=by rw[y];exact bR
  have cu:w2.ownsRow fb 3 1 (aC fb 1 1) 1 [.int .i64 0]:=by rw[y];exact ck
  have u1:w2.cell? (ag x 1)=some (ae kl):=by rw[y];exact y1
  have u4:w2.cell? (ag tb 4)=some (.slice (some (ag z off)) N.length cn):=by rw[y];exact cP
  have bs:w2.cell? (ag z (off+kl*7+4))=some (ae m):=by rw[y];exact cQ
  have bO:Hid (w2.cell? (ag x 1)=some (ae kl)/\w2.cell? (ag tb 4)=some (.slice (some (ag z off)) N.length cn)/\w2.cell? (ag z (off+kl*7+4))=some (ae m)):=⟨u1,u4,bs⟩;have cV:Hid (Rd (.int .u32) w2 I (L.map nm)):=by rw[y];exact cp.o
  have bN:Hid (w2.ownsMap prog 27 (plainElem prog 3) t cI D/\t≠gl/\t<fb):=by
   rw[y];obtain⟨ct,cq,B,r⟩:=cd;have Y:t<w.heap.size:=(bg.1 B).1;have cz:t≠gl:=by
    rintro rfl;rcases cb.o.2 with⟨h,-⟩|⟨g,cX,cY,h,-,bf,-⟩
    .cases h
    .have aE:=Pk (show(aC t N.length cl).ownBlock=some g by rw[h];rfl);subst aE;rw[B]at bf;cases bf
   exact⟨⟨ct,cq,(E.block t Y cz).trans B,r⟩,cz,aa⟩
  have cD:w2.heap.size=fb+1:=by rw[y];exact c8
  have dT:tb<fb/\z<fb:=aa;have cv:nN w2 base gl N.length cl LN LL K kl kr m fb nm L 0 0 w2 (aM) (aM) (aC fb 1 1):=by
   refine⟨?_,cZ _ _ _ _,cZ _ _ _ _,?_,fun g h=>(by cases h),aB.refl _ _⟩
   .rw[Kj _ kl _ b5,Kj _ kr _ b6];exact cw
   .have cs:(lf m L).take (0+1)=[0]:=by simp[lf,List.range_succ_eq_map]
    rw[cs];exact cu
  have cT:=af cv;have M:Hid (∀b o,0<L.length->I=some (ag b o)->b<fb):=fun b o c3 e=>by
   obtain⟨dy,d6,aw,dC,-⟩:=b1.get (aQ c3);rw[e]at aw;injection aw with aw;injection aw with aw;subst aw;omega
  have cU:=af Y;have cW:=af cE;have dt:=af (And.intro b5 b6);rw[<-y];clear y bR ck y1 y2 cP dq cQ dr ds E cp cw cu u1 u4 bs cd Y cE cv cb co bt b5 b6 b1
  go_loopg [51] L.length (fun dk dm wr=>∃(j:Nat) (vl vr vf:Value),dm=.int .i64 j/\j<=L.length/\L.length-j<=dk/\Hid (nN w2 base gl N.length cl LN LL K kl kr m fb nm L j j wr vl vr vf))
  case atStart=>exact⟨0,_,_,_,rfl,aT _,aa,cT⟩
  case round=>
   obtain⟨j,vl,vr,vf,rfl,dJ,dK,aW⟩:=hrel;obtain⟨ar,av,rfl⟩:=fK aW.o.2.1;obtain⟨bk,bl,bn,bo,bm,G⟩:=aW.o;have dM:((L.take j).filter fun i=>decide (i<m)).length<=L.length:=bA (fq _ _) aH;have dN:((L.take j).filter fun i=>!decide (i<m)).length<=L.length:=bA (fq _ _) aH;obtain⟨aq,-⟩:=di G (b:=x) aa aa;obtain⟨cM,-⟩:=di G (b:=tb) aa (by have:=V.2.1;omega);obtain⟨gk,-⟩:=di G (b:=z) aa (by have:=V.1;omega);have u1:=(aq 1).trans bO.o.1;have u4:=(cM 4).trans bO.o.2.1;have bs:=(gk (off+kl*7+4)).trans bO.o.2.2;clear aq cM gk;by_cases T:j<L.length
   .obtain⟨i,hi⟩:∃i,i=L[j]:=⟨_,rfl⟩;have bz:i∈L:=by rw[hi];exact bC _
    have dI:=c7 i bz;obtain⟨ad,bD⟩:∃ad,ad=nm i:=⟨_,rfl⟩;have da:∃b o,I=some (ag b o)/\wr.cell? (ag b (o+j))=some (ak ad):=by
     obtain⟨b,o,e,B,b4⟩:=cV.o.get aH;have aE:=b4 j (aQ T);rw[gq,<-hi,<-bD]at aE;have dD:=V.2.2 b o e;have aG:=M.o b o aa e;have aG:=M.o b o aa e;have aG:=M.o b o aa e;have aG:=M.o b o aa e;have aG:=M.o b o aa e;have aG:=M.o b o aa e;have aG:=M.o b o aa e;exact⟨b,o,e,((di G B aa).1 _).trans aE⟩
    obtain⟨b,o,c0,df⟩:=da;subst c0;have dc:∀q,(Instr.lookup 26 (.map (some t)) (.int .u32 ad) false).run prog (wr.drewN q)=.ok (.int .i64 i) (wr.drewN q):=fun q=>by
     rw[bD];exact PG (xU bN.o.1 (G.block t (by have:=bN.o.2.2;omega) (by have:=bN.o.2;omega))) (cW.o i bz) (cU.o i bz)
    have H:Hid (i=L[j]/\ad=nm i):=⟨hi,bD⟩;clear hi bD bz
    go_wp2_with fail
    go_quiet (fail)
    obtain⟨w3,bY⟩:∃w3,w3=wr.drewN nq:=⟨_,rfl⟩;have aY:Hid (nN w2 base gl N.length cl LN LL K kl kr m fb nm L j j w3 (.slice ar ((L.take j).filter fun i=>decide (i<m)).length av) vr vf):=by rw[bY];exact aW.o.drewN nq
    rw[<-bY];clear bY bk bl bn bo bm G aW u1 u4 bs df dc;obtain⟨aN,bE,bG,cH,cG,bj⟩:=aY.o;have bx:gl<w3.heap.size:=by have:=bj.size;omega
    by_cases J:i<m
    .have d1:decide ((i:Int)<(m:Int))=true:=aQ J;have d2:decide (i<m)=true:=aQ J;have al:w3.cell? (ag gl (kl*2))=some (.slice ar ((L.take j).filter fun i=>decide (i<m)).length av):=(aN.get bh).1.trans (by rw[upd_ne aa,upd_same]);have f0:=aN.frozenAt (kl*2)
     go_wp2_with (at_builtin;refine cB vg w2.heap.size bE [.int .u32 ad] rfl (by simp[Value.oneCell']) rfl _ _ rfl rfl _ rfl dE aa (by have:=bj.size;omega) ?_;intro v1 w4 X Q bc;have a1:aB (fun k=>(Value.slice ar ((L.take j).filter fun i=>decide (i<m)).length av).ownBlock=some k) w3 w4:=(aB.refl _ w3).grown Q (fun k U=>.inl U);have be:¬(Value.slice ar ((L.take j).filter fun i=>decide (i<m)).length av).ownBlock=some gl:=(fun h=>by have aE:=(bE.lt gl h).1;omega);obtain⟨a5,a7⟩:=di a1 bx be;have ci:=(a5 (kl*2)).trans al;have f4:=(a7 (kl*2)).trans f0;clear a5 a7;obtain⟨an,ao,rfl⟩:=fK X;have aZ:=af X;have aV:=af Q;have aS:=af bc;clear X Q bc)
     obtain⟨d,O⟩:∃d,d=w4.setCell (ag gl (kl*2)) (.slice an (((L.take j).filter fun i=>decide (i<m)).length+1) ao):=⟨_,rfl⟩;have v:Hid (nN w2 base gl N.length cl LN LL K kl kr m fb nm L (j+1) j d (.slice an (((L.take j).filter fun i=>decide (i<m)).length+1) ao) vr vf):=by
      rw[O];exact nN.left aY.o T (by rw[<-H.o.1];exact J) bh aa aa aa bw (by rw[<-H.o.1,<-H.o.2];exact aZ.o) aV.o (gy aS.o)
     have F:((L.take (j+1)).filter fun i=>decide (i<m)).length=((L.take j).filter fun i=>decide (i<m)).length+1:=by
      rw[gT T,kW,<-H.o.1];simp[J]
     rw[<-O];clear O a1 be ci f4 aZ aV aS aN bE bG cH cG bj aY al f0 bx;generalize ba:((.slice an (((L.take j).filter fun i=>decide (i<m)).length+1) ao):Value)=bS at*;generalize b2:(vr:Value)=bU at*;have b3:∃a c,bS=.slice a (((L.take j).filter fun i=>decide (i<m)).length+1) c:=⟨_,_,ba.symm⟩;clear ba b2;obtain⟨bW,bX,rfl⟩:=b3;obtain⟨A,P⟩:∃A,A=((L.take j).filter fun i=>decide (i<m)).length+1:=⟨_,rfl⟩
     first|rw[<-P]at F v |- |rw[<-P]at F v
     have bJ:=af F;have c4:A<=1000001:=aa;clear F P;obtain⟨u,cf,ch,ac,cg,ab⟩:=v.o;have b7:gl<d.heap.size:=by have:=ab.size;omega
     have bZ:=ah ((u.get C).2.trans (by rw[upd_same]));have b0:=ah ((u.get bh).1.trans (by rw[upd_ne aa,upd_same]));have f2:=u.frozenAt (K*2+1);have am:=(u.get C).2;rw[upd_same]at am;have a0:=af ac;have b8:¬vf.ownBlock=some gl:=fun h=>bB u ac ai gl rfl h;have c5:=ab.size;clear u cf ch ac cg ab;refine au (fun W=>∃p:aR d,W=p.W) [11,12,13,14] [(0,false),(1,false),(2,false),(3,false),(4,true),(5,false),(6,false),(7,false),(8,true),(9,false)] ⟨⟨_,(aJ _ _).drew⟩,rfl⟩ 5 ?_;refine ay 10 rfl fun K n=>?_;go_simp;refine n _ _ (fun _ _=>⟨⟨_,(aJ _ d).alloc (aA _) _|>.drew⟩,rfl⟩) ?_;clear n K;refine ay 11 rfl fun K n=>?_;refine bF nX fb (w:=(d.alloc (.cells #[ae A] 3)).drew) (az a0.o ((aJ _ d).alloc (aA _) _|>.drew)) [.int .i64 A] rfl (by simp[Value.oneCell']) rfl (.tmp 92) (.tmp 98) rfl rfl d.heap.size rfl (lU _ _) dE aa aH ?_;intro a9 a4 ap bi bd c9 dd;refine n _ _ (fun _ h=>absurd ax h) ?_;clear n K;refine aF [12,13,14] ?_;have R:d.grownBy ap vf.ownBlock:=dX (bT ((aJ _ d).alloc (aA _) _|>.drew)) bd;have a2:aB (fun k=>vf.ownBlock=some k) d ap:=(aB.refl _ d).grown R (fun k U=>.inl U);obtain⟨a6,a8⟩:=di a2 b7 b8;have dl:=(a6 (K*2+1)).trans am;have f7:=(a8 (K*2+1)).trans f2;have bL:Hid (nN w2 base gl N.length cl LN LL K kl kr m fb nm L (j+1) (j+1) (ap.setCell (ag gl (K*2+1)) (aC a9 (j+1+1) a4)) (.slice bW A bX) bU (aC a9 (j+1+1) a4)):=
      nN.TN v.o T C aa cD bw (by rw[bJ.o];exact bi) R
     clear a6 a8 a2 R bd bi am f2 bZ b0 a0 v;go_wp2
     go_roundg (L.length-(j+1))
     case measure=>omega
     case rel=>exact⟨j+1,_,_,_,by go_num,aa,aA _,bL⟩
    .have d1:decide ((i:Int)<(m:Int))=false:=aQ J;have d2:decide (i<m)=false:=aQ J;have al:w3.cell? (ag gl (kr*2))=some vr:=(aN.get cc).1.trans (by rw[upd_same]);have f0:=aN.frozenAt (kr*2)
     go_wp2_with (at_builtin;refine cB vg w2.heap.size bG [.int .u32 ad] rfl (by simp[Value.oneCell']) rfl _ _ rfl rfl _ rfl dE aa (by have:=bj.size;omega) ?_;intro v1 w4 X Q bc;have a1:aB (fun k=>vr.ownBlock=some k) w3 w4:=(aB.refl _ w3).grown Q (fun k U=>.inl U);have be:¬vr.ownBlock=some gl:=(fun h=>by have aE:=(bG.lt gl h).1;omega);obtain⟨a5,a7⟩:=di a1 bx be;have ci:=(a5 (kr*2)).trans al;have f4:=(a7 (kr*2)).trans f0;clear a5 a7;obtain⟨an,ao,rfl⟩:=fK X;have aZ:=af X;have aV:=af Q;have aS:=af bc;clear X Q bc)
     obtain⟨d,O⟩:∃d,d=w4.setCell (ag gl (kr*2)) (.slice an (((L.take j).filter fun i=>!decide (i<m)).length+1) ao):=⟨_,rfl⟩;have v:Hid (nN w2 base gl N.length cl LN LL K kl kr m fb nm L (j+1) j d (.slice ar ((L.take j).filter fun i=>decide (i<m)).length av) (.slice an (((L.take j).filter fun i=>!decide (i<m)).length+1) ao) vf):=by
      rw[O];exact nN.right aY.o T (by rw[<-H.o.1];exact J) cc aa aa aa bw (by rw[<-H.o.1,<-H.o.2];exact aZ.o) aV.o (gy aS.o)
     have F:((L.take (j+1)).filter fun i=>decide (i<m)).length=((L.take j).filter fun i=>decide (i<m)).length:=by
      rw[gT T,kW,<-H.o.1];simp[J]
     rw[<-O];clear O a1 be ci f4 aZ aV aS aN bE bG cH cG bj aY al f0 bx;generalize ba:((.slice ar ((L.take j).filter fun i=>decide (i<m)).length av):Value)=bS at*;generalize b2:((.slice an (((L.take j).filter fun i=>!decide (i<m)).length+1) ao):Value)=bU at*;have b3:∃a c,bS=.slice a (((L.take j).filter fun i=>decide (i<m)).length) c:=⟨_,_,ba.symm⟩;clear ba b2;obtain⟨bW,bX,rfl⟩:=b3;obtain⟨A,P⟩:∃A,A=((L.take j).filter fun i=>decide (i<m)).length:=⟨_,rfl⟩
     first|rw[<-P]at F v |- |rw[<-P]at F v
     have bJ:=af F;have c4:A<=1000001:=aa;clear F P;obtain⟨u,cf,ch,ac,cg,ab⟩:=v.o;have b7:gl<d.heap.size:=by have:=ab.size;omega
     have bZ:=ah ((u.get C).2.trans (by rw[upd_same]));have b0:=ah ((u.get bh).1.trans (by rw[upd_ne aa,upd_same]));have f2:=u.frozenAt (K*2+1);have am:=(u.get C).2;rw[upd_same]at am;have a0:=af ac;have b8:¬vf.ownBlock=some gl:=fun h=>bB u ac ai gl rfl h;have c5:=ab.size;clear u cf ch ac cg ab;refine au (fun W=>∃p:aR d,W=p.W) [11,12,13,14] [(0,false),(1,false),(2,false),(3,false),(4,true),(5,false),(6,false),(7,false),(8,true),(9,false)] ⟨⟨_,(aJ _ _).drew⟩,rfl⟩ 5 ?_;refine ay 10 rfl fun K n=>?_;go_simp;refine n _ _ (fun _ _=>⟨⟨_,(aJ _ d).alloc (aA _) _|>.drew⟩,rfl⟩) ?_;clear n K;refine ay 11 rfl fun K n=>?_;refine bF nX fb (w:=(d.alloc (.cells #[ae A] 3)).drew) (az a0.o ((aJ _ d).alloc (aA _) _|>.drew)) [.int .i64 A] rfl (by simp[Value.oneCell']) rfl (.tmp 92) (.tmp 98) rfl rfl d.heap.size rfl (lU _ _) dE aa aH ?_;intro a9 a4 ap bi bd c9 dd;refine n _ _ (fun _ h=>absurd ax h) ?_;clear n K;refine aF [12,13,14] ?_;have R:d.grownBy ap vf.ownBlock:=dX (bT ((aJ _ d).alloc (aA _) _|>.drew)) bd;have a2:aB (fun k=>vf.ownBlock=some k) d ap:=(aB.refl _ d).grown R (fun k U=>.inl U);obtain⟨a6,a8⟩:=di a2 b7 b8;have dl:=(a6 (K*2+1)).trans am;have f7:=(a8 (K*2+1)).trans f2;have bL:Hid (nN w2 base gl N.length cl LN LL K kl kr m fb nm L (j+1) (j+1) (ap.setCell (ag gl (K*2+1)) (aC a9 (j+1+1) a4)) (.slice bW A bX) bU (aC a9 (j+1+1) a4)):=
      nN.TN v.o T C aa cD bw (by rw[bJ.o];exact bi) R
     clear a6 a8 a2 R bd bi am f2 bZ b0 a0 v;go_wp2
     go_roundg (L.length-(j+1))
     case measure=>omega
     case rel=>exact⟨j+1,_,_,_,by go_num,aa,aA _,bL⟩
   .obtain rfl:j=L.length:=aa;clear bk bl bn bo bm G u1 u4 bs;go_wp2
    first|go_end0|go_ret
    obtain⟨bk,bl,bn,bo,bm,G⟩:=aW.o;have dR:=cm.o.size;have cy:=tL m L;simp only[iE]at bk bl bn bm;rw[jc (zg cy),<-cy]at bo;exact⟨rfl,_,_,_,bk,bM bl aa,bM bn aa,bM bo aa,bm,
     ((cm.o.mono (S':=fun k=>k=gl\/w.heap.size<=k) (fun k h=>.inl h)).trans (G.mono (fun k h=>by rcases h with h|h;exact .inl h;exact .inr aa))).strip⟩
theorem zC (a s tb E off cn gl cl base K V:Nat) (N:List Nd) (LN LL:Nat->Value) (w:World) (F:FT.At N (.leaf a) s) (f:(FT.leaf a).root s=K) (ao:N.length<=1000000)
  (i:w.cell? (ag tb 4)=some (.slice (some (ag E off)) N.length cn)) (B:bV pR 7 w (some (ag E off)) N) (u:w.cell? (ag tb 5)=some (aC gl N.length cl))
  (k:dw w base gl N.length cl LN LL):
  aK 96 #[aj tb,ae K,.map (some V)] w fun e w'=>e=.returned (.tuple #[])/\∃vf,(∃a m c,vf=.slice a m c)/\dw w' base gl N.length cl LN (upd LL K vf)/\(∀g,vf.ownBlock=some g->w.heap.size<=g/\g<w'.heap.size)/\aB (fun b=>b=gl) w w':=by
 obtain⟨ar,n0,l,n,q,r,y,t⟩:=nJ B F.get;have v:=F.lt;have T:=iF w _ i;have aq:gl<w.heap.size:=(k.lt gl rfl).2;simp only at T;simp only[FT.top]at n0 l n q r t;rw[f]at n0 l n q r y t v;have P:=af k;have R:=k.frozenAt (K*2+1);obtain⟨X,J⟩:=k.get v;have ab:=af i;have ad:=af B;have ac:=af u;obtain⟨L,G⟩:∃L,L=LL K:=⟨_,rfl⟩;rw[<-G]at J;clear k B G;go_enter func96,ntmps96
 go_upto_region 0 with fail
 go_cut [6,7]from 6 (fun Y Z M=>∃x:Nat,Y=aj x/\Z=.pointer (some (ag gl (K*2)))/\Hid (M.heap[x]? =some (.cells #[.int .u8 1,ae (-1),ae (-1),ae a,ae (a+1),ae 0,ae a] 163 (0,0)))/\Hid (Below w.heap.size w M)/\w.heap.size<=x)
 case first=>
  have am:=ah i;have an:=ah u;have ax:=ah n0;have aD:=ah l;have aE:=ah n;have aG:=ah q;have aH:=ah r;have aL:=ah y;have aM:=ah t;clear i u n0 l n q r y t;refine au (fun W=>∃p:aR w,W=p.W) [15] [(0,false),(1,false),(2,false),(3,true),(4,false),(5,false),(6,true),(7,false),(8,false),(9,false),(10,true),(11,false),(12,false)] ⟨⟨_,(aJ _ _).drew⟩,rfl⟩ 3 ?_;refine ay 13 rfl fun K f=>?_;go_simp;refine f _ _ (fun _ _=>⟨⟨_,(aJ _ w).alloc (aA _) _|>.drew⟩,rfl⟩) ?_;clear f K;refine ay 14 rfl fun K f=>?_;go_simp;refine f _ _ (fun _ _=>⟨⟨_,(aJ _ w).alloc (aA _) _|>.drew⟩,rfl⟩) ?_;clear f K;refine aF [15] ?_;go_wp2;go_meet;exact⟨w.heap.size,rfl,rfl,lU _ _,(aJ _ w).alloc (aA _) _|>.drew,aA _⟩
 case rest=>
  obtain⟨x,rfl,rfl,C,h,aw⟩:=hcut;have U:x<wc.heap.size:=(bg.1 C.o).1;have z:Hid (dw wc base gl N.length cl LN LL):=az P.o h.o;have S:=z.o.frozenAt (K*2+1);have m1:=(z.o.get v).2;obtain⟨A,H⟩:∃A,A=LL K:=⟨_,rfl⟩;rw[<-H]at m1;clear H;have ai:(wc.alloc (.cells #[ae 0] 3)).cell? (ag gl (K*2+1))=some A:=(((aJ wc.heap.size wc).alloc (aA _) _).cell (p:=(ag gl (K*2+1))) (by have:=h.o.size;show gl<_;omega)).trans m1;have ak:(wc.alloc (.cells #[ae 0] 3)).frozen? (ag gl (K*2+1))=false:=(((aJ wc.heap.size wc).alloc (aA _) _).frozen (p:=(ag gl (K*2+1))) (by have:=h.o.size;show gl<_;omega)).trans S;clear n0 l n q r y t i u R X J;have av:=h.o.size;obtain⟨d,j⟩:∃d,d=(wc.alloc (.cells #[ae 0] 3)).setCell (ag gl (K*2+1)) (aC wc.heap.size 1 1):=⟨_,rfl⟩;have D:aB (fun b=>b=gl) wc d:=by rw[j];exact((aB.refl (fun b=>b=gl) wc).alloc _).set (a:=(ag gl (K*2+1))) _ (.inl rfl)
  have Q:Hid (dw d base gl N.length cl LN (upd LL K (aC wc.heap.size 1 1))):=by rw[j];exact dw.R5 (az z.o ((aJ _ _).alloc (aA _) _)) v _
  have O:Hid (aB (fun b=>b=gl) w d):=((aB.refl (fun b=>b=gl) w).below h.o).trans D;have ap:d.heap.size=wc.heap.size+1:=by rw[j];simp
  have I:=C.o;have aN:d.cell? (ag x 0)=some (.int .u8 1):=((di D U aa).1 0).trans (aI I);clear I
  go_upto_region 2 with fail
  rw[<-j];clear j;go_wp2;refine kC (ll rfl _ _ _) rfl ?_;exact⟨rfl,aC wc.heap.size 1 1,⟨_,_,_,rfl⟩,Q.o,fun g e=>by have al:=Pk e;omega,O.o⟩
end
section
open Go.RowKit Go.Sort Go.Shelf Go.Lib
def oO (p q:Pt):Int:=if jE p.2.1 q.2.1=0 then jE p.2.2 q.2.2 else jE p.2.1 q.2.1
theorem rq (p q:Pt):oO p q<0↔mM p q:=by
 unfold oO mM jE
 repeat' split
 all_goals omega
theorem UD (p q:Pt) (w:World):aK 71 #[jb p.1 p.2.1 p.2.2,jb q.1 q.2.1 q.2.2] w fun e w'=>e=.returned (ae (oO p q))/\yF w w':=by
 have a:=af (fun W=>Xv p.2.1 q.2.1 p.2.2 q.2.2 W);unfold oO;generalize(if jE p.2.1 q.2.1=0 then jE p.2.2 q.2.2 else jE p.2.1 q.2.1)=r at*;go_enter func71,ntmps71
 go_wp2_with fail
 refine(a.o _).mono ?_;rintro e w1 ⟨rfl,h⟩;go_wp2;go_ret;exact⟨rfl,(((yF.refl _).alloc _).alloc _).trans h⟩
theorem CO:eU 71:=bP func71 aL rfl
def OT (p q:Pt):Bool:=!decide (mM q p)
def kI (l:List Pt):List Pt:=l.mergeSort OT
theorem jy (l:List Pt):(kI l).Perm l:=pg l OT
theorem jL (l:List Pt) (p:Pt):p∈kI l↔p∈l:=(jy l).mem_iff
theorem uh {l:List Pt} (h:(ids l).Nodup):(kI l).Pairwise mM:=by
 have d:(kI l).Pairwise fun p q=>OT p q=true:=sH (le:=OT) (fun p q r j k=>by simp only[OT,pE,gY]at*;unfold mM at*;omega) (fun p q=>by simp only[OT,BQ,pE,gY];unfold mM;omega) l;have c:(ids (kI l)).Nodup:=((jy l).map _).nodup_iff.2 h;have e:(kI l).Pairwise fun p q=>p.2.2≠q.2.2:=by
  unfold ids at c;exact dF.1 c
 refine(d.and e).imp fun{a b} g=>?_;have⟨f,i⟩:=g;simp only[OT,pE,gY]at f;unfold mM at*;omega
theorem Gf {l S:List Pt} (h:(ids l).Nodup) (hS:S.Pairwise mM) (a:∀p,p∈S↔p∈l):S=kI l:=
 qR xz Ev hS (uh h) fun p=>by rw[a,jL]
theorem R7:SWO (ltOf oO):=zx rq xz (fun _ _ _=>pM) (fun x y z=>by unfold mM;omega)
theorem Ig {l l':List Pt} (hu:(ids l).Nodup) (hp:l'.Perm l) (g:l'.Pairwise fun x y=>¬oO y x<0):l'=kI l:=by
 refine Gf hu ?_ fun p=>hp.mem_iff;have c:(ids l').Nodup:=(hp.map _).nodup_iff.2 hu;have d:l'.Pairwise fun p q=>p.2.2≠q.2.2:=dF.1 c;refine(g.and d).imp fun{a b} f=>?_;have⟨e,h⟩:=f;rw[rq]at e;unfold mM at*;omega
theorem PH {w:World} {base g c n:Nat} {l:List Pt} (i:l.length=n) (k:n<4611686018427387904) (h:w.ownsRow base 29 3 (aC g n c) n (l.flatMap bX)) (hu:(ids l).Nodup):
  aK 93 #[aC g n c,.func (.func 71) #[] #[]] w fun e w'=>
   e=.returned (.tuple #[])/\w'.ownsRow base 29 3 (aC g n c) n ((kI l).flatMap bX)/\w.grownBy w' (some g):=by
 have a:=nL Tryz.JO bq ai isAgg29 sizeOf29 oh oO R7 71 #[] CO (fun x y W=>UD x y W) i k h;change aK 93 _ _ _ at a;refine a.mono ?_;rintro e w' ⟨d,l',hp,j,b,f⟩;rw[Ig hu hp j]at b;exact⟨d,b,f⟩
theorem zD {w:World} {base n:Nat} {v:Value} {l:List Pt} (b:l.length=n) (i:n<4611686018427387904) (h:w.ownsRow base 29 3 v n (l.flatMap bX)) (hu:(ids l).Nodup):
  aK 93 #[v,.func (.func 94) #[] #[]] w fun e w'=>
   e=.returned (.tuple #[])/\w'.ownsRow base 29 3 v n ((fC l).flatMap bX)/\aB (fun k=>v.ownBlock=some k) w w':=by
 rcases h.2 with⟨rfl,c⟩|⟨g,j,m,rfl,o,_⟩
 .subst c;obtain rfl:l=[]:=iC b;refine(qY none 0 _ w).mono ?_;rintro e w' ⟨a,rfl⟩;exact⟨a,by simpa[fC]using h,aB.refl _ _⟩
 .refine(LH b i h hu).mono ?_;rintro e w' ⟨a,f,d⟩;exact⟨a,f,(aB.refl _ w).grown d (fun k e=>.inl e)⟩
theorem Nc {w:World} {base n:Nat} {v:Value} {l:List Pt} (b:l.length=n) (i:n<4611686018427387904) (h:w.ownsRow base 29 3 v n (l.flatMap bX)) (hu:(ids l).Nodup):
  aK 93 #[v,.func (.func 71) #[] #[]] w fun e w'=>
   e=.returned (.tuple #[])/\w'.ownsRow base 29 3 v n ((kI l).flatMap bX)/\aB (fun k=>v.ownBlock=some k) w w':=by
 rcases h.2 with⟨rfl,c⟩|⟨g,j,m,rfl,o,_⟩
 .subst c;obtain rfl:l=[]:=iC b;refine(qY none 0 _ w).mono ?_;rintro e w' ⟨a,rfl⟩;exact⟨a,by simpa[kI]using h,aB.refl _ _⟩
 .refine(PH b i h hu).mono ?_;rintro e w' ⟨a,f,d⟩;exact⟨a,f,(aB.refl _ w).grown d (fun k e=>.inl e)⟩
end
section
open Go.RowKit Go.Sort Go.Shelf Go.Lib Go.Maps
structure wJ (w:World) (lo fb n:Nat) (rv gv nv fv:Value) (l:List Pt):Prop where
 row:w.ownsRow lo 29 3 rv n (l.flatMap bX)
 ED:w.ownsRow lo 4 1 gv n ((List.replicate n false).map Value.bool)
 iU:om w lo fb n fv
 Rv:lo<=fb
 jD:w.ownsRow lo 163 7 nv (bf n).length ((bf n).flatMap pR)
def Else (w:World) (S:Nat->Prop):Prop:=∀k,k<w.heap.size->S k->∃cs t fr,w.heap[k]? =some (.cells cs t fr)/\t≠29/\t≠4/\t≠236/\t≠163
theorem p8 {S:Nat->Prop} {w w':World} {base:Nat} {e:TypeId} {sz:Nat} {v:Value} {n:Nat} {xs:List Value} (h:w.ownsRow base e sz v n xs) (K:aB S w w') (hS:∀k,k<w.heap.size->S k->∃cs t fr,w.heap[k]? =some (.cells cs t fr)/\t≠e):w'.ownsRow base e sz v n xs:=
 aU h K fun a b d=>by
  have⟨cs,t,fr,c,ht⟩:=hS a (h.lt a b).2 d;exact bz h c ht a b rfl
theorem wJ.kept {S:Nat->Prop} {w w':World} {lo fb n:Nat} {o j m i:Value} {l:List Pt} (h:wJ w lo fb n o j m i l) (K:aB S w w') (hS:Else w S):wJ w' lo fb n o j m i l:=by
 refine⟨p8 h.row K fun k g f=>?_,p8 h.ED K fun k g f=>?_,⟨bu K h.iU.blk fun f=>?_,p8 h.iU.row K fun k g f=>?_⟩,h.Rv,p8 h.jD K fun k g f=>?_⟩
 .obtain⟨cs,t,fr,a,b,c,d,e⟩:=hS k g f;exact⟨cs,t,fr,a,b⟩
 .obtain⟨cs,t,fr,a,b,c,d,e⟩:=hS k g f;exact⟨cs,t,fr,a,c⟩
 .have p:=(bg.1 h.iU.blk).1;have⟨cs,t,fr,a,b,c,d,e⟩:=hS fb p f;have:=a.symm.trans h.iU.blk;injection this with this;injection this with _ this _;exact d this
 .obtain⟨cs,t,fr,a,b,c,d,e⟩:=hS k g f;exact⟨cs,t,fr,a,e⟩
 .obtain⟨cs,t,fr,a,b,c,d,e⟩:=hS k g f;exact⟨cs,t,fr,a,e⟩
abbrev xV (rv xv gv:Value) (fb:Nat) (nv lv yv:Value) (n:Nat):Obj:=.cells #[rv,xv,gv,aj fb,nv,lv,yv,ae n] 146 (0,0)
theorem xW:eU 91:=bP func91 aL rfl
theorem mW:eU 95:=bP func95 aL rfl
theorem wK:eU 92:=bP func92 aL rfl
theorem Nf:∃i,Tryz.prog.info? 4=some i/\i.zero=some (.bool false)/\i.size=1/\i.bytes=1:=by
 have h:(Tryz.prog.info? 4).map (fun i=>(i.zero,i.size,i.bytes))=some (some (.bool false),1,1):=aL;cases hi:Tryz.prog.info? 4 with
 |none=>rw[hi]at h;cases h
 |some i=>rw[hi]at h;injection h with h;injection h with b a;injection a with a c;exact⟨i,rfl,b,a,c⟩
theorem Ng:∃i,Tryz.prog.info? 150=some i/\i.zero=some (.agg #[aM,aM])/\i.size=2/\i.bytes=48:=by
 have h:(Tryz.prog.info? 150).map (fun i=>(i.zero,i.size,i.bytes))=some (some (.agg #[aM,aM]),2,48):=aL;cases hi:Tryz.prog.info? 150 with
 |none=>rw[hi]at h;cases h
 |some i=>rw[hi]at h;injection h with h;injection h with b a;injection a with a c;exact⟨i,rfl,b,a,c⟩
theorem PI (n:Nat) (d:n<=1000000) (W:World):(Instr.makeSlice 95 (.int .i64 n) (.int .i64 n)).run prog W=.ok (aC W.heap.size n n) (W.alloc (.cells (madeCells #[.bool false] n) 4)):=by
 have⟨i,hi,c,b,a⟩:=Nf;have h:=run_make (P:=prog) W 95 4 i (.bool false) underlying95 hi c .i64 .i64 n n aa (wC _) (by rw[a];omega) aa;rw[h,iD,b,ji];rfl
theorem PK (n:Nat) (d:n<=1000000) (W:World):(Instr.makeSlice 144 (.int .i64 n) (.int .i64 n)).run prog W=.ok (aC W.heap.size n n) (W.alloc (.cells (madeCells #[aM,aM] (n*2)) 150)):=by
 have⟨i,hi,c,b,a⟩:=Ng;have h:=run_make (P:=prog) W 144 150 i (.agg #[aM,aM]) underlying144 hi c .i64 .i64 n n aa (wC _) (by rw[a];omega) aa;rw[h,iD,b];rfl
theorem zF (W:World) (base n:Nat) (a:base<=W.heap.size) (b:n<=1000000):(W.alloc (.cells (madeCells #[.bool false] n) 4)).ownsRow base 4 1 (aC W.heap.size n n) n ((List.replicate n false).map Value.bool):=by
 have h:=World.ownsRow_lit (e:=4) (size:=1) W (madeCells #[.bool false] n) n a dE (by rw[size_madeCells,ji]);rwa [toList_madeCells_one,<-FB]at h
theorem Nh (W:World) (base n:Nat) (d:base<=W.heap.size) (f:n<=1000000):dw (W.alloc (.cells (madeCells #[aM,aM] (n*2)) 150)) base W.heap.size n n (fun _=>aM) (fun _=>aM):=by
 have h:=World.ownsRow_lit (e:=150) (size:=2) W (madeCells #[aM,aM] (n*2)) n d dE (by rw[size_madeCells]);have e:(madeCells #[aM,aM] (n*2)).toList=Pz (fun _=>aM) (fun _=>aM) n:=by
  apply yU;intro i;by_cases hi:i<n*2
  .have hd:i/2<n:=aa;have⟨a,b⟩:=uL (fun _=>aM) (fun _=>aM) hd;have c:(madeCells #[aM,aM] (n*2)).toList[i]? =some (aM):=by
    simp only[madeCells,JJ,Array.getElem?_map,Array.getElem?_range,hi,gJ,eP];rcases Fb i with hm|hm<;>simp[hm]
   rw[c];rcases Fb i with hm|hm
   .rw[show i=i/2*2 by omega,a]
   .rw[show i=i/2*2+1 by omega,b]
  .rw[o9 (by simp[size_madeCells];omega),o9 (by rw[rf];omega)]
 rw[e]at h;exact h
theorem Kk {w3 a:World} {base fb n:Nat} {d m0:Int} {l:Value} {e:TypeId} {sz:Nat} {v:Value} {m:Nat} {xs:List Value} (h:w3.ownsRow base e sz v m xs) (f:e≠236) (i:w3.heap[fb]? =some (lX d m0 l n)) (j:aB (fun k=>k=fb) w3 a):a.ownsRow base e sz v m xs:=
 aU h j fun g b c=>bz h i (jk f) g b c.symm
theorem PL {w w':World} {c:Nat} {f:Array MapEntry} {d:Nat} {base:Nat} {e:TypeId} {sz:Nat} {v:Value} {n:Nat} {xs:List Value} (h:w.ownsRow base e sz v n xs) (K:aB (fun k=>k=c) w w') (b:w.heap[c]? =some (.map f d)):w'.ownsRow base e sz v n xs:=
 aU h K fun o a j=>by
  subst j;rcases h.2 with⟨rfl,-⟩|⟨g,l,m,rfl,-,i,-⟩
  .cases a
  .injection a with a;subst a;rw[i]at b;cases b
theorem wJ.VR {w w':World} {f:Nat} {j:Array MapEntry} {i:Nat} {lo fb n:Nat} {g c d b:Value} {l:List Pt} (h:wJ w lo fb n g c d b l) (K:aB (fun k=>k=f) w w') (a:w.heap[f]? =some (.map j i)):wJ w' lo fb n g c d b l:=
 ⟨PL h.row K a,PL h.ED K a,⟨bu K h.iU.blk (fun e=>by subst e;have m:=h.iU.blk.symm.trans a;cases m),PL h.iU.row K a⟩,h.Rv,PL h.jD K a⟩
def ed (R:List Pt):List Nat:=(kI R).map fun p=>R.idxOf p
theorem R8 {R:List Pt} {i:Nat} (hi:i<(ed R).length):cu R (ed R)[i]=(kI R)[i]'(by simpa[ed]using hi):=by
 have a:i<(kI R).length:=by simpa[ed]using hi
 have c:(kI R)[i]∈R:=(jL R _).1 (bC a);have b:=JB c;simp only[ed,gq,cu];rw[jA,cK b];simp
theorem kJ (R:List Pt):(ed R).length=R.length:=by simp[ed,(jy R).length_eq]
theorem CP {R:List Pt} {p:Pt} (h:p∈R):cu R (R.idxOf p)=p:=by
 have a:=JB h;simp only[cu];rw[jA,cK a];simp
theorem ru {R:List Pt} (g:R.Pairwise kY) (hu:(ids R).Nodup):dm R (List.replicate R.length false) (ed R):=by
 have f:R.Nodup:=g.imp fun{a b} h e=>by subst e;exact uF _ h
 have j:(kI R).Nodup:=(jy R).nodup_iff.2 f;refine⟨g,hu,ax,?_,fun i=>?_,?_⟩
 .unfold ed;refine dF.2 (Bp (fun{p q} hp c h e=>h ?_) j);rw[<-CP ((jL R p).1 hp),<-CP ((jL R q).1 c),e]
 .rw[sI];constructor
  .intro h;unfold ed at h;obtain⟨p,hp,rfl⟩:=dD.1 h;rw[aO (JB ((jL R p).1 hp))]
  .intro h;have hi:i<R.length:=by
    by_cases d:i<R.length
    .exact d
    .rw[aN d]at h;cases h
   unfold ed;refine dD.2 ⟨R[i],(jL R _).2 (bC hi),?_⟩;exact List.Nodup.idxOf_getElem f i hi
 .unfold ed;refine dF.2 (Bp (fun{p q} hp c h=>?_) (uh hu));rw[CP ((jL R p).1 hp),CP ((jL R q).1 c)];exact h
theorem gm {j:Nat} (h:0<j):bf j=(dU 0 j).nodes 0:=by unfold bf;rw[aN aa]
theorem lJ {j:Nat} {t:FT} {s:Nat} (h:FT.At (bf j) t s):0<j:=by
 have:=h.lt;rw[dB]at this;omega
theorem lZ {j:Nat} (h:0<j):(dU 0 j).root 0=2*j-2:=by
 have:=fJ 0 j h;unfold FT.root;omega
theorem uM {j k:Nat} (h:k<(bf j).length):∃t s,FT.At (bf j) t s/\t.root s=k:=by
 have b:0<j:=by rw[dB]at h;omega
 have a:=kH j b;rw[gm b]at h a |-;rw[FT.iR]at h;have c:k<((dU 0 j).subs 0).length:=by rw[FT.fO];exact h
 exact⟨_,_,FT.lG _ 0 a _ (bC c),by rw[FT.pY];omega⟩
abbrev VS (t:FT) (s:Nat) (l r:FT) (q:Nat):Prop:=(t=l/\s=q)\/(t=r/\s=q+l.size)
structure zG (w:World) (B j:Nat) (R:List Pt) (YS:List Nat) (m:Nat) (LN LL:Nat->Value):Prop where
 VT:∀t s,FT.At (bf j) t s->(t.root s=2*j-2\/∃l r q,FT.At (bf j) (.node l r) q/\m<=(FT.node l r).root q/\VS t s l r q)->w.ownsRow B 27 1 (LN (t.root s)) (nl YS t).length (((nl YS t).map (ku R)).map (Value.int .u32))
 emp:∀l r q,FT.At (bf j) (.node l r) q->(FT.node l r).root q<m->LN (l.root q)=aM/\LN (r.root (q+l.size))=aM
 Co:∀l r q,FT.At (bf j) (.node l r) q->m<=(FT.node l r).root q->w.ownsRow B 3 1 (LL ((FT.node l r).root q)) (lf l.hi (nl YS (.node l r))).length ((lf l.hi (nl YS (.node l r))).map (Value.int .i64))
 Ez:∀k,k<(bf j).length->m<=k->(∃a n c,LL k=.slice a n c)/\∀g,(LL k).ownBlock=some g->B<=g/\g<w.heap.size
 nil:∀k,k<m->LL k=aM
 R9:∀k,k<(bf j).length->∀g,(LN k).ownBlock=some g->B<=g/\g<w.heap.size
 Jv:∀i k,i<(bf j).length->k<(bf j).length->i≠k->∀g,(LN i).ownBlock=some g->(LN k).ownBlock≠some g
 H6:∀i k,i<(bf j).length->k<(bf j).length->i≠k->∀g,(LL i).ownBlock=some g->(LL k).ownBlock≠some g
section
variable {w w':World} {B base gl n c j k:Nat} {R:List Pt} {YS:List Nat} {LN LL:Nat->Value}
theorem zG.leaf (h:zG w B j R YS (k+1) LN LL) (G:dw w base gl n c LN LL) {a s:Nat} (H:FT.At (bf j) (.leaf a) s) (I:(FT.leaf a).root s=k) (C:aB (fun b=>b=gl) w w') (O:B<=w.heap.size) {vf:Value} (M:∃a m c,vf=.slice a m c) (D:∀g,vf.ownBlock=some g->w.heap.size<=g/\g<w'.heap.size):
  zG w' B j R YS k LN (upd LL k vf):=by
 have J:∀l r q,FT.At (bf j) (.node l r) q->k<=(FT.node l r).root q->k+1<=(FT.node l r).root q:=fun l r q d f=>by
  by_cases e:(FT.node l r).root q=k
  .have:=(FT.At.unique H d (by rw[I,e])).1;cases this
  .omega
 have P:k<(bf j).length:=I▸H.lt;have S:=C.size;refine⟨fun t N d f=>?_,fun l r q d f=>h.emp l r q d aa,fun l r q d f=>?_,fun i d f=>?_,fun i d=>?_,fun i d g f=>?_,h.Jv,fun i E d f o g p v=>?_⟩
 .have o:=h.VT t N d (f.imp id fun⟨l,r,q,x,y,L⟩=>⟨l,r,q,x,J l r q x y,L⟩);exact aU o C fun g z A=>bB G o ai g (by rw[A];rfl) z
 .have p:=J l r q d f;have o:=h.Co l r q d p;rw[upd_ne aa];exact aU o C fun g z A=>bB G o ai g (by rw[A];rfl) z
 .by_cases e:i=k
  .subst e;rw[upd_same];exact⟨M,fun g u=>by have:=D g u;omega⟩
  .rw[upd_ne e];have⟨x,y⟩:=h.Ez i d aa;exact⟨x,fun g u=>by have:=y g u;omega⟩
 .rw[upd_ne aa];exact h.nil i aa
 .have:=h.R9 i d g f;omega
 .have K:∀i,i<(bf j).length->i≠k->∀g,(LL i).ownBlock=some g->g<w.heap.size:=fun i hi Q g u=>by
   by_cases e:i<k
   .rw[h.nil i aa]at u;cases u
   .exact((h.Ez i hi aa).2 g u).2
  by_cases e:i=k
  .subst e;rw[upd_same]at p;rw[upd_ne (jk o)]at v;have:=K E f (jk o) g v;have:=D g p;omega
  .rw[upd_ne e]at p;by_cases F:E=k
   .subst F;rw[upd_same]at v;have:=K i d e g p;have:=D g v;omega
   .rw[upd_ne F]at v;exact h.H6 i E d f o g p v
theorem zG.node (h:zG w B j R YS (k+1) LN LL) (W:dw w base gl n c LN LL) {l r:FT} {s:Nat} (H:FT.At (bf j) (.node l r) s) (af:(FT.node l r).wf) (X:(FT.node l r).root s=k) (M:aB (fun b=>b=gl) w w') (L:B<=w.heap.size) {vl vr vf:Value}
  (ab:w'.ownsRow w.heap.size 27 1 vl ((nl YS (.node l r)).filter fun i=>decide (i<l.hi)).length ((((nl YS (.node l r)).filter fun i=>decide (i<l.hi)).map (ku R)).map (Value.int .u32)))
  (ad:w'.ownsRow w.heap.size 27 1 vr ((nl YS (.node l r)).filter fun i=>!decide (i<l.hi)).length ((((nl YS (.node l r)).filter fun i=>!decide (i<l.hi)).map (ku R)).map (Value.int .u32)))
  (P:w'.ownsRow w.heap.size 3 1 vf (lf l.hi (nl YS (.node l r))).length ((lf l.hi (nl YS (.node l r))).map (Value.int .i64))) (O:∀g,vl.ownBlock=some g->vr.ownBlock≠some g):
  zG w' B j R YS k (upd (upd LN (l.root s) vl) (r.root (s+l.size)) vr) (upd LL k vf):=by
 have J:=lJ H;have an:=FT.xK l r s;have ao:=H.left.lt;have ap:=H.right.lt;have N:=FT.Al (gm J▸H);rw[lZ J]at N;have Z:∀l' f q,FT.At (bf j) (.node l' f) q->(FT.node l' f).root q=k->l'=l/\f=r/\q=s:=fun l' f q d a=>by
  have⟨C,u⟩:=FT.At.unique d H (by rw[a,X]);cases C;exact⟨rfl,rfl,u⟩
 have Y:∀l' f q,FT.At (bf j) (.node l' f) q->(FT.node l' f).root q≠k->l'.root q≠l.root s/\l'.root q≠r.root (s+l.size)/\f.root (q+l'.size)≠l.root s/\f.root (q+l'.size)≠r.root (s+l.size):=fun l' f q d a=>by
  have hu:=fun e=>a ((FT.Kh (gm J▸d) (gm J▸H) e).trans X);exact⟨fun e=>hu (.inl e),fun e=>hu (.inr (.inl e)),fun e=>hu (.inr (.inr (.inl e))),fun e=>hu (.inr (.inr (.inr e)))⟩
 have aq:=M.size;have ac:=ab.lt;have ae:=ad.lt;have Q:=P.lt;have S:∀{v:Value} {m:Nat} {xs:List Value},w.ownsRow B 27 1 v m xs->w'.ownsRow B 27 1 v m xs:=fun p=>aU p M fun g C u=>bB W p ai g (by rw[u];rfl) C;have ak:∀{v:Value} {m:Nat} {xs:List Value},w.ownsRow B 3 1 v m xs->w'.ownsRow B 3 1 v m xs:=fun p=>aU p M fun g C u=>bB W p ai g (by rw[u];rfl) C;refine⟨fun t ah d a=>?_,fun l' f q d a=>?_,fun l' f q d a=>?_,fun i d a=>?_,fun i d=>?_,fun i d g a=>?_,fun i I d a p g D A=>?_,fun i I d a p g D A=>?_⟩
 .rcases a with a|⟨l',f,q,x,z,E⟩
  .rw[a,upd_ne (jk N.2),upd_ne (jk N.1),<-a];exact S (h.VT t ah d (.inl a))
  .by_cases e:(FT.node l' f).root q=k
   .obtain⟨rfl,rfl,rfl⟩:=Z l' f q x e;rcases E with⟨rfl,rfl⟩|⟨rfl,rfl⟩
    .rw[upd_ne aa,upd_same,uD YS t f af];exact bM ab L
    .rw[upd_same,pI YS l' t af];exact bM ad L
   .obtain⟨F,y,G,K⟩:=Y l' f q x e;have p:=h.VT t ah d (.inr ⟨l',f,q,x,aa,E⟩);rcases E with⟨rfl,rfl⟩|⟨rfl,rfl⟩
    .rw[upd_ne y,upd_ne F];exact S p
    .rw[upd_ne K,upd_ne G];exact S p
 .obtain⟨F,y,G,K⟩:=Y l' f q d aa;have⟨T,aj⟩:=h.emp l' f q d aa;rw[upd_ne y,upd_ne F,upd_ne K,upd_ne G];exact⟨T,aj⟩
 .by_cases e:(FT.node l' f).root q=k
  .obtain⟨rfl,rfl,rfl⟩:=Z l' f q d e;rw[e,upd_same];exact bM P L
  .rw[upd_ne e];exact ak (h.Co l' f q d aa)
 .by_cases e:i=k
  .subst e;rw[upd_same];have⟨x,T,C⟩:=fK P;exact⟨⟨_,_,_,C⟩,fun g o=>by have:=Q g o;omega⟩
  .rw[upd_ne e];have⟨x,z⟩:=h.Ez i d aa;exact⟨x,fun g o=>by have:=z g o;omega⟩
 .rw[upd_ne aa];exact h.nil i aa
 .by_cases e:i=r.root (s+l.size)
  .subst e;rw[upd_same]at a;have:=ae g a;omega
  .rw[upd_ne e]at a;by_cases u:i=l.root s
   .subst u;rw[upd_same]at a;have:=ac g a;omega
   .rw[upd_ne u]at a;have:=h.R9 i d g a;omega
 .have U:∀i,i<(bf j).length->∀g,(upd (upd LN (l.root s) vl) (r.root (s+l.size)) vr i).ownBlock=some g->(i=r.root (s+l.size)/\vr.ownBlock=some g/\w.heap.size<=g)\/(i=l.root s/\vl.ownBlock=some g/\w.heap.size<=g)\/(i≠l.root s/\i≠r.root (s+l.size)/\(LN i).ownBlock=some g/\g<w.heap.size):=fun i hi g o=>by
   by_cases e:i=r.root (s+l.size)
   .subst e;rw[upd_same]at o;exact .inl ⟨rfl,o,(ae g o).1⟩
   .rw[upd_ne e]at o;by_cases u:i=l.root s
    .subst u;rw[upd_same]at o;exact .inr (.inl ⟨rfl,o,(ac g o).1⟩)
    .rw[upd_ne u]at o;exact .inr (.inr ⟨u,e,o,(h.R9 i hi g o).2⟩)
  rcases U i d g D with⟨x,z,E⟩|⟨x,z,E⟩|⟨al,x,z,E⟩<;>rcases U I a g A with⟨F,y,G⟩|⟨F,y,G⟩|⟨am,F,y,G⟩
  .omega
  .exact O g y z
  .omega
  .exact O g z y
  .omega
  .omega
  .omega
  .omega
  .exact h.Jv i I d a p g z y
 .have ag:∀i,i<(bf j).length->i≠k->∀g,(LL i).ownBlock=some g->g<w.heap.size:=fun i hi O g o=>by
   by_cases e:i<k
   .rw[h.nil i aa]at o;cases o
   .exact((h.Ez i hi aa).2 g o).2
  by_cases e:i=k
  .subst e;rw[upd_same]at D;rw[upd_ne (jk p)]at A;have:=ag I a (jk p) g A;have:=Q g D;omega
  .rw[upd_ne e]at D;by_cases V:I=k
   .subst V;rw[upd_same]at A;have:=ag i d e g D;have:=Q g A;omega
   .rw[upd_ne V]at A;exact h.H6 i I d a p g D A
theorem zG.cur (h:zG w B j R YS (k+1) LN LL) {t:FT} {s:Nat} (a:FT.At (bf j) t s) (c:k<=t.root s):w.ownsRow B 27 1 (LN (t.root s)) (nl YS t).length (((nl YS t).map (ku R)).map (Value.int .u32)):=by
 have b:=lJ a;refine h.VT t s a ?_;rcases FT.Ps (gm b▸a)with⟨rfl,rfl⟩|⟨l,r,q,h1,h2⟩
 .exact .inl (lZ b)
 .refine .inr ⟨l,r,q,gm b▸h1,?_,h2⟩;have:=FT.xK l r q;rcases h2 with⟨rfl,rfl⟩|⟨rfl,rfl⟩<;>omega
theorem zG.all (h:zG w B j R YS 0 LN LL) {t:FT} {s:Nat} (a:FT.At (bf j) t s):w.ownsRow B 27 1 (LN (t.root s)) (nl YS t).length (((nl YS t).map (ku R)).map (Value.int .u32)):=by
 have b:=lJ a;refine h.VT t s a ?_;rcases FT.Ps (gm b▸a)with⟨rfl,rfl⟩|⟨l,r,q,h1,h2⟩
 .exact .inl (lZ b)
 .exact .inr ⟨l,r,q,gm b▸h1,aT _,h2⟩
end
end
end Go.Proofs.YtkjdbndekceffaaGreat
