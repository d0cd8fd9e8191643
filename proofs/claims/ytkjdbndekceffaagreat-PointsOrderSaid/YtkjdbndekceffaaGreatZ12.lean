/- Made small by a program. -/
import Derived.Test.YtkjdbndekceffaaGreatZ11
set_option linter.unusedSimpArgs false
set_option linter.unusedVariables false
set_option maxRecDepth 100000
set_option maxHeartbeats 16000000
namespace Go.Proofs.YtkjdbndekceffaaGreat
open Tryz
section
open Go Go.RowKit
abbrev iH:=Nat->Option Nat
def gy (h:iH) (k:Nat) (v:Option Nat):iH:=fun j=>if j=k then v else h j
theorem fU (h:iH) (k:Nat) (v:Option Nat):gy h k v k=v:=by simp[gy]
theorem iq {h:iH} {k j:Nat} {v:Option Nat} (e:j≠k):gy h k v j=h j:=by simp[gy,e]
def held (h:iH):FT->Nat->List Nat
 |.leaf _,s=>(h s).toList
 |.node l r,s=>(h ((FT.node l r).root s)).toList++(held h l s++held h r (s+l.size))
theorem bK {h h':iH}:∀(t:FT) (s:Nat),(∀k,s<=k->k<s+t.size->h' k=h k)->held h' t s=held h t s
 |.leaf a,s,e=>by
  show(h' s).toList=(h s).toList;rw[e s (aB _) (by simp[FT.size])]
 |.node l r,s,e=>by
  have f:(FT.node l r).size=l.size+r.size+1:=rfl;have d:(FT.node l r).root s=s+(l.size+r.size+1)-1:=rfl;simp only[held];rw[e _ aa aa,bK l s (fun k b c=>e k b aa),bK r _ (fun k b c=>e k aa aa)]
theorem o5 {h:iH} {t:FT} {s i:Nat} (e:h (t.root s)=some i):∃L,held h t s=i::L:=by
 cases t with
 |leaf a=>exact⟨[],by show(h s).toList=_;rw[show h s=some i from e];rfl⟩
 |node l r=>exact⟨_,by simp only[held];rw[e];rfl⟩
theorem o6 {h:iH}:∀(t:FT) (s:Nat),(∀k,s<=k->k<s+t.size->h k=none)->held h t s=[]
 |.leaf a,s,e=>by
  show(h s).toList=[];rw[e s (aB _) (by simp[FT.size])];rfl
 |.node l r,s,e=>by
  have f:(FT.node l r).size=l.size+r.size+1:=rfl;have d:(FT.node l r).root s=s+(l.size+r.size+1)-1:=rfl;simp only[held];rw[e _ aa aa,o6 l s (fun k b c=>e k b aa),o6 r _ (fun k b c=>e k aa aa)];rfl
def gN (lt:Nat->Nat->Prop) (h:iH):FT->Nat->Prop
 |.leaf a,s=>∀i,h s=some i->i=a
 |.node l r,s=>(∀i,h ((FT.node l r).root s)=some i->(l.lo<=i/\i<r.hi)/\(∀j,j∈held h l s->lt i j)/\∀j,j∈held h r (s+l.size)->lt i j)/\
   (h ((FT.node l r).root s)=none->held h l s=[]/\held h r (s+l.size)=[])/\gN lt h l s/\gN lt h r (s+l.size)
section
variable {lt:Nat->Nat->Prop} {h h':iH}
theorem gN.congr:∀{t:FT} {s:Nat},(∀k,s<=k->k<s+t.size->h' k=h k)->gN lt h t s->gN lt h' t s
 |.leaf a,s,e,g=>by
  intro i hi;rw[e s (aB _) (by simp[FT.size])]at hi;exact g i hi
 |.node l r,s,e,g=>by
  have o:(FT.node l r).size=l.size+r.size+1:=rfl;have n:(FT.node l r).root s=s+(l.size+r.size+1)-1:=rfl;have c:=fun k (b:s<=k) (f:k<s+l.size)=>e k b aa;have d:=fun k (b:s+l.size<=k) (f:k<s+l.size+r.size)=>e k aa aa;have⟨b,f,j,m⟩:=g;refine⟨?_,?_,j.congr c,m.congr d⟩
  .rw[e _ aa aa,bK l s c,bK r _ d];exact b
  .rw[e _ aa aa,bK l s c,bK r _ d];exact f
theorem gN.span:∀{t:FT} {s:Nat},t.wf->gN lt h t s->∀i∈held h t s,t.lo<=i/\i<t.hi
 |.leaf a,s,b,c,i,hi=>by
  have:=c i (by simpa[held]using hi);subst this;simp[FT.lo,FT.hi]
 |.node l r,s,b,c,i,hi=>by
  have⟨d,g,e,f⟩:=c;have j:=FT.eT l b.1;have k:=FT.eT r b.2.1;have m:=b.2.2;simp only[held,bP,Av]at hi;show l.lo<=i/\i<r.hi;rcases hi with hi|hi|hi
  .exact(d i hi).1
  .have:=e.span b.1 i hi;omega
  .have:=f.span b.2.1 i hi;omega
theorem gN.empty:∀{t:FT} {s:Nat},gN lt h t s->h (t.root s)=none->held h t s=[]
 |.leaf a,s,b,e=>by show(h s).toList=[];rw[show h s=none from e];rfl
 |.node l r,s,b,e=>by
  obtain⟨g,f,i,j⟩:=b;obtain⟨c,d⟩:=f e;simp only[held];rw[e,c,d];rfl
theorem gN.first:∀{t:FT} {s i:Nat},gN lt h t s->h (t.root s)=some i->∀j∈held h t s,j=i\/lt i j
 |.leaf a,s,i,c,e,j,hj=>by
  left;have:h s=some j:=by simpa[held]using hj
  rw[show h s=some i from e]at this;injection this with this;exact this.symm
 |.node l r,s,i,c,e,j,hj=>by
  have⟨b,d,f,g⟩:=c;simp only[held,bP,Av]at hj;rcases hj with hj|hj|hj
  .rw[e]at hj;injection hj with hj;exact .inl hj.symm
  .exact .inr ((b i e).2.1 j hj)
  .exact .inr ((b i e).2.2 j hj)
theorem gN.none:∀(t:FT) (s:Nat),(∀k,s<=k->k<s+t.size->h k=Option.none)->gN lt h t s
 |.leaf a,s,e=>by
  intro i hi;rw[e s (aB _) (by simp[FT.size])]at hi;cases hi
 |.node l r,s,e=>by
  have j:(FT.node l r).size=l.size+r.size+1:=rfl;have g:(FT.node l r).root s=s+(l.size+r.size+1)-1:=rfl;have b:=fun k (d:s<=k) (f:k<s+l.size)=>e k d aa;have c:=fun k (d:s+l.size<=k) (f:k<s+l.size+r.size)=>e k aa aa;refine⟨fun i hi=>?_,fun _=>⟨o6 l s b,o6 r _ c⟩,gN.none l s b,gN.none r _ c⟩;rw[e _ aa aa]at hi;cases hi
end
def fillH:FT->Nat->List Nat->iH->iH
 |.leaf _,s,L,h=>match L with
  |[]=>h
  |i::_=>gy h s (some i)
 |.node l r,s,L,h=>match L with
  |[]=>h
  |i::L=>fillH r (s+l.size) (L.filter fun j=>!decide (j<l.hi)) (fillH l s (L.filter fun j=>decide (j<l.hi)) (gy h ((FT.node l r).root s) (some i)))
theorem yI (t:FT) (s:Nat) (h:iH):fillH t s [] h=h:=by cases t<;>rfl
theorem tN:∀(t:FT) (s:Nat) (L:List Nat) (h:iH) (k:Nat),(k<s\/s+t.size<=k)->fillH t s L h k=h k
 |.leaf a,s,[],h,k,b=>rfl
 |.leaf a,s,i::L,h,k,b=>by
  simp only[FT.size]at b;exact iq aa
 |.node l r,s,[],h,k,b=>rfl
 |.node l r,s,i::L,h,k,b=>by
  have d:(FT.node l r).size=l.size+r.size+1:=rfl;have c:(FT.node l r).root s=s+(l.size+r.size+1)-1:=rfl;simp only[fillH];rw[tN r _ _ _ k aa,tN l _ _ _ k aa];exact iq aa
theorem vK {lt:Nat->Nat->Prop}:∀(t:FT) (s:Nat) (L:List Nat) (h:iH),t.wf->L.Pairwise lt->L.Nodup->(∀i∈L,t.lo<=i/\i<t.hi)->(∀k,s<=k->k<s+t.size->h k=none)->
  gN lt (fillH t s L h) t s/\(held (fillH t s L h) t s).Perm L
 |t,s,[],h,m,f,o,p,n=>by
  rw[yI];exact⟨gN.none t s n,by rw[o6 t s n]⟩
 |.leaf a,s,i::L,h,m,f,o,p,n=>by
  simp only[FT.lo,FT.hi]at p;have P:i=a:=by have:=p i aA;omega
  have M:L=[]:=by
   cases L with
   |nil=>rfl
   |cons j L=>
    have:=p j aA;have:i≠j:=(lZ.1 o).1|>fun h e=>h (by simp[e]);omega
  subst P M;refine⟨fun j b=>?_,?_⟩
  .simp only[fillH,fU]at b;injection b with b;exact b.symm
  .show((gy h s (some i)) s).toList.Perm _;rw[fU];exact pG _
 |.node l r,s,i::L,h,m,f,o,p,n=>by
  have R:(FT.node l r).size=l.size+r.size+1:=rfl;have Q:(FT.node l r).root s=s+(l.size+r.size+1)-1:=rfl;have S:=FT.eT l m.1;have T:=FT.eT r m.2.1;have U:=m.2.2;rw[lV]at f;rw[lZ]at o;have z:∀j∈i::L,l.lo<=j/\j<r.hi:=p;simp only[fillH];generalize I:gy h ((FT.node l r).root s) (some i)=c;have C:∀k,k≠(FT.node l r).root s->c k=h k:=fun k g=>by rw[<-I];exact iq g
  have K:c ((FT.node l r).root s)=some i:=by rw[<-I];exact fU _ _ _
  generalize v:L.filter (fun j=>decide (j<l.hi))=A;generalize w:L.filter (fun j=>!decide (j<l.hi))=B;have G:∀j,j∈A↔j∈L/\j<l.hi:=fun j=>by rw[<-v];simp
  have H:∀j,j∈B↔j∈L/\¬j<l.hi:=fun j=>by rw[<-w];simp
  have q:=vK (lt:=lt) l s A c m.1 (by rw[<-v];exact f.2.filter _) (by rw[<-v];exact o.2.filter _) (fun j b=>by have:=(G j).1 b;have:=z j (kz _ this.1);omega) (fun k c d=>by rw[C k aa];exact n k c aa);generalize N:fillH l s A c=d at q |-;have D:∀k,(k<s\/s+l.size<=k)->d k=c k:=fun k g=>by rw[<-N];exact tN l s A c k g
  have u:=vK (lt:=lt) r (s+l.size) B d m.2.1 (by rw[<-w];exact f.2.filter _) (by rw[<-w];exact o.2.filter _) (fun j b=>by have:=(H j).1 b;have:=z j (kz _ this.1);omega) (fun k c d=>by rw[D k aa,C k aa];exact n k aa aa);generalize O:fillH r (s+l.size) B d=y at u |-;have E:∀k,(k<s+l.size\/s+l.size+r.size<=k)->y k=d k:=fun k g=>by rw[<-O];exact tN r _ B d k g
  have F:∀k,s<=k->k<s+l.size->y k=d k:=fun k _ g=>E k (.inl g);have x:y ((FT.node l r).root s)=some i:=by rw[E _ aa,D _ aa,K]
  have J:=bK l s F;have hp:(A++B).Perm L:=by rw[<-v,<-w];exact List.filter_append_perm _ L
  refine⟨⟨fun j b=>?_,fun b=>?_,q.1.congr F,u.1⟩,?_⟩
  .rw[x]at b;injection b with b;subst b;refine⟨z i aA,fun j b=>?_,fun j b=>?_⟩
   .rw[J]at b;exact f.1 j ((G j).1 ((q.2.mem_iff).1 b)).1
   .exact f.1 j ((H j).1 ((u.2.mem_iff).1 b)).1
  .rw[x]at b;cases b
  .simp only[held];rw[x,J];exact((q.2.append u.2).trans hp).cons i
def downG (more:Bool) (h:iH) (yv:Nat->Int) (y:Int) (fr ub:Nat):FT->Nat->List Nat×Nat×Bool
 |.leaf a,s=>match h s with
  |none=>([],1,true)
  |some i=>if y<yv i\/a+1<=fr\/ub<=a then([],1,true)else if fr<=i/\i<ub then([i],1,more)else([],1,true)
 |.node l r,s=>match h ((FT.node l r).root s)with
  |none=>([],1,true)
  |some i=>if y<yv i\/r.hi<=fr\/ub<=l.lo then([],1,true)else
   if(fr<=i/\i<ub)/\more=false then([i],1,false)else
   ((if fr<=i/\i<ub then[i]else[])++(downG more h yv y fr ub l s).1++(if(downG more h yv y fr ub l s).2.2 then(downG more h yv y fr ub r (s+l.size)).1 else[]),
    1+(downG more h yv y fr ub l s).2.1+(if(downG more h yv y fr ub l s).2.2 then(downG more h yv y fr ub r (s+l.size)).2.1 else 0),
    (downG more h yv y fr ub l s).2.2&&(downG more h yv y fr ub r (s+l.size)).2.2)
def zu (yv:Nat->Int) (y:Int) (fr ub i:Nat):Bool:=decide (fr<=i/\i<ub/\yv i<=y)
section
variable {lt:Nat->Nat->Prop} {h:iH} {yv:Nat->Int} {y:Int} {fr ub:Nat}
theorem ng {more:Bool} {t:FT} {s:Nat} (e:h (t.root s)=none):downG more h yv y fr ub t s=([],1,true):=by
 cases t with
 |leaf a=>have b:h s=none:=e;simp only[downG];rw[b]
 |node l r=>simp only[downG];rw[e]
theorem mF {more:Bool} {t:FT} {s i:Nat} (e:h (t.root s)=some i) (hp:y<yv i\/t.hi<=fr\/ub<=t.lo):downG more h yv y fr ub t s=([],1,true):=by
 cases t with
 |leaf a=>
  have c:h s=some i:=e;have b:y<yv i\/a+1<=fr\/ub<=a:=hp;simp only[downG];rw[c];simp only;rw[aN b]
 |node l r=>
  have b:y<yv i\/r.hi<=fr\/ub<=l.lo:=hp;simp only[downG];rw[e];simp only;rw[aN b]
theorem vL {more:Bool} {a s i:Nat} (e:h s=some i) (hp:¬(y<yv i\/a+1<=fr\/ub<=a)):downG more h yv y fr ub (.leaf a) s=(if fr<=i/\i<ub then[i]else[],1,!(decide (fr<=i/\i<ub)&&!more)):=by
 simp only[downG];rw[e];simp only;rw[aM hp];by_cases b:fr<=i/\i<ub
 .rw[aN b,aN b];simp[b]
 .rw[aM b,aM b];simp[b]
theorem BL {t:FT} {s i:Nat} (e:h (t.root s)=some i) (hp:¬(y<yv i\/t.hi<=fr\/ub<=t.lo)) (b:fr<=i/\i<ub):downG false h yv y fr ub t s=([i],1,false):=by
 cases t with
 |leaf a=>
  have c:h s=some i:=e;rw[vL c hp];simp[b]
 |node l r=>
  have d:¬(y<yv i\/r.hi<=fr\/ub<=l.lo):=hp;simp only[downG];rw[e];simp only;rw[aM d];simp[b]
theorem BM {more:Bool} {l r:FT} {s i:Nat} (e:h ((FT.node l r).root s)=some i) (hp:¬(y<yv i\/r.hi<=fr\/ub<=l.lo)) (b:(decide (fr<=i/\i<ub)&&!more)=false):downG more h yv y fr ub (.node l r) s=
   ((if fr<=i/\i<ub then[i]else[])++(downG more h yv y fr ub l s).1++(if(downG more h yv y fr ub l s).2.2 then(downG more h yv y fr ub r (s+l.size)).1 else[]),
    1+(downG more h yv y fr ub l s).2.1+(if(downG more h yv y fr ub l s).2.2 then(downG more h yv y fr ub r (s+l.size)).2.1 else 0),
    (downG more h yv y fr ub l s).2.2&&(downG more h yv y fr ub r (s+l.size)).2.2):=by
 have c:¬((fr<=i/\i<ub)/\more=false):=fun a=>by
  rw[a.2]at b;simp[a.1]at b
 conv=>lhs;simp only[downG]
 rw[e];simp only;rw[aM hp,aM c]
theorem OU {more:Bool} {t:FT} {s i:Nat} (e:h (t.root s)=some i) (hp:¬(y<yv i\/t.hi<=fr\/ub<=t.lo)) (b:fr<=i/\i<ub):[i] <+: (downG more h yv y fr ub t s).1:=by
 cases t with
 |leaf a=>
  have c:h s=some i:=e;rw[vL c hp,aN b];exact List.prefix_rfl
 |node l r=>
  cases more with
  |false=>rw[BL e hp b];exact List.prefix_rfl
  |true=>
   rw[BM e hp aA,aN b,dX];exact List.prefix_append _ _
theorem Fh {t:FT} {s i:Nat} (d:t.wf) (b:gN lt h t s) (c:∀i j,lt i j->yv i<=yv j) (e:h (t.root s)=some i) (hp:y<yv i\/t.hi<=fr\/ub<=t.lo):(held h t s).filter (zu yv y fr ub)=[]:=by
 refine xD.2 fun j a=>?_;have f:=b.span d j a;have g:yv i<=yv j:=by
  rcases b.first e j a with h3|h3
  .rw[h3];exact vo _
  .exact c _ _ h3
 unfold zu;simp only[bO];omega
theorem vM (f:∀i j,lt i j->yv i<=yv j):∀(t:FT) (s:Nat),t.wf->gN lt h t s->(downG true h yv y fr ub t s).1=(held h t s).filter (zu yv y fr ub)/\(downG true h yv y fr ub t s).2.2=true
 |.leaf a,s,d,b=>by
  cases e:h s with
  |none=>rw[ng (t:=.leaf a) e,b.empty e];exact⟨rfl,rfl⟩
  |some i=>
   by_cases hp:y<yv i\/(FT.leaf a).hi<=fr\/ub<=(FT.leaf a).lo
   .rw[mF (t:=.leaf a) e hp,Fh d b f e hp];exact⟨rfl,rfl⟩
   .have w:=b i e;simp only[downG,held];rw[e];have g:¬(y<yv i\/a+1<=fr\/ub<=a):=hp;simp only[aM g,Option.toList];by_cases c:fr<=i/\i<ub
    .rw[aN c];have:zu yv y fr ub i=true:=by unfold zu;simp only[bO];omega
     simp[this]
    .rw[aM c];have:zu yv y fr ub i=false:=by unfold zu;simp only[iI];omega
     simp[this]
 |.node l r,s,d,b=>by
  cases e:h ((FT.node l r).root s)with
  |none=>rw[ng e,b.empty e];exact⟨rfl,rfl⟩
  |some i=>
   by_cases hp:y<yv i\/(FT.node l r).hi<=fr\/ub<=(FT.node l r).lo
   .rw[mF e hp,Fh d b f e hp];exact⟨rfl,rfl⟩
   .obtain⟨u,v,k,m⟩:=b;have⟨n,o⟩:=vM f l s d.1 k;have⟨p,q⟩:=vM f r _ d.2.1 m;have g:¬(y<yv i\/r.hi<=fr\/ub<=l.lo):=hp;simp only[downG,held];rw[e];simp only[aM g,n,o,p,q,Option.toList,kX,lY,Eu];by_cases c:fr<=i/\i<ub
    .have:zu yv y fr ub i=true:=by unfold zu;simp only[bO];omega
     simp[this,c]
    .have:zu yv y fr ub i=false:=by unfold zu;simp only[iI];omega
     simp[this,c]
theorem Mh {α:Type} {a b:List α} (h:a≠[]):(a++b).take 1=a.take 1:=by
 cases a with
 |nil=>exact absurd rfl h
 |cons x a=>rfl
theorem yJ (g:∀i j,lt i j->yv i<=yv j):∀(t:FT) (s:Nat),t.wf->gN lt h t s->(downG false h yv y fr ub t s).1=((held h t s).filter (zu yv y fr ub)).take 1/\((downG false h yv y fr ub t s).2.2=true↔(held h t s).filter (zu yv y fr ub)=[])
 |.leaf a,s,d,b=>by
  cases e:h s with
  |none=>rw[ng (t:=.leaf a) e,b.empty e];simp
  |some i=>
   by_cases hp:y<yv i\/(FT.leaf a).hi<=fr\/ub<=(FT.leaf a).lo
   .rw[mF (t:=.leaf a) e hp,Fh d b g e hp];simp
   .have A:=b i e;simp only[downG,held];rw[e];have m:¬(y<yv i\/a+1<=fr\/ub<=a):=hp;simp only[aM m,Option.toList];by_cases c:fr<=i/\i<ub
    .rw[aN c];have:zu yv y fr ub i=true:=by unfold zu;simp only[bO];omega
     simp[this]
    .rw[aM c];have:zu yv y fr ub i=false:=by unfold zu;simp only[iI];omega
     simp[this]
 |.node l r,s,d,b=>by
  cases e:h ((FT.node l r).root s)with
  |none=>rw[ng e,b.empty e];simp
  |some i=>
   by_cases hp:y<yv i\/(FT.node l r).hi<=fr\/ub<=(FT.node l r).lo
   .rw[mF e hp,Fh d b g e hp];simp
   .obtain⟨x,z,o,p⟩:=b;have⟨u,n⟩:=yJ g l s d.1 o;have⟨v,w⟩:=yJ g r _ d.2.1 p;have m:¬(y<yv i\/r.hi<=fr\/ub<=l.lo):=hp;simp only[downG,held];rw[e];simp only[aM m,Option.toList,kX,lY,Eu];by_cases c:fr<=i/\i<ub
    .have:zu yv y fr ub i=true:=by unfold zu;simp only[bO];omega
     simp[this,c]
    .have:zu yv y fr ub i=false:=by unfold zu;simp only[iI];omega
     simp only[c,false_and,jN,this,fO,u,v];cases k:(downG false h yv y fr ub l s).2.2 with
     |true=>
      have f:=n.1 k;simp only[gK,Bool.true_and,f,List.take_nil,fO];exact⟨rfl,w⟩
     |false=>
      have f:(held h l s).filter (zu yv y fr ub)≠[]:=fun q=>by rw[n.2 q]at k;cases k
      simp[f];exact(Mh f).symm
theorem vN (more:Bool):∀(t:FT) (s:Nat),(downG more h yv y fr ub t s).1.length<=(downG more h yv y fr ub t s).2.1
 |.leaf a,s=>by
  simp only[downG];split
  .simp
  .split
   .simp
   .split<;>simp
 |.node l r,s=>by
  have b:=vN more l s;have c:=vN more r (s+l.size);simp only[downG];split
  .simp
  .split
   .simp
   .split
    .simp
    .simp only[bS];split<;>split<;>simp<;>omega
theorem qA (more:Bool):∀(t:FT) (s:Nat),(downG more h yv y fr ub t s).2.1<=t.size
 |.leaf a,s=>by
  simp only[downG];split
  .simp[FT.size]
  .split
   .simp[FT.size]
   .split<;>simp[FT.size]
 |.node l r,s=>by
  have b:=qA more l s;have c:=qA more r (s+l.size);have d:(FT.node l r).size=l.size+r.size+1:=rfl;simp only[downG];split
  .simp;omega
  .split
   .simp;omega
   .split
    .simp;omega
    .simp only;split<;>omega
theorem tO {more:Bool} {m:Nat} (c:m=if more then 2 else 0):∀(t:FT) (s:Nat),t.wf->gN lt h t s->fr<=t.lo->t.hi<=ub->(downG more h yv y fr ub t s).2.1<=m*(downG more h yv y fr ub t s).1.length+1
 |.leaf a,s,b,d,f,g=>by
  simp only[downG];split
  .simp
  .split
   .simp
   .split<;>simp
 |.node l r,s,b,d,f,g=>by
  have k:(FT.node l r).lo=l.lo/\(FT.node l r).hi=r.hi:=⟨rfl,rfl⟩;have q:=FT.eT l b.1;have u:=FT.eT r b.2.1;have v:=b.2.2;cases e:h ((FT.node l r).root s)with
  |none=>rw[ng e];simp
  |some i=>
   have n:=(d.1 i e).1;have j:fr<=i/\i<ub:=aa;simp only[downG];rw[e];simp only;split
   .simp
   .cases more with
    |false=>simp[j]
    |true=>
     have o:=tO c l s b.1 d.2.2.1 aa aa;have p:=tO c r (s+l.size) b.2.1 d.2.2.2 aa aa;simp only[gK]at c;subst c;rw[aM aA];simp only[bS,dY,eZ];split
     .first|omega|(simp only[bS,dY,eZ];omega)
     .first|omega|(simp only[bS,dY,eZ];omega)
theorem tQ {more:Bool} {t:FT} {s:Nat} (hp:t.hi<=fr\/ub<=t.lo):downG more h yv y fr ub t s=([],1,true):=by
 cases e:h (t.root s)with
 |none=>exact ng e
 |some i=>exact mF e (.inr hp)
theorem tT {more:Bool} {m:Nat} (e:m=if more then 2 else 0):∀(t:FT) (s:Nat),t.wf->gN lt h t s->fr<=t.lo\/t.hi<=ub->(downG more h yv y fr ub t s).2.1<=m*(downG more h yv y fr ub t s).1.length+2*t.ht+1
 |.leaf a,s,b,c,hh=>by
  simp only[downG];split
  .simp
  .split
   .simp
   .split<;>simp
 |.node l r,s,b,c,hh=>by
  have B:(FT.node l r).lo=l.lo/\(FT.node l r).hi=r.hi:=⟨rfl,rfl⟩;have C:=FT.eT l b.1;have D:=FT.eT r b.2.1;have E:=b.2.2;have f:=tT e l s b.1 c.2.2.1;have g:=tT e r (s+l.size) b.2.1 c.2.2.2;have al:=tO (y:=y) (yv:=yv) (fr:=fr) (ub:=ub) e l s b.1 c.2.2.1;have j:=tO (y:=y) (yv:=yv) (fr:=fr) (ub:=ub) e r (s+l.size) b.2.1 c.2.2.2;have key:(downG more h yv y fr ub l s).2.1+(downG more h yv y fr ub r (s+l.size)).2.1<=m*(downG more h yv y fr ub l s).1.length+m*(downG more h yv y fr ub r (s+l.size)).1.length+2*(max l.ht r.ht)+2/\(downG more h yv y fr ub l s).2.1<=m*(downG more h yv y fr ub l s).1.length+2*(max l.ht r.ht)+1:=by
   rcases hh with hh|hh
   .have f:=f (.inl aa);by_cases q:l.hi<=ub
    .have al:=al aa q;have g:=g (.inl aa);omega
    .rw[tQ (t:=r) (.inr aa)];simp only[eZ];omega
   .have g:=g (.inr aa);by_cases p:fr<=r.lo
    .have j:=j p aa;have f:=f (.inr aa);omega
    .rw[tQ (t:=l) (.inl aa)];simp only[eZ];omega
  simp only[downG,FT.ht];generalize downG more h yv y fr ub l s=n at*;generalize downG more h yv y fr ub r (s+l.size)=o at*;have⟨d,x,k⟩:=n;have⟨i,z,w⟩:=o;simp only at key |-;split
  .simp
  .split
   .simp
   .split
    .simp
    .have u:∀A:List Nat,m*(A++d++i).length=m*A.length+m*d.length+m*i.length:=fun A=>by rw[bS,bS,kL,kL]
     have v:∀A:List Nat,m*(A++d).length=m*A.length+m*d.length:=fun A=>by rw[bS,kL]
     cases k with
     |true=>simp only[gK];rw[u];omega
     |false=>simp only[qM,jN,iJ];rw[v];omega
theorem vO {more:Bool} {m:Nat} (e:m=if more then 2 else 0):∀(t:FT) (s:Nat),t.wf->gN lt h t s->(downG more h yv y fr ub t s).2.1<=m*(downG more h yv y fr ub t s).1.length+4*t.ht+1
 |.leaf a,s,b,c=>by
  simp only[downG];split
  .simp
  .split
   .simp
   .split<;>simp
 |.node l r,s,b,c=>by
  have z:(FT.node l r).lo=l.lo/\(FT.node l r).hi=r.hi:=⟨rfl,rfl⟩;have D:=FT.eT l b.1;have E:=FT.eT r b.2.1;have F:=b.2.2;have B:=vO e l s b.1 c.2.2.1;have C:=vO e r (s+l.size) b.2.1 c.2.2.2;have g:=tT (y:=y) (yv:=yv) (fr:=fr) (ub:=ub) e l s b.1 c.2.2.1;have i:=tT (y:=y) (yv:=yv) (fr:=fr) (ub:=ub) e r (s+l.size) b.2.1 c.2.2.2;have key:(downG more h yv y fr ub l s).2.1+(downG more h yv y fr ub r (s+l.size)).2.1<=m*(downG more h yv y fr ub l s).1.length+m*(downG more h yv y fr ub r (s+l.size)).1.length+4*(max l.ht r.ht)+2/\(downG more h yv y fr ub l s).2.1<=m*(downG more h yv y fr ub l s).1.length+4*(max l.ht r.ht)+1:=by
   refine⟨?_,aa⟩;by_cases p:ub<=r.lo
   .rw[tQ (t:=r) (.inr p)];simp only[eZ];omega
   .by_cases o:l.hi<=fr
    .rw[tQ (t:=l) (.inl o)];simp only[eZ];omega
    .have g:=g (.inr aa);have i:=i (.inl aa);omega
  simp only[downG,FT.ht];generalize downG more h yv y fr ub l s=k at*;generalize downG more h yv y fr ub r (s+l.size)=n at*;have⟨d,w,j⟩:=k;have⟨f,x,v⟩:=n;simp only at key |-;split
  .simp
  .split
   .simp
   .split
    .simp
    .have q:∀A:List Nat,m*(A++d++f).length=m*A.length+m*d.length+m*f.length:=fun A=>by rw[bS,bS,kL,kL]
     have u:∀A:List Nat,m*(A++d).length=m*A.length+m*d.length:=fun A=>by rw[bS,kL]
     cases j with
     |true=>simp only[gK];rw[q];omega
     |false=>simp only[qM,jN,iJ];rw[u];omega
end
def pullH (lb:Nat->Nat->Bool):FT->Nat->iH->iH
 |.leaf _,s,h=>gy h s none
 |.node l r,s,h=>match h (l.root s),h (r.root (s+l.size))with
  |none,none=>gy h ((FT.node l r).root s) none
  |some i,none=>pullH lb l s (gy h ((FT.node l r).root s) (some i))
  |none,some j=>pullH lb r (s+l.size) (gy h ((FT.node l r).root s) (some j))
  |some i,some j=>if lb i j then pullH lb l s (gy h ((FT.node l r).root s) (some i))else pullH lb r (s+l.size) (gy h ((FT.node l r).root s) (some j))
structure Ord (lt:Nat->Nat->Prop) (lb:Nat->Nat->Bool) (n:Nat):Prop where
 tr:∀i j k,lt i j->lt j k->lt i k
 CU:∀i j,i<n->j<n->i≠j->lt i j\/lt j i
 dec:∀i j,lb i j=true↔lt i j
section
variable {lt:Nat->Nat->Prop} {lb:Nat->Nat->Bool} {n:Nat}
theorem jE:∀(t:FT) (s:Nat) (h:iH) (k:Nat),(k<s\/s+t.size<=k)->pullH lb t s h k=h k
 |.leaf a,s,h,k,b=>by
  simp only[FT.size]at b;exact iq aa
 |.node l r,s,h,k,b=>by
  have d:(FT.node l r).size=l.size+r.size+1:=rfl;have c:(FT.node l r).root s=s+(l.size+r.size+1)-1:=rfl;have hu:∀v,gy h ((FT.node l r).root s) v k=h k:=fun v=>iq aa;simp only[pullH];cases h (l.root s)<;>cases h (r.root (s+l.size))<;>simp only
  .exact hu _
  .rw[jE r _ _ k aa,hu]
  .rw[jE l s _ k aa,hu]
  .split
   .rw[jE l s _ k aa,hu]
   .rw[jE r _ _ k aa,hu]
theorem zY {l r:FT} {s i:Nat} {h b:iH} (m:(FT.node l r).wf)
  (c:b ((FT.node l r).root s)=some i) (g:gN lt b l s) (k:gN lt b r (s+l.size)) (f:l.lo<=i/\i<r.hi)
  (d:∀j∈held b l s,lt i j) (e:∀j∈held b r (s+l.size),lt i j):gN lt b (.node l r) s:=
 ⟨fun j a=>by
  rw[c]at a;injection a with a;subst a;exact⟨f,d,e⟩,(fun a=>by rw[c]at a;cases a),g,k⟩
theorem qB (O:Ord lt lb n):∀(t:FT) (s:Nat) (h:iH) (x:Nat),t.wf->t.hi<=n->gN lt h t s->h (t.root s)=some x->(held h t s).Nodup->
  gN lt (pullH lb t s h) t s/\(x::held (pullH lb t s h) t s).Perm (held h t s)
 |.leaf a,s,h,x,c,ac,ag,e,V=>by
  have ah:h s=some x:=e;refine⟨fun i hi=>?_,?_⟩
  .simp only[pullH,fU]at hi;cases hi
  .show(x::((gy h s none) s).toList).Perm (h s).toList;rw[fU,ah];exact pG _
 |.node l r,s,h,x,c,ac,ag,e,V=>by
  have au:(FT.node l r).size=l.size+r.size+1:=rfl;have ar:(FT.node l r).root s=s+(l.size+r.size+1)-1:=rfl;have av:l.root s=s+l.size-1:=rfl;have aC:r.root (s+l.size)=s+l.size+r.size-1:=rfl;have pl:=l.size_pos;have ax:=r.size_pos;have ay:=FT.eT l c.1;have az:=FT.eT r c.2.1;have aB:=c.2.2;have aq:r.hi<=n:=ac;have⟨Z,ab,q,u⟩:=ag;have ak:held h (.node l r) s=x::(held h l s++held h r (s+l.size)):=by simp only[held];rw[e];rfl
  rw[ak]at V |-;have ad:=(lZ.1 V).2;rw[mI]at ad;have⟨ae,af,aw⟩:=ad;have hu:∀v k,k≠(FT.node l r).root s->gy h ((FT.node l r).root s) v k=h k:=fun v k z=>iq z;have U:∀v,gy h ((FT.node l r).root s) v ((FT.node l r).root s)=v:=fun v=>fU _ _ _;have S:∀v,∀k,s<=k->k<s+l.size->gy h ((FT.node l r).root s) v k=h k:=fun v k Z ab=>hu v k aa;have T:∀v,∀k,s+l.size<=k->k<s+l.size+r.size->gy h ((FT.node l r).root s) v k=h k:=fun v k Z ab=>hu v k aa;have X:∀i,h (l.root s)=some i->(∀j∈held h r (s+l.size),lt i j)->
    gN lt (pullH lb l s (gy h ((FT.node l r).root s) (some i))) (.node l r) s/\(x::held (pullH lb l s (gy h ((FT.node l r).root s) (some i))) (.node l r) s).Perm (x::(held h l s++held h r (s+l.size))):=fun i m R=>by
   have A:=U (some i);have o:=S (some i);have p:=T (some i);have I:gy h ((FT.node l r).root s) (some i) (l.root s)=some i:=by rw[hu _ _ aa];exact m
   generalize gy h ((FT.node l r).root s) (some i)=w at*;have P:=bK l s o;have Q:=bK r _ p;have⟨G,d⟩:=qB O l s w i c.1 aa (q.congr o) I (by rw[P];exact ae);have D:=jE (lb:=lb) l s w;generalize pullH lb l s w=y at*;rw[P]at d;have K:∀k,s+l.size<=k->k<s+l.size+r.size->y k=h k:=fun k E F=>by rw[D k (.inr E)];exact p k E F
   have B:y ((FT.node l r).root s)=some i:=by rw[D _ aa];exact A
   have W:(i::held y l s).Nodup:=d.nodup_iff.2 ae;have N:i∈held h l s:=d.mem_iff.1 aA;have al:=q.span c.1 i N;refine⟨zY (h:=h) c B G (u.congr K) aa (fun j b=>?_) (fun j b=>?_),?_⟩
   .rcases q.first m j (d.mem_iff.1 (kz _ b))with h9|h9
    .subst h9;exact absurd b (lZ.1 W).1
    .exact h9
   .rw[bK r _ K]at b;exact R j b
   .refine List.Perm.cons x ?_;simp only[held];rw[B,bK r _ K];exact d.append_right _
  have Y:∀i,h (r.root (s+l.size))=some i->(∀j∈held h l s,lt i j)->
    gN lt (pullH lb r (s+l.size) (gy h ((FT.node l r).root s) (some i))) (.node l r) s/\(x::held (pullH lb r (s+l.size) (gy h ((FT.node l r).root s) (some i))) (.node l r) s).Perm (x::(held h l s++held h r (s+l.size))):=fun i m R=>by
   have A:=U (some i);have o:=S (some i);have p:=T (some i);have I:gy h ((FT.node l r).root s) (some i) (r.root (s+l.size))=some i:=by rw[hu _ _ aa];exact m
   generalize gy h ((FT.node l r).root s) (some i)=w at*;have P:=bK l s o;have Q:=bK r _ p;have⟨G,d⟩:=qB O r (s+l.size) w i c.2.1 aa (u.congr p) I (by rw[Q];exact af);have D:=jE (lb:=lb) r (s+l.size) w;generalize pullH lb r (s+l.size) w=y at*;rw[Q]at d;have J:∀k,s<=k->k<s+l.size->y k=h k:=fun k E F=>by rw[D k (.inl F)];exact o k E F
   have B:y ((FT.node l r).root s)=some i:=by rw[D _ aa];exact A
   have W:(i::held y r (s+l.size)).Nodup:=d.nodup_iff.2 af;have N:i∈held h r (s+l.size):=d.mem_iff.1 aA;have al:=u.span c.2.1 i N;refine⟨zY (h:=h) c B (q.congr J) G aa (fun j b=>?_) (fun j b=>?_),?_⟩
   .rw[bK l _ J]at b;exact R j b
   .rcases u.first m j (d.mem_iff.1 (kz _ b))with h9|h9
    .subst h9;exact absurd b (lZ.1 W).1
    .exact h9
   .refine List.Perm.cons x ?_;simp only[held];rw[B,bK l _ J];show(i::(held h l s++held y r (s+l.size))).Perm _;exact(List.perm_middle.symm).trans (d.append_left _)
  have am:∀i,h (l.root s)=some i->i<n/\i<l.hi:=fun i m=>by
   have⟨L,H⟩:=o5 m;have:=q.span c.1 i (by rw[H];simp);omega
  have an:∀i,h (r.root (s+l.size))=some i->i<n/\r.lo<=i:=fun i m=>by
   have⟨L,H⟩:=o5 m;have:=u.span c.2.1 i (by rw[H];simp);omega
  simp only[pullH];split
  .rename_i f g;have ao:=q.empty f;have ap:=u.empty g;have A:=U none;have o:=S none;have p:=T none;generalize gy h ((FT.node l r).root s) none=w at*;refine⟨⟨fun j b=>?_,fun _=>?_,q.congr o,u.congr p⟩,?_⟩
   .rw[A]at b;cases b
   .rw[bK l s o,bK r _ p];exact⟨ao,ap⟩
   .refine List.Perm.cons x ?_;simp only[held];rw[A,bK l s o,bK r _ p];exact pG _
  .rename_i i f g;exact X i f (fun j b=>by rw[u.empty g]at b;exact absurd b iA)
  .rename_i j f g;exact Y j g (fun k z=>by rw[q.empty f]at z;exact absurd z iA)
  .rename_i i j f g;split
   .rename_i M;have C:=(O.dec i j).1 M;refine X i f fun k z=>?_;rcases u.first g k z with h9|h9
    .rw[h9];exact C
    .exact O.tr _ _ _ C h9
   .rename_i M;have C:lt j i:=by
     have ai:=am i f;have aj:=an j g;rcases O.CU i j ai.1 aj.1 aa with h9|h9
     .exact absurd ((O.dec i j).2 h9) M
     .exact h9
    refine Y j g fun k z=>?_;rcases q.first f k z with h9|h9
    .rw[h9];exact C
    .exact O.tr _ _ _ C h9
def dropH (lb:Nat->Nat->Bool):FT->Nat->Nat->iH->iH
 |.leaf a,s,x,h=>pullH lb (.leaf a) s h
 |.node l r,s,x,h=>if h ((FT.node l r).root s)=some x then pullH lb (.node l r) s h else if x<l.hi then dropH lb l s x h else dropH lb r (s+l.size) x h
theorem tV:∀(t:FT) (s x:Nat) (h:iH) (k:Nat),(k<s\/s+t.size<=k)->dropH lb t s x h k=h k
 |.leaf a,s,x,h,k,b=>jE (.leaf a) s h k b
 |.node l r,s,x,h,k,b=>by
  have c:(FT.node l r).size=l.size+r.size+1:=rfl;simp only[dropH];split
  .exact jE _ s h k b
  .split
   .exact tV l s x h k aa
   .exact tV r _ x h k aa
theorem vP (O:Ord lt lb n):∀(t:FT) (s:Nat) (h:iH) (x:Nat),t.wf->t.hi<=n->gN lt h t s->x∈held h t s->(held h t s).Nodup->
  gN lt (dropH lb t s x h) t s/\(x::held (dropH lb t s x h) t s).Perm (held h t s)
 |.leaf a,s,h,x,b,q,u,z,p=>by
  have e:h s=some x:=by simpa[held]using z
  exact qB O (.leaf a) s h x b q u e p
 |.node l r,s,h,x,b,q,u,z,p=>by
  have V:(FT.node l r).size=l.size+r.size+1:=rfl;have U:(FT.node l r).root s=s+(l.size+r.size+1)-1:=rfl;have pl:=l.size_pos;have X:=r.size_pos;have Y:=FT.eT l b.1;have Z:=FT.eT r b.2.1;have ab:=b.2.2;have T:r.hi<=n:=q;simp only[dropH];split
  .rename_i e;exact qB O _ s h x b q u e p
  .rename_i e;have⟨I,J,A,B⟩:=u;have RQ:=z;simp only[held,bP,Av,e,false_or]at RQ;cases m:h ((FT.node l r).root s)with
   |none=>
    have⟨R,S⟩:=J m;rw[R,S]at RQ;rcases RQ with RQ|RQ<;>exact absurd RQ iA
   |some i=>
    have K:held h (.node l r) s=i::(held h l s++held h r (s+l.size)):=by simp only[held];rw[m];rfl
    rw[K]at p |-;have H:=(lZ.1 p).2;rw[mI]at H;have⟨P,Q,W⟩:=H;have⟨C,D,E⟩:=I i m;split
    .rename_i L;have M:x∈held h l s:=by
      rcases RQ with h9|h9
      .exact h9
      .have:=B.span b.2.1 x h9;omega
     have⟨v,f⟩:=vP O l s h x b.1 aa A M P;have o:=tV (lb:=lb) l s x h;generalize dropH lb l s x h=d at*;have y:∀k,s+l.size<=k->k<s+l.size+r.size->d k=h k:=fun k F G=>o k (.inr F);have g:d ((FT.node l r).root s)=some i:=by rw[o _ aa];exact m
     refine⟨zY (h:=h) b g v (B.congr y) C (fun j c=>D j (f.mem_iff.1 (kz _ c))) (fun j c=>by rw[bK r _ y]at c;exact E j c),?_⟩;simp only[held];rw[g,bK r _ y];show(x::i::(held d l s++held h r (s+l.size))).Perm _;exact(List.Perm.swap _ _ _).trans ((f.append_right _).cons i)
    .rename_i L;have N:x∈held h r (s+l.size):=by
      rcases RQ with h9|h9
      .have:=A.span b.1 x h9;omega
      .exact h9
     have⟨v,f⟩:=vP O r (s+l.size) h x b.2.1 aa B N Q;have o:=tV (lb:=lb) r (s+l.size) x h;generalize dropH lb r (s+l.size) x h=d at*;have w:∀k,s<=k->k<s+l.size->d k=h k:=fun k F G=>o k (.inl G);have g:d ((FT.node l r).root s)=some i:=by rw[o _ aa];exact m
     refine⟨zY (h:=h) b g (A.congr w) v C (fun j c=>by rw[bK l _ w]at c;exact D j c) (fun j c=>E j (f.mem_iff.1 (kz _ c))),?_⟩;simp only[held];rw[g,bK l _ w];show(x::i::(held h l s++held d r (s+l.size))).Perm _;refine(List.Perm.swap _ _ _).trans (List.Perm.cons i ?_);exact(List.perm_middle.symm).trans (f.append_left _)
theorem yK:∀(t:FT) (s:Nat) (h:iH) (x:Nat),t.wf->gN lt h t s->t.lo<=x->x<t.hi->
  ((∀k∈t.path s x,h k≠some x)->x∉held h t s)/\
  ∀m k:Nat,(t.path s x)[m]? =some k->h k=some x->(∀i<m,∀k',(t.path s x)[i]? =some k'->h k'≠some x)->∃c b,(c,b)∈t.subs s/\k=c.root b/\dropH lb t s x h=pullH lb c b h
 |.leaf a,s,h,x,n,v,q,u=>by
  refine⟨fun f e=>f s (by simp[FT.path]) (by simpa[held]using e),fun m k g f o=>?_⟩;have J:m=0/\k=s:=by
   cases m with
   |zero=>simp[FT.path]at g;exact⟨rfl,g.symm⟩
   |succ m=>simp[FT.path]at g
  exact⟨.leaf a,s,by simp[FT.subs],by rw[J.2];rfl,rfl⟩
 |.node l r,s,h,x,n,v,q,u=>by
  have Q:=n.2.2;have D:l.lo<=x:=q;have E:x<r.hi:=u;have⟨O,P,w,y⟩:=v;have M:=w.span n.1;have N:=y.span n.2.1;have step:∀(t2:FT) (d:Nat),(FT.node l r).path s x=(FT.node l r).root s::t2.path d x->(∀p∈t2.subs d,p∈(FT.node l r).subs s)->
    (x∈held h (.node l r) s->h ((FT.node l r).root s)≠some x->x∈held h t2 d)->(h ((FT.node l r).root s)≠some x->dropH lb (.node l r) s x h=dropH lb t2 d x h)->
    (((∀k∈t2.path d x,h k≠some x)->x∉held h t2 d)/\∀m k:Nat,(t2.path d x)[m]? =some k->h k=some x->(∀i<m,∀k',(t2.path d x)[i]? =some k'->h k'≠some x)->∃c b,(c,b)∈t2.subs d/\k=c.root b/\dropH lb t2 d x h=pullH lb c b h)->
    ((∀k∈(FT.node l r).path s x,h k≠some x)->x∉held h (.node l r) s)/\
     ∀m k:Nat,((FT.node l r).path s x)[m]? =some k->h k=some x->(∀i<m,∀k',((FT.node l r).path s x)[i]? =some k'->h k'≠some x)->∃c b,(c,b)∈(FT.node l r).subs s/\k=c.root b/\dropH lb (.node l r) s x h=pullH lb c b h:=by
   intro t2 d C L G F ih;rw[C];refine⟨fun f e=>?_,fun m k g f o=>?_⟩
   .exact ih.1 (fun k I=>f k (kz _ I)) (G e (f _ aA))
   .cases m with
    |zero=>
     simp only[fw,ji]at g;subst g;exact⟨.node l r,s,by simp[FT.subs],rfl,by simp only[dropH];rw[aN f]⟩
    |succ m=>
     have K:=o 0 aa ((FT.node l r).root s) aA;have⟨c,b,z,A,B⟩:=ih.2 m k (aP g) f (fun i hi k' H=>o (i+1) aa k' (aP H));exact⟨c,b,L _ z,A,by rw[F K];exact B⟩
  by_cases e:x<l.hi
  .refine step l s (by rw[FT.path,aN e]) (fun p hp=>by simp only[FT.subs,bP];exact .inl (.inl hp)) (fun hh j=>?_) (fun j=>by simp only[dropH];rw[aM j,aN e]) (yK l s h x n.1 w D e);simp only[held,bP,Av,j,false_or]at hh;rcases hh with hh|hh
   .exact hh
   .have:=N x hh;omega
  .refine step r (s+l.size) (by rw[FT.path,aM e]) (fun p hp=>by simp only[FT.subs,bP];exact .inl (.inr hp)) (fun hh j=>?_) (fun j=>by simp only[dropH];rw[aM j,aM e]) (yK r _ h x n.2.1 y aa E);simp only[held,bP,Av,j,false_or]at hh;rcases hh with hh|hh
   .have:=M x hh;omega
   .exact hh
end
def zI (R:List Pt) (i j:Nat):Prop:=uf (bV R i) (bV R j)
def CV (R:List Pt) (i j:Nat):Bool:=decide (uf (bV R i) (bV R j))
theorem Jo {R:List Pt} (hu:(ids R).Nodup) {i k:Nat} (hi:i<R.length) (a:k<R.length) (b:i≠k):jI R i≠jI R k:=by
 unfold jI;rw[dG hi,dG a];have hid:=dA.1 hu;rcases Nat.lt_trichotomy i k with h|h|h
 .exact gQ.1 hid i k hi a h
 .exact absurd h b
 .exact fun e=>gQ.1 hid k i a hi h e.symm
theorem Jp {R:List Pt} (hu:(ids R).Nodup):Ord (zI R) (CV R) R.length:=
 ⟨fun i j k h a=>sV h a,fun i j hi c b=>by
  have:=Jo hu hi c b;unfold jI at this;unfold zI uf;omega,fun i j=>by unfold CV zI;simp⟩
def nZ (R:List Pt) (h:iH):List Nat:=if R.length=0 then[]else held h (dM 0 R.length) 0
theorem nL {R:List Pt} {h:iH} (a:0<R.length):nZ R h=held h (dM 0 R.length) 0:=by unfold nZ;rw[aM aa]
structure mg (R:List Pt) (h:iH):Prop where
 A9:R.Pairwise kE
 ids:(ids R).Nodup
 ok:0<R.length->gN (zI R) h (dM 0 R.length) 0
 jc:(nZ R h).Nodup
section
variable {R:List Pt} {h:iH} {l:List Pt}
theorem mg.lt (H:mg R h) {i:Nat} (hi:i∈nZ R h):i<R.length:=by
 by_cases a:R.length=0
 .unfold nZ at hi;rw[aN a]at hi;exact absurd hi iA
 .obtain⟨w1,w2,w3⟩:=bJ 0 R.length aa;rw[nL aa]at hi;have:=(H.ok aa).span w1 i hi;omega
theorem mg.SK (H:mg R h):(bU R).Pairwise (·<=·):=dA.2 (H.A9.imp fun h=>by unfold kE at h;omega)
def BN (R:List Pt):iH:=fillH (dM 0 R.length) 0 (dP R) fun _=>none
theorem KF (c:R.Pairwise kE) (hu:(ids R).Nodup):mg R (BN R)/\(nZ R (BN R)).Perm (dP R):=by
 have b:=qo c hu;have key:0<R.length->gN (zI R) (BN R) (dM 0 R.length) 0/\(held (BN R) (dM 0 R.length) 0).Perm (dP R):=fun a=>by
  have⟨w1,w2,w3⟩:=bJ 0 R.length a;exact vK (lt:=zI R) _ 0 (dP R) _ w1 b.TY b.nodup (fun i hi=>by have:=b.lt hi;omega) (fun _ _ _=>rfl)
 have hp:(nZ R (BN R)).Perm (dP R):=by
  by_cases a:R.length=0
  .have:dP R=[]:=gX (by rw[jV];exact a);unfold nZ;rw[aN a,this]
  .rw[nL aa];exact(key aa).2
 exact⟨⟨c,hu,fun a=>(key a).1,hp.nodup_iff.2 b.nodup⟩,hp⟩
theorem Mi (a:R.Pairwise kE) (hu:(ids R).Nodup):((nZ R (BN R)).map (bV R)).Perm R:=by
 have e:(dP R).map (bV R)=ku R:=by
  unfold dP;rw[ve]
  conv=>rhs;rw[<-List.map_id (ku R)]
  exact Ei fun p hp=>Bv ((jU R p).1 hp)
 exact(((KF a hu).2.map (bV R)).trans (by rw[e])).trans (iZ R)
def CW (R:List Pt) (x:Nat) (h:iH):iH:=dropH (CV R) (dM 0 R.length) 0 x h
theorem mg.drop (H:mg R h) {x:Nat} (c:x∈nZ R h):mg R (CW R x h)/\(x::nZ R (CW R x h)).Perm (nZ R h):=by
 have g:=H.lt c;have a:0<R.length:=aa;have⟨w1,w2,w3⟩:=bJ 0 R.length a;have d:=c;have b:=H.jc;rw[nL a]at d b;have⟨e,f⟩:=vP (Jp H.ids) (dM 0 R.length) 0 h x w1 aa (H.ok a) d b;have hp:(x::nZ R (CW R x h)).Perm (nZ R h):=by rw[nL a,nL a];exact f
 exact⟨⟨H.A9,H.ids,fun _=>e,(lZ.1 (hp.nodup_iff.2 H.jc)).2⟩,hp⟩
abbrev yL (R:List Pt) (h:iH) (l:List Pt):Prop:=((nZ R h).map (bV R)).Perm l
theorem yL.ids (H:mg R h) (c:yL R h l):(Go.Proofs.YtkjdbndekceffaaGreat.ids l).Nodup:=by
 have a:(((nZ R h).map (bV R)).map fun p=>p.2.2).Nodup:=by
  rw[ve];refine dA.2 (Ac (fun{i k} hi b d=>?_) H.jc);exact Jo H.ids (H.lt hi) (H.lt b) d
 exact(c.map _).nodup_iff.1 a
theorem yL.mem (a:yL R h l) (p:Pt):p∈l↔∃i∈nZ R h,bV R i=p:=by rw[<-a.mem_iff,dh]
theorem yL.len (a:yL R h l):(nZ R h).length=l.length:=by have:=a.length_eq;simpa using this
theorem mg.few (H:mg R h):(nZ R h).length<=R.length:=yh H.jc fun k a=>H.lt a
theorem yL.drop (H:mg R h) (a:yL R h l) {x:Nat} (i:x∈nZ R h):yL R (CW R x h) (l.filter fun q=>decide (q≠bV R x)):=by
 have⟨j,d⟩:=H.drop i;have b:(bV R x::(nZ R (CW R x h)).map (bV R)).Perm l:=(d.map (bV R)).trans a;have f:l.Nodup:=lL (R:=fun p q:Pt=>p.2.2≠q.2.2) (fun p h=>h rfl) (dA.1 (yL.ids H a));have e:=b.nodup_iff.2 f;have c:=b.filter fun q=>decide (q≠bV R x);rw[Ad aA,lU.2 (fun q g=>by
  simp only[bO];rintro rfl;exact(lZ.1 e).1 g)]at c
 exact c
def Ia (x1 x2 y:Int) (p:Pt):Bool:=decide (x1<=p.1/\p.1<=x2/\p.2.1<=y)
def xe (l:List Pt) (x1 x2 y:Int):List Int:=dE (ids (l.filter (Ia x1 x2 y)))
theorem OV (x1 x2 y:Int):(xe l x1 x2 y).length=(l.filter (Ia x1 x2 y)).length:=by unfold xe;rw[iP];simp[Go.Proofs.YtkjdbndekceffaaGreat.ids]
def iW (R:List Pt) (x1:Int):Nat:=(aV (bU R) x1).1
def l5 (R:List Pt) (x2:Int):Nat:=(aR (bU R) x2).1
def ny (more:Bool) (R:List Pt) (h:iH) (x1 x2 y:Int):List Nat×Nat:=
 if R.length=0\/x2<x1 then([],0)else
 if iW R x1<l5 R x2 then((downG more h (lI R) y (iW R x1) (l5 R x2) (dM 0 R.length) 0).1,(aV (bU R) x1).2+(aR (bU R) x2).2+(downG more h (lI R) y (iW R x1) (l5 R x2) (dM 0 R.length) 0).2.1)
 else([],(aV (bU R) x1).2+(aR (bU R) x2).2)
theorem QW (R:List Pt) (x2:Int):l5 R x2<=R.length:=by
 have:=(gq (fun i=>decide (x2<(bU R).getD i 0)) (bU R).length).2;have e:(bU R).length=R.length:=by simp[bU]
 unfold l5 aR;omega
theorem KG (H:mg R h) (x1 x2 y:Int) {i:Nat} (hi:i<R.length):zu (lI R) y (iW R x1) (l5 R x2) i=Ia x1 x2 y (bV R i):=by
 have c:i<(bU R).length:=by unfold bU;simpa using hi
 have d:(bU R)[i]=(bV R i).1:=by rw[dG hi];simp[bU]
 have a:=sF H.SK x1 c;have b:=sG H.SK x2 c;rw[d]at a b;unfold zu Ia iW l5 lI;rw[mO,bO,bO,a,b]
theorem OW (i j:Nat):zI R i j->lI R i<=lI R j:=fun h=>by unfold zI uf at h;unfold lI;omega
def yM (R:List Pt) (h:iH) (x1 x2 y:Int):List Nat:=(nZ R h).filter fun i=>Ia x1 x2 y (bV R i)
theorem KH (H:mg R h) (more:Bool) (x1 x2 y:Int):(ny more R h x1 x2 y).1=if more then yM R h x1 x2 y else(yM R h x1 x2 y).take 1:=by
 have b:(∀i∈nZ R h,Ia x1 x2 y (bV R i)=false)->([]:List Nat)=if more then yM R h x1 x2 y else(yM R h x1 x2 y).take 1:=fun d=>by
  have:yM R h x1 x2 y=[]:=xD.2 fun i hi=>by rw[d i hi];decide
  rw[this];cases more<;>rfl
 unfold ny;split
 .rename_i c;refine b fun i hi=>?_;have g:=H.lt hi;unfold Ia;simp only[iI];omega
 .rename_i c;split
  .have a:0<R.length:=aa;have⟨w1,w2,w3⟩:=bJ 0 R.length a;have e:yM R h x1 x2 y=(held h (dM 0 R.length) 0).filter (zu (lI R) y (iW R x1) (l5 R x2)):=by
    unfold yM;rw[nL a];refine oD fun i hi=>?_;rw[KG H x1 x2 y (H.lt (by rw[nL a];exact hi))]
   cases more with
   |true=>rw[e];exact(vM OW _ 0 w1 (H.ok a)).1
   |false=>rw[e];exact(yJ OW _ 0 w1 (H.ok a)).1
  .rename_i f;refine b fun i hi=>?_;rw[<-KG H x1 x2 y (H.lt hi)];unfold zu;simp only[iI];omega
theorem OX (a:yL R h l) (x1 x2 y:Int):((yM R h x1 x2 y).map (bV R)).Perm (l.filter (Ia x1 x2 y)):=by
 have:=a.filter (Ia x1 x2 y);rw[xR]at this;exact this
theorem Jq (c:yL R h l) (x1 x2 y:Int):dE ((yM R h x1 x2 y).map (jI R))=xe l x1 x2 y/\(yM R h x1 x2 y).length=(xe l x1 x2 y).length:=by
 have a:=OX c x1 x2 y;have b:((yM R h x1 x2 y).map (jI R)).Perm (Go.Proofs.YtkjdbndekceffaaGreat.ids (l.filter (Ia x1 x2 y))):=by
  have:=a.map fun p=>p.2.2;rw[ve]at this;exact this
 refine⟨?_,?_⟩
 .unfold xe;exact zV (nI _) ((qJ _ _).trans b.symm)
 .rw[OV];have:=a.length_eq;simpa using this
theorem DF (H:mg R h) (g:R.length<=100000) (more:Bool) (x1 x2 y:Int):
  (ny more R h x1 x2 y).1.length<=(ny more R h x1 x2 y).2/\(ny more R h x1 x2 y).2<=(if more then 2 else 0)*(ny more R h x1 x2 y).1.length+6*Lib.bitLen R.length+1:=by
 unfold ny;split
 .simp
 .rename_i j;have a:0<R.length:=aa;have d:(bU R).length=R.length:=by simp[bU]
  have b:=kS (bU R) x1 aa;have c:=kT (bU R) x2 aa;rw[d]at b c;split
  .obtain⟨w1,w2,w3⟩:=bJ 0 R.length a;have i:=(bI R.length aa aa).2.2;have k:=vB 0 R.length (Lib.bitLen R.length) aa;have e:=vO (more:=more) (yv:=lI R) (y:=y) (fr:=iW R x1) (ub:=l5 R x2) rfl (dM 0 R.length) 0 w1 (H.ok a);have f:=vN (h:=h) (yv:=lI R) (y:=y) (fr:=iW R x1) (ub:=l5 R x2) more (dM 0 R.length) 0;simp only;omega
  .simp only[eZ];omega
theorem Gz (H:mg R h) (d:R.length<=20000) (more:Bool) (x1 x2 y:Int):(ny more R h x1 x2 y).1.length<=R.length/\(ny more R h x1 x2 y).2<=100000:=by
 have a:=(DF H aa more x1 x2 y).2;have e:Lib.bitLen R.length<=15:=bD (fu d aa) ai;have b:(ny more R h x1 x2 y).1.length<=R.length:=by
  rw[KH H];have c:(yM R h x1 x2 y).length<=R.length:=bD (gT _ _) H.few;cases more with
  |true=>exact c
  |false=>simp only[qM,jN,eQ];omega
 refine⟨b,?_⟩;cases more<;>simp at a<;>omega
end
end
section
open Go.RowKit Go.Sort Go.Shelf Go.Lib Go.Maps
attribute [local irreducible] wpQuiet
def stk (a b:Nat):List (FT×Nat)->List Nat×Nat
 |[]=>([],0)
 |p::st=>((p.1.canon p.2 a b).1++(stk a b st).1,(p.1.canon p.2 a b).2+(stk a b st).2)
def qZ:List (FT×Nat)->Nat
 |[]=>0
 |p::st=>p.1.size+qZ st
def BO (st:List (FT×Nat)):List Nat:=(st.map fun p=>p.1.root p.2).reverse
theorem yN (p:FT×Nat) (a:List (FT×Nat)):BO (p::a)=BO a++[p.1.root p.2]:=by simp[BO]
theorem xg (a:List (FT×Nat)):(BO a).length=a.length:=by simp[BO]
theorem KI:∀a:List (FT×Nat),a.length<=qZ a
 |[]=>aB _
 |p::a=>by
  have b:=KI a;have c:=p.1.size_pos;simp only[qZ,dY];omega
theorem FT.qC (a b:Nat):∀(t:FT) (s:Nat),(t.canon s a b).2<=t.size/\(t.canon s a b).1.length<=t.size:=by
 intro t
 induction t with
 |leaf x=>
  intro s;rw[FT.canon];split<;>simp[FT.size]
 |node l r c d=>
  intro s;have e:=c s;have f:=d (s+l.size);rw[FT.canon];split
  .simp[FT.size]
  .split
   .simp[FT.size]
   .show _+_+1<=_/\((_:List Nat)++_).length<=_;rw[bS];simp only[FT.size];omega
def fA (i:Nat):Value:=.int .i64 (i:Nat)
def QX (w:World) (n a b:Nat) (e:Ending) (w':World):Prop:=
 ∃v,e=.returned (.tuple #[v,af (((dM 0 n).canon 0 a b).2:Nat),af 0])/\w'.ownsRow w.heap.size 3 1 v ((dM 0 n).canon 0 a b).1.length (((dM 0 n).canon 0 a b).1.map fA)/\Below w.heap.size w w'
theorem QY {w:World} {g off:Nat} {N:List Nd} {i:Nat} {d:Nd} (h:bQ oK 7 w (some (ae g off)) N) (hi:N[i]? =some d):
  g<w.heap.size/\w.cell? (ae g (off+i*7))=some (.int .u8 d.kind)/\w.cell? (ae g (off+i*7+1))=some (af d.l)/\w.cell? (ae g (off+i*7+2))=some (af d.r)/\w.cell? (ae g (off+i*7+3))=some (af d.fr)/\w.cell? (ae g (off+i*7+4))=some (af d.Kc)/\w.cell? (ae g (off+i*7+5))=some (af 0)/\w.cell? (ae g (off+i*7+6))=some (af d.item):=by
 have⟨a,hd⟩:=fE.1 hi;rcases h with h|⟨b,o,e,f,j⟩
 .subst h;simp at a
 .cases e;have c:=j i a;rw[hd]at c;exact⟨f,c 0 aa,c 1 aa,c 2 aa,c 3 aa,c 4 aa,c 5 aa,c 6 aa⟩
theorem xh (l:List Nat) (k:Nat):(l++[k]).map fA=l.map fA++[.int .i64 (k:Nat)]:=by simp[fA]
theorem GA (base fb n a b:Nat) (b7:Value) (cl:n<=40000) (ce:a<b) (aP:b<=n) (w:World) (h:nH w base fb n b7):
  aK 175 #[aj fb,af a,af b] w (QX w n a b):=by
 have bs:fb<w.heap.size:=(aZ.1 h.blk).1;have an:=h.blk;have aN:w.cell? (ae fb 5)=some (.bool true):=aG an;have aM:w.cell? (ae fb 4)=some (af n):=aG an;have a4:=qh fb w aN;have aV:=df n;obtain⟨b6,nc,rfl,-,-,a1⟩:=bQ.aI jq ai h.row;have bZ:∃g off,b6=some (ae g off):=by
  rcases a1 with h9|⟨g,off,e,_⟩
  .rw[h9]at aV;simp at aV;omega
  .exact⟨g,off,e⟩
 obtain⟨g,off,rfl⟩:=bZ;have a3:=sj fb n _ ⟨_,_,rfl⟩ w an;have a5:=ag (fun W (aP:Below w.heap.size w W)=>jw fb n aa aa W ((aP.cell (p:=(ae fb 5)) bs).trans aN) ((aP.cell (p:=(ae fb 4)) bs).trans aM));have bX:=bJ 0 n aa;have hS:=fe 0 n aa;have bB:=ag (jT n aa);have bI:=ag a1;have aF:Hid ((dM 0 n).root 0=2*n-2/\(dM 0 n).size=2*n-1):=⟨by unfold FT.root;omega,hS⟩;have aR:=FT.qC a b (dM 0 n) 0;rw[hS]at aR;have d1:decide ((a:Int)<0)=false:=aA;have d2:decide ((a:Int)>(b:Int))=false:=aD;have d3:decide ((b:Int)<(a:Int))=false:=aD;have d4:decide (b<a)=false:=aD;have d5:decide ((b:Int)>(n:Int))=false:=aD;have d6:decide ((n:Int)<(b:Int))=false:=aD;have d7:decide (n<b)=false:=aD;have d8:((a:Int)==(b:Int))=false:=aD;have d9:(a==b)=false:=aD;have d10:decide (a=b)=false:=aD;have cd:(aW n).length<=100000:=aa;have bF:=ag aR;unfold QX;generalize bo:(dM 0 n).canon 0 a b=C at*;have a6:=ag bo;generalize bV:aW n=D at*;clear bV an h a1 bX hS aV bo aR;go_enter func175,ntmps175
 go_wp2_with fail
 with_reducible refine a4.mono ?_
 rintro e w' ⟨rfl,bm⟩;subst w';clear a4
 go_wp2_with fail
 with_reducible refine a3.mono ?_
 rintro e w1 ⟨rfl,am⟩;clear a3 d1 d2 d3 d4 d5 d6 d7 d8 d9 d10 aN aM
 go_wp2_with fail
 refine(a5.o w1 am).mono ?_;rintro e w2 ⟨rfl,bm⟩;subst bm;clear a5
 go_wp2_with fail
 have bw:=Bj w2 w.heap.size [.int .i64 ((2*n-2:Nat):Int)] 3 am.size (by unfold maxLen;simp);simp only[dY,eZ,jL]at bw
 go_loopg [10,11,12] (2*n) (fun b5 bz b8 bA wr=>∃(c:List (FT×Nat)) (f:List Nat) (y:Nat),b8=.int .i64 y/\qZ c<=b5/\qZ c<=80000/\Below w.heap.size w wr/\Hid (∀p∈c,FT.At D p.1 p.2)/\Hid (C=(f++(stk a b c).1,y+(stk a b c).2))/\
  Hid (wr.ownsRow w.heap.size 3 1 bz f.length (f.map fA))/\Hid (wr.ownsRow w.heap.size 3 1 bA c.length ((BO c).map fA))/\Hid (∀g,bz.ownBlock=some g->bA.ownBlock≠some g))
 case atStart=>
  refine⟨[(dM 0 n,0)],[],0,rfl,?_,?_,am.trans ((aJ _ w2).alloc am.size _),?_,?_,dw _ _ _ _,?_,?_⟩
  .simp only[qZ];have:=aF.o.2;omega
  .simp only[qZ];have:=aF.o.2;omega
  .intro p hp;obtain rfl:=lW.1 hp;exact bB.o
  .show C=_;simp[stk,a6.o]
  .simp only[BO,jK,pJ,List.reverse_singleton,aF.o.1];exact bw
  .intro g h;cases h
 case round=>
  obtain⟨c,f,y,rfl,bu,ao,L,ay,X,G,P,a8⟩:=hrel;cases c with
  |nil=>
   have aO:=X.o;simp only[stk,iJ,dx]at aO;have bE:=ag aO;simp only[eZ]at P;obtain⟨U,V,rfl⟩:=fF G.o;obtain⟨cq,cr,rfl⟩:=fF P.o;clear aO X a6;go_wp2;go_ret3;rw[bE.o];exact⟨_,rfl,G.o,L⟩
  |cons p c=>
   obtain⟨t,s⟩:=p;obtain⟨U,V,rfl⟩:=fF G.o;have al:FT.At D t s:=ay.o _ (.head _);obtain⟨M,bL,bc,bd,be,bf,bM,bN⟩:=QY (bI.o.below L) al.get;have cm:=al.lt;rw[FT.Ez]at be;rw[FT.vC]at bf;obtain⟨go,bg,bT,cj,ck,bp,cg⟩:=aU P.o aA;subst bT;have S:=P.o;rw[yN,xh]at S;simp only[dY]at S bp;have bx:wr.cell? (ae go c.length)=some (af (t.root s:Nat)):=by
    have h9:=S.cellAt c.length aa;rw[nz (by simp[xg])]at h9;simpa[xg]using h9
   have a0:=l8 S (m:=c.length) aa;rw[iM,DZ (by simp[xg]),ky (by simp[xg])]at a0;have R:C=(f++((t.canon s a b).1++(stk a b c).1),y+((t.canon s a b).2+(stk a b c).2)):=X.o;have aC:(t.hi<=a\/b<=t.lo)->Hid (C=(f++(stk a b c).1,(y+1)+(stk a b c).2)):=fun h=>by
    show C=_;rw[R,FT.iC h,fO,rJ]
   have Z:¬(t.hi<=a\/b<=t.lo)->(a<=t.lo/\t.hi<=b)->Hid (C=((f++[t.root s])++(stk a b c).1,(y+1)+(stk a b c).2)):=fun h v=>by
    show C=_;rw[R,FT.rW h v,dX,rJ]
   have ad:¬(t.hi<=a\/b<=t.lo)->¬(a<=t.lo/\t.hi<=b)->∃l r,t=.node l r/\Hid (C=(f++(stk a b ((l,s)::(r,s+l.size)::c)).1,(y+1)+(stk a b ((l,s)::(r,s+l.size)::c)).2)):=fun h v=>by
    cases t with
    |leaf x=>exact absurd (by simp only[FT.lo,FT.hi]at h |-;omega) v
    |node l r=>
     refine⟨l,r,rfl,?_⟩;show C=_;rw[R,FT.mP h v];simp only[stk,dX];refine Prod.ext rfl ?_;simp only;omega
   have cc:y+1<=100000/\f.length+1<=100000:=by
    have z:=bF.o;have aL:=(FT.qC a b t s);rw[R]at z;have aM:0<(t.canon s a b).2:=by
     cases t with
     |leaf x=>rw[FT.canon];split<;>simp
     |node l r=>rw[FT.canon];split;simp;split<;>simp
    simp only[bS]at z;omega
   have b2:c.length+2<=100000:=by
    have z:=KI c;have v:t.size+qZ c<=80000:=ao;have aL:=t.size_pos;omega
   have Y:Hid (∀p∈c,FT.At D p.1 p.2):=fun p hp=>ay.o p (.tail _ hp);have E:=ag al;have aE:=ag a0;have ab:=ag (show t.size+qZ c<=_ from bu);have cn:0<t.size:=t.size_pos;obtain⟨m,aX⟩:∃m,m=c.length:=⟨_,rfl⟩;have ac:=ag aX;simp only[dY];rw[<-aX]at bx bp b2 |-;have ch:decide ((0:Int)<((m+1:Nat):Int))=true:=aA;generalize bt:t.root s=k at*;have ca:=ag bt;generalize b3:t.hi=j at*;generalize b4:t.lo=tl at*;generalize(t.top s).kind=aw at*;generalize bq:(t.top s).l=ah at*;generalize br:(t.top s).r=ak at*;generalize(t.top s).item=av at*;have O:Hid ((t.top s).l=ah/\(t.top s).r=ak):=⟨bq,br⟩;clear bt b3 b4 bq br aX S a0 R ay X P al bu;have aS:qZ c<=80000:=by have v:t.size+qZ c<=80000:=ao;omega
   have bG:Hid (t.size+qZ c<=80000):=ao;have a2:=L.size;have J:Hid (∀g,(Value.slice U f.length V).ownBlock=some g->g≠go):=fun g e d=>a8.o g e (by rw[d];rfl);have cf:f.length<=100000:=aa;clear ao a8;by_cases z:j<=a\/b<=tl
   .have I:=aC z;clear aC Z ad E O;have F:∀W,W=wr.alloc (.cells #[.int .u8 aw,af ah,af ak,af tl,af j,af 0,af av] 163)->Below w.heap.size w W/\W.ownsRow w.heap.size 3 1 (.slice U f.length V) f.length (f.map fA)/\W.ownsRow w.heap.size 3 1 (au go m bg) c.length ((BO c).map fA):=fun W e=>by
     subst e;exact⟨L.alloc a2 _,G.o.alloc _,by rw[ac.o];exact aE.o.alloc _⟩
    have a7:=ag F;clear F;by_cases v:j<=a
    .have bh:decide ((j:Int)<=(a:Int))=true:=aD;have d:decide (j<=a)=true:=aD;clear z v;go_wp2
     go_roundg (qZ c)
     case measure=>have:=ab.o;omega
     case rel=>
      obtain⟨f1,f2,f3⟩:=a7.o _ rfl;exact⟨c,f,y+1,by go_num,aB _,aS,f1,Y,I,f2,f3,fun g e d=>J.o g e (by injection d with d;exact d.symm)⟩
    .have bh:decide ((j:Int)<=(a:Int))=false:=aD;have d:decide (j<=a)=false:=aD;have aH:decide ((b:Int)<=(tl:Int))=true:=aD;have bO:decide (b<=tl)=true:=aD;clear z v;go_wp2
     go_roundg (qZ c)
     case measure=>have:=ab.o;omega
     case rel=>
      obtain⟨f1,f2,f3⟩:=a7.o _ rfl;exact⟨c,f,y+1,by go_num,aB _,aS,f1,Y,I,f2,f3,fun g e d=>J.o g e (by injection d with d;exact d.symm)⟩
   .have bh:decide ((j:Int)<=(a:Int))=false:=aD;have d:decide (j<=a)=false:=aD;have aH:decide ((b:Int)<=(tl:Int))=false:=aD;have bO:decide (b<=tl)=false:=aD;clear aC;by_cases v:a<=tl/\j<=b
    .have I:=Z z v;have bi:decide ((a:Int)<=(tl:Int))=true:=aD;have bj:decide (a<=tl)=true:=aD;have bk:decide ((j:Int)<=(b:Int))=true:=aD;have bl:decide (j<=b)=true:=aD;clear Z ad E O z v;obtain⟨i,A⟩:∃i,i=wr.alloc (.cells #[.int .u8 aw,af ah,af ak,af tl,af j,af 0,af av] 163):=⟨_,rfl⟩;have a9:Hid (i.ownsRow w.heap.size 3 1 (.slice U f.length V) f.length (f.map fA)):=by rw[A];exact G.o.alloc _
     have H:Below wr.heap.size wr i:=by rw[A];exact(aJ _ _).alloc (aB _) _
     have N:=ag H;have b1:wr.heap.size<=i.heap.size:=H.size;clear H
     go_upto_region 19 with fail
     rw[<-A];clear A
     go_wp2_with (at_builtin;refine bW nA w.heap.size a9.o [.int .i64 k] rfl (by simp[Value.oneCell']) rfl _ _ rfl rfl _ rfl dD aa aa ?_;intro b9 w3 aY M aQ)
     go_roundg (qZ c)
     case measure=>have:=ab.o;omega
     case rel=>
      have Q:Below w.heap.size w i:=L.trans (N.o.mono a2);have K:ax (fun q=>(Value.slice U f.length V).ownBlock=some q) wr w3:=((ax.refl _ wr).below N.o).grown M (fun q T=>.inl T);refine⟨c,f++[k],y+1,by go_num,aB _,aS,dB Q a9.o M Q.size (aB _),Y,I,?_,?_,?_⟩
      .show World.ownsRow _ _ _ _ _ _ _;rw[xh,bS];exact aY
      .show World.ownsRow _ _ _ _ _ _ _;have h9:=aT aE.o K (fun B e d=>J.o B d (by injection e with e;exact e.symm));rw[ac.o];exact h9
      .intro B e d;have aH:go=B:=by injection d
       rcases fQ aQ with h9|⟨q,h9,bn⟩
       .exact J.o B (h9▸e) aH.symm
       .rw[h9]at e;injection e with e;omega
    .obtain⟨l,r,bU,I⟩:=ad z v;subst bU;have bY:=E.o.left.lt;have b0:=E.o.right.lt;have bP:ah=((l.root s:Nat):Int):=by rw[<-O.o.1];simp only[FT.top];unfold FT.root;have:=l.size_pos;omega
     have bR:ak=((r.root (s+l.size):Nat):Int):=by rw[<-O.o.2];simp only[FT.top];unfold FT.root;have:=r.size_pos;omega
     have bC:=ag E.o.left;have bD:=ag E.o.right;subst bP bR;have bb:Hid ((FT.node l r).size=l.size+r.size+1):=rfl;obtain⟨kl,ap⟩:∃kl,kl=l.root s:=⟨_,rfl⟩;obtain⟨kr,aq⟩:∃kr,kr=r.root (s+l.size):=⟨_,rfl⟩;rw[<-ap]at bc bY;rw[<-aq]at bd b0;have cb:Hid (kl=l.root s/\kr=r.root (s+l.size)):=⟨ap,aq⟩;have bK:Hid ((BO ((l,s)::(r,s+l.size)::c)).map fA=(BO c).map fA++[.int .i64 (kr:Nat),.int .i64 (kl:Nat)]):=by
      show _=_;rw[yN,yN,xh,xh,ap,aq,dX];rfl
     clear ap aq Z ad O E z;obtain⟨i,A⟩:∃i,i=wr.alloc (.cells #[.int .u8 aw,af kl,af kr,af tl,af j,af 0,af av] 163):=⟨_,rfl⟩;have H:Below wr.heap.size wr i:=by rw[A];exact(aJ _ _).alloc (aB _) _
     have ar:i.heap[wr.heap.size]? =some (.cells #[.int .u8 aw,af kl,af kr,af tl,af j,af 0,af av] 163 (0,0)):=by rw[A];exact cB _ _
     have co:i.cell? (ae wr.heap.size 1)=some (af kl):=aG ar;have cp:i.cell? (ae wr.heap.size 2)=some (af kr):=aG ar;have ba:Hid (i.ownsRow w.heap.size 3 1 (au go m bg) m ((BO c).map fA)):=by
      show World.ownsRow _ _ _ _ _ _ _;rw[ac.o];exact az aE.o H
     have N:=ag H;have b1:wr.heap.size<i.heap.size:=(aZ.1 ar).1;have bv:bQ (fun x:Int=>[af x]) 1 (i.alloc (.cells #[af kr,af kl] 3)) (some (ae i.heap.size 0)) [(kr:Int),(kl:Int)]:=bQ.lit (enc:=fun x:Int=>[af x]) (sz:=1) (fun _=>rfl) i 3 [(kr:Int),(kl:Int)] _ rfl;have bH:=ag bv;clear bv H ar;by_cases aL:a<=tl
     all_goals
      first
       |(have bi:decide ((a:Int)<=(tl:Int))=true:=by simp;omega)
       |(have bi:decide ((a:Int)<=(tl:Int))=false:=by simp;omega)
      first
       |(have bj:decide (a<=tl)=true:=by simp;omega)
       |(have bj:decide (a<=tl)=false:=by simp;omega)
      first
       |(have bk:decide ((j:Int)<=(b:Int))=false:=by simp;omega)
       |(have bk:True:=trivial)
      first
       |(have bl:decide (j<=b)=false:=by simp;omega)
       |(have bl:True:=trivial)
      clear v aL
      go_upto_region 16 with fail
      rw[<-A];clear A bL bc bd be bf bM bN bx
      go_wp2_with (at_builtin;refine nC nA (enc:=fun x:Int=>[af x]) (fun _=>rfl) (fun x u hu=>by simp at hu;subst hu;rfl) w.heap.size (ba.o.alloc _) bH.o rfl _ _ rfl rfl 2 rfl (by unfold maxLen;simp;omega) aD aD ?_;intro b9 w3 aY M aQ)
      go_roundg (qZ ((l,s)::(r,s+l.size)::c))
      case measure=>have h9:=ab.o;have bn:=bb.o;simp only[qZ];omega
      case rel=>
       have Q:Below w.heap.size w (i.alloc (.cells #[af kr,af kl] 3)):=(L.trans (N.o.mono a2)).alloc aa _;have K:ax (fun q=>q=go) wr w3:=(((ax.refl _ wr).below N.o).alloc _).grown M (fun q T=>.inl (by injection T with T;exact T.symm));refine⟨(l,s)::(r,s+l.size)::c,f,y+1,by go_num,aB _,?_,dB Q (ba.o.alloc _) M Q.size (aB _),?_,I,?_,?_,?_⟩
       .have h9:=bG.o;have bn:=bb.o;simp only[qZ];omega
       .intro p hp;rcases gU.1 hp with rfl|hp
        .exact bC.o
        .rcases gU.1 hp with rfl|hp
         .exact bD.o
         .exact Y.o p hp
       .exact aT G.o K (fun B e d=>J.o B e d)
       .show World.ownsRow _ _ _ _ _ _ _;rw[bK.o,dY,dY,<-ac.o];exact aY
       .intro B e d;have ci:=(G.o.lt B e).2;rcases aQ with h9|h9
        .rw[h9]at d;exact J.o B e (by injection d with d;exact d.symm)
        .rw[h9]at d;injection d with d;simp at d;omega
end
section
open Go Go.RowKit
def VB (YS:List Nat) (d:Nd):List Nat:=YS.filter fun i=>decide (d.fr<=(i:Int)/\(i:Int)<d.Kc)
def lk (N:List Nd) (YS:List Nat) (k:Nat):List Nat:=match N[k]? with|some d=>VB YS d|none=>[]
section
variable {N:List Nd} {YS:List Nat} {yv:Nat->Int} {y1 y2:Int}
theorem QZ (t:FT) (s:Nat):VB YS (t.top s)=nl YS t:=by
 unfold VB nl;refine oD fun i _=>?_;rw[FT.Ez,FT.vC,uP];omega
theorem BP {t:FT} {s:Nat} (h:FT.At N t s):lk N YS (t.root s)=nl YS t:=by
 unfold lk;rw[h.get];exact QZ t s
theorem Jr (k:Nat):(lk N YS k).Sublist YS:=by
 unfold lk;split
 .exact Ee
 .exact List.nil_sublist _
theorem yO {a b:Nat} (i:Nat):∀(t:FT) (s:Nat),FT.At N t s->t.wf->(i∈(t.canon s a b).1.flatMap (fun k=>EA yv y1 y2 (lk N YS k))↔i∈nl YS t/\a<=i/\i<b/\y1<=yv i/\yv i<=y2):=by
 have j:∀t:FT,i∈nl YS t->t.lo<=i/\i<t.hi:=fun t hi=>by simpa using(bF.1 hi).2
 have one:∀(t:FT) (s:Nat),FT.At N t s->a<=t.lo->t.hi<=b->(i∈[t.root s].flatMap (fun k=>EA yv y1 y2 (lk N YS k))↔i∈nl YS t/\a<=i/\i<b/\y1<=yv i/\yv i<=y2):=fun t s h d e=>by
  rw[lX,List.flatMap_nil,iJ,BP h];unfold EA;rw[bF,bO];constructor
  .rintro⟨c,f⟩;have:=j t c;exact⟨c,aa,aa,f⟩
  .rintro⟨c,_,_,f⟩;exact⟨c,f⟩
 intro t
 induction t with
 |leaf x=>
  intro s h g;by_cases h0:(FT.leaf x).hi<=a\/b<=(FT.leaf x).lo
  .rw[FT.iC h0];refine⟨fun h=>absurd h aA,fun⟨d,e,c,_⟩=>?_⟩;have:=j _ d;rcases h0 with h0|h0<;>omega
  .rw[FT.canon,aM h0];refine one _ s h ?_ ?_
   .simp only[FT.hi,FT.lo]at h0 |-;omega
   .simp only[FT.hi,FT.lo]at h0 |-;omega
 |node l r m n=>
  intro s h g;by_cases h0:(FT.node l r).hi<=a\/b<=(FT.node l r).lo
  .rw[FT.iC h0];refine⟨fun h=>absurd h aA,fun⟨d,e,c,_⟩=>?_⟩;have:=j _ d;rcases h0 with h0|h0<;>omega
  .by_cases d:a<=(FT.node l r).lo/\(FT.node l r).hi<=b
   .rw[FT.rW h0 d];exact one _ s h d.1 d.2
   .rw[FT.mP h0 d];show i∈((_:List Nat)++_).flatMap _↔_;rw[gZ,bP,m s h.left g.1,n _ h.right g.2.1,sS YS l r g,oG YS l r g,bF,bF,bO,oC,iI];constructor
    .rintro(⟨⟨e,_⟩,c⟩|⟨⟨e,_⟩,c⟩)<;>exact⟨e,c⟩
    .rintro⟨e,c⟩;by_cases f:i<l.hi
     .exact .inl ⟨⟨e,f⟩,c⟩
     .exact .inr ⟨⟨e,f⟩,c⟩
theorem GD {a b:Nat} (j:YS.Nodup):∀(t:FT) (s:Nat),FT.At N t s->t.wf->((t.canon s a b).1.flatMap (fun k=>EA yv y1 y2 (lk N YS k))).Nodup:=by
 have one:∀(t:FT) (s:Nat),FT.At N t s->([t.root s].flatMap (fun k=>EA yv y1 y2 (lk N YS k))).Nodup:=fun t s h=>by
  rw[lX,List.flatMap_nil,iJ];exact lT _ (j.sublist (Jr _))
 intro t
 induction t with
 |leaf x=>
  intro s h c;rw[FT.canon];split
  .simp
  .exact one _ s h
 |node l r m n=>
  intro s h c;rw[FT.canon];split
  .simp
  .split
   .exact one _ s h
   .show(((_:List Nat)++_).flatMap _).Nodup;rw[gZ];refine mI.2 ⟨m s h.left c.1,n _ h.right c.2.1,fun i hi k g e=>?_⟩;subst e;have d:=((yO i l s h.left c.1).1 hi).1;have f:=((yO i r _ h.right c.2.1).1 g).1;have o:l.lo<=i/\i<l.hi:=by simpa using(bF.1 d).2
    have p:r.lo<=i/\i<r.hi:=by simpa using(bF.1 f).2
    have:=c.2.2;omega
end
theorem FT.OY {N:List Nd} {a b:Nat}:∀(t:FT) (s:Nat),FT.At N t s->∀k∈(t.canon s a b).1,k<N.length:=by
 intro t
 induction t with
 |leaf x=>
  intro s h k hk;rw[FT.canon]at hk;split at hk
  .cases hk
  .obtain rfl:=lW.1 hk;exact h.lt
 |node l r c d=>
  intro s h k hk;rw[FT.canon]at hk;split at hk
  .cases hk
  .split at hk
   .obtain rfl:=lW.1 hk;exact h.lt
   .rcases bP.1 hk with hk|hk
    .exact c s h.left k hk
    .exact d _ h.right k hk
end
end Go.Proofs.YtkjdbndekceffaaGreat
set_option autoImplicit false
namespace Go.Proofs.YtkjdbndekceffaaGreat
open Tryz
section
open Go
abbrev Qf:=Nat->Nat
def swp (f:Qf) (i j:Nat):Qf:=fun k=>if k=i then f j else if k=j then f i else f k
def par (j:Nat):Nat:=(j-1)/2
structure LO (lb:Nat->Nat->Bool):Prop where
 Wq:∀a b,lb a b=true->lb b a=false
 tr:∀a b c,lb b a=false->lb c b=false->lb c a=false
def HO (lb:Nat->Nat->Bool) (f:Qf) (n:Nat):Prop:=∀j,0<j->j<n->lb (f j) (f (par j))=false
section
variable {lb:Nat->Nat->Bool} (O:LO lb)
include O
end
end
section
open Go Go.RowKit
def lowO (R:List Pt):Option Nat->Option Nat->Option Nat
 |none,b=>b
 |some i,none=>some i
 |some i,some k=>if CV R k i then some k else some i
def lF (R:List Pt) (S:Nat->Prop):Option Nat->Prop
 |none=>∀j,¬S j
 |some i=>S i/\∀j,S j->j=i\/zI R i j
section
variable {R:List Pt} {S T:Nat->Prop} {a b:Option Nat}
theorem Q0 (i:Nat):¬zI R i i:=wz _
theorem yP {i j k:Nat} (h:zI R i j) (a:zI R j k):zI R i k:=sV h a
theorem lF.uniq (c:lF R S a) (d:lF R S b):a=b:=by
 cases a with
 |none=>
  cases b with
  |none=>rfl
  |some k=>exact absurd d.1 (c k)
 |some i=>
  cases b with
  |none=>exact absurd c.1 (d i)
  |some k=>
   rcases c.2 k d.1 with h|h
   .rw[h]
   .rcases d.2 i c.1 with h2|h2
    .rw[h2]
    .exact absurd (yP h h2) (Q0 _)
theorem lF.congr (h:∀j,S j↔T j) (b:lF R S a):lF R T a:=by
 cases a with
 |none=>exact fun j c=>b j ((h j).2 c)
 |some i=>exact⟨(h i).1 b.1,fun j c=>b.2 j ((h j).2 c)⟩
theorem GG {n:Nat} (O:Ord (zI R) (CV R) n) (hS:∀j,S j->j<n) (l:∀j,T j->j<n) (c:lF R S a) (d:lF R T b):lF R (fun j=>S j\/T j) (lowO R a b):=by
 cases a with
 |none=>
  refine d.congr fun j=>⟨.inr,fun h=>h.resolve_left (c j)⟩
 |some i=>
  cases b with
  |none=>exact c.congr (T:=fun j=>S j\/T j) fun j=>⟨.inl,fun h=>h.resolve_right (d j)⟩
  |some k=>
   show lF R _ (if CV R k i then some k else some i);by_cases h:CV R k i=true
   .rw[aN h];have g:=(O.dec k i).1 h;refine⟨.inr d.1,fun j hj=>?_⟩;rcases hj with hj|hj
    .rcases c.2 j hj with h9|h9
     .rw[h9];exact .inr g
     .exact .inr (yP g h9)
    .exact d.2 j hj
   .rw[aM h];have f:k=i\/zI R i k:=by
     by_cases e:k=i
     .exact .inl e
     .rcases O.CU k i (l k d.1) (hS i c.1) e with h9|h9
      .exact absurd ((O.dec k i).2 h9) h
      .exact .inr h9
    refine⟨.inl c.1,fun j hj=>?_⟩;rcases hj with hj|hj
    .exact c.2 j hj
    .rcases d.2 j hj with h9|h9
     .rw[h9];exact f
     .rcases f with h8|h8
      .rw[<-h8];exact .inr h9
      .exact .inr (yP h8 h9)
theorem GI {L:List Nat} (h:L.Pairwise (zI R)):lF R (fun j=>j∈L) L.head?:=by
 cases L with
 |nil=>exact fun j a=>absurd a iA
 |cons i L=>
  refine⟨nP,fun j a=>?_⟩;rcases gU.1 a with h9|h9
  .exact .inl h9
  .exact .inr ((lV.1 h).1 j h9)
end
def kV (N:List Nd) (YS:List Nat) (k:Nat):Option Nat:=(lk N YS k).head?
def Tm (YS:List Nat) (a b:Nat):List Nat:=YS.filter fun i=>decide (a<=i/\i<b)
section
variable {R:List Pt} {gone:List Bool} {YS:List Nat} {N:List Nd}
theorem cu.V9 (a:cu R gone YS) (k:Nat):(lk N YS k).Pairwise (zI R):=List.Pairwise.sublist (Jr k) a.TY
theorem tX (a:cu R gone YS) (k:Nat):lF R (fun j=>j∈lk N YS k) (kV N YS k):=GI (a.V9 k)
theorem DI (a:cu R gone YS) {k j:Nat} (h:j∈lk N YS k):j<R.length:=a.lt ((Jr k).subset h)
theorem BQ (a:cu R gone YS) {k i:Nat} (h:kV N YS k=some i):i<R.length:=by
 have:=tX (N:=N) a k;rw[h]at this;exact DI a this.1
theorem Q3 (YS:List Nat) {l r:FT} (a:(FT.node l r).wf):(nl YS l++nl YS r).Perm (nl YS (.node l r)):=by
 rw[sS YS l r a,oG YS l r a];exact List.filter_append_perm _ _
theorem GJ (a:cu R gone YS) {l r:FT} {s:Nat} (b:FT.At N (.node l r) s) (d:(FT.node l r).wf):
  kV N YS ((FT.node l r).root s)=lowO R (kV N YS (l.root s)) (kV N YS (r.root (s+l.size))):=by
 have c:=GG (Jp a.ids) (fun j h=>DI a h) (fun j h=>DI a h) (tX (N:=N) a (l.root s)) (tX (N:=N) a (r.root (s+l.size)));refine lF.uniq (tX a _) (c.congr fun j=>?_);rw[BP b,BP b.left,BP b.right,<-(Q3 YS d).mem_iff,bP]
theorem BR (e:cu R gone YS) {a s:Nat} (f:FT.At N (.leaf a) s):kV N YS s=if a∈YS then some a else none:=by
 have c:∀j,j∈lk N YS s↔j=a/\a∈YS:=fun j=>by
  have:lk N YS s=nl YS (.leaf a):=BP f;rw[this];unfold nl;rw[bF,bO];simp only[FT.lo,FT.hi];constructor
  .rintro⟨d,g⟩;obtain rfl:j=a:=aa;exact⟨rfl,d⟩
  .rintro⟨rfl,h⟩;exact⟨h,aa⟩
 refine lF.uniq (tX e s) ?_;split
 .rename_i h;exact⟨(c a).2 ⟨rfl,h⟩,fun j b=>.inl ((c j).1 b).1⟩
 .rename_i h;exact fun j b=>h ((c j).1 b).2
theorem KJ (L:List Nat):EA (fun _=>0) 0 0 L=L:=by unfold EA;exact lU.2 fun i _=>aA
theorem Js {a b:Nat} (i:Nat) (t:FT) (s:Nat) (c:FT.At N t s) (d:t.wf):i∈(t.canon s a b).1.flatMap (lk N YS)↔i∈nl YS t/\a<=i/\i<b:=by
 have h:=yO (yv:=fun _=>0) (y1:=0) (y2:=0) (YS:=YS) (N:=N) (a:=a) (b:=b) i t s c d;simp only[KJ]at h;rw[h];simp
theorem Mj (d:cu R gone YS) (c:0<R.length) (a b:Nat):(((dM 0 R.length).canon 0 a b).1.flatMap (lk (aW R.length) YS)).Perm (Tm YS a b):=by
 have⟨w1,w2,w3⟩:=bJ 0 R.length c;have f:=jT R.length c;have e:=GD (yv:=fun _=>0) (y1:=0) (y2:=0) (N:=aW R.length) (a:=a) (b:=b) d.nodup (dM 0 R.length) 0 f w1;simp only[KJ]at e;refine(za e (d.nodup.sublist Ee)).2 fun i=>?_;rw[Js i _ 0 f w1,d.top c,bF,bO]
def sK (R:List Pt) (N:List Nd) (YS:List Nat) (ks:List Nat):Option Nat:=ks.foldl (fun o k=>lowO R o (kV N YS k)) none
theorem Mk (a:List Nat) (k:Nat):sK R N YS (a++[k])=lowO R (sK R N YS a) (kV N YS k):=by unfold sK;rw[List.foldl_append];rfl
theorem GK (a:cu R gone YS) (b:List Nat):∀(o:Option Nat) (S:Nat->Prop),(∀j,S j->j<R.length)->lF R S o->lF R (fun j=>S j\/j∈b.flatMap (lk N YS)) (b.foldl (fun o k=>lowO R o (kV N YS k)) o):=by
 induction b with
 |nil=>intro o S hS h;exact h.congr fun j=>aA
 |cons k b ih=>
  intro o S hS h;have c:=GG (Jp a.ids) hS (fun j h=>DI a h) h (tX (N:=N) a k);have d:=ih _ _ (fun j e=>e.elim (hS j) (DI a)) c;rw[uT];refine d.congr fun j=>?_;rw[lX,bP,or_assoc]
theorem KL (c:cu R gone YS) (a b:Nat):(Tm YS a b).Pairwise (zI R):=lT _ c.TY
theorem Jt (c:cu R gone YS) (d:0<R.length) (a b:Nat):sK R (aW R.length) YS ((dM 0 R.length).canon 0 a b).1=(Tm YS a b).head?:=by
 have e:=GK (N:=aW R.length) c ((dM 0 R.length).canon 0 a b).1 none (fun _=>False) (fun _ h=>h.elim) (fun _ h=>h);refine lF.uniq (e.congr fun j=>?_) (GI (KL c a b));rw[(Mj c d a b).mem_iff];simp
end
def zJ (x1 x2:Int) (p:Pt):Bool:=decide (x1<=p.1/\p.1<=x2)
def Nz (l:List Pt) (x1 x2:Int):List Pt:=ku (l.filter (zJ x1 x2))
theorem Q4 (l:List Pt) (x1 x2:Int):(Nz l x1 x2).length<=l.length:=by
 unfold Nz;rw[(iZ _).length_eq];exact gT _ _
section
variable {R:List Pt} {gone:List Bool} {YS:List Nat} {l:List Pt}
theorem Q5 (b:cu R gone YS) (f:sD R YS l) (x1 x2:Int):(Tm YS (iW R x1) (l5 R x2)).map (bV R)=Nz l x1 x2:=by
 have e:∀i,i∈YS->(iW R x1<=i/\i<l5 R x2↔zJ x1 x2 (bV R i)=true):=fun i hi=>by
  have d:=b.lt hi;have g:i<(bU R).length:=by unfold bU;simpa using d
  have h:(bU R)[i]=(bV R i).1:=by rw[dG d];simp[bU]
  have c:=sF b.SK x1 g;have a:=sG b.SK x2 g;rw[h]at c a;unfold iW l5 zJ;rw[bO,c,a]
 have hu:(ids (l.filter (zJ x1 x2))).Nodup:=f.jc.sublist (List.filter_sublist.map _);refine Kt hu (dA.2 (KL b _ _)) fun p=>?_;rw[dh,bF,f.mem];constructor
 .rintro⟨i,hi,rfl⟩;unfold Tm at hi;rw[bF,bO]at hi;exact⟨⟨i,hi.1,rfl⟩,(e i hi.1).1 hi.2⟩
 .rintro⟨⟨i,hi,rfl⟩,a⟩;refine⟨i,?_,rfl⟩;unfold Tm;rw[bF,bO];exact⟨hi,(e i hi).2 a⟩
theorem OZ (l:List Pt) {x1 x2:Int} (h:x2<x1):Nz l x1 x2=[]:=by
 unfold Nz;rw[xD.2 (fun p _=>by unfold zJ;simp only[bO];omega)];exact gX (iZ []).length_eq
end
end
section
open Go.RowKit Go.Sort Go.Shelf Go.Lib Go.Maps
attribute [local irreducible] wpQuiet
attribute [local go_sem] Oper.eF
def og:Option Nat->Int
 |none=>-1
 |some i=>i
theorem O0 (i:Nat):og (some i)=(i:Int):=rfl
theorem Q6 {o:Option Nat} {i:Nat}:og o=(i:Int)↔o=some i:=by
 cases o with
 |none=>simp only[og];constructor<;>intro h<;>first|omega|cases h
 |some j=>simp only[og,ji];omega
def Ib (h:iH) (n:Nat):List Value:=(List.range n).map fun k=>.int .i64 (og (h k))
theorem KM (h:iH) {n k:Nat} (a:k<n):(Ib h n)[k]? =some (.int .i64 (og (h k))):=by simp[Ib,a]
theorem KN (h:iH) {n k:Nat} (c:k<n) (v:Option Nat):(Ib h n).set k (.int .i64 (og v))=Ib (gy h k v) n:=by
 apply rC (by simp[Ib]);intro i a b;simp only[Ib,List.getElem_set,fM,xK];by_cases e:k=i
 .subst e;rw[aN rfl,fU]
 .rw[aM e,iq (iN e)]
theorem Ml {h h':iH} {n:Nat} (e:∀k,k<n->h' k=h k):Ib h' n=Ib h n:=by
 unfold Ib;exact Ei fun k a=>by rw[e k (uV.1 a)]
theorem gN.sub {lt:Nat->Nat->Prop} {h:iH}:∀{t:FT} {s:Nat},gN lt h t s->∀p∈t.subs s,gN lt h p.1 p.2
 |.leaf a,s,b,p,hp=>by
  have:p=(.leaf a,s):=by simpa[FT.subs]using hp
  subst this;exact b
 |.node l r,s,b,p,hp=>by
  simp only[FT.subs,bP,lW]at hp;rcases hp with(hp|hp)|hp
  .exact gN.sub b.2.2.1 p hp
  .exact gN.sub b.2.2.2 p hp
  .subst hp;exact b
theorem mg.at_ {R:List Pt} {h:iH} (H:mg R h) {t:FT} {s:Nat} (c:FT.At (aW R.length) t s):gN (zI R) h t s/\t.wf/\t.hi<=R.length:=by
 have a:=kU c;have⟨w1,w2,w3⟩:=bJ 0 R.length a;have b:=FT.at_mem (fH a▸c);exact⟨(H.ok a).sub _ b,FT.qi _ 0 w1 _ b,bD (FT.zU _ 0 w1 (t,s) b) aa⟩
theorem mg.pl {R:List Pt} {h:iH} (H:mg R h) {k i:Nat} (f:k<(aW R.length).length) (e:h k=some i):i<R.length:=by
 have⟨t,s,d,g⟩:=tK f;have⟨b,c,j⟩:=H.at_ d;rw[<-g]at e;have⟨L,a⟩:=o5 e;have:=b.span c i (by rw[a];simp);omega
structure ni where
 rv:Value
 xv:Value
 nv:Value
 hv:Value
 fv:Value
abbrev Mm (rv xv:Value) (fb:Nat) (nv hv:Value) (n:Int):Obj:=.cells #[rv,xv,aj fb,nv,hv,af n] 155 (0,0)
structure dm (w:World) (lo hi tb fb:Nat) (R:List Pt) (h:iH) (cnt:Int) (V:ni):Prop where
 blk:w.heap[tb]? =some (Mm V.rv V.xv fb V.nv V.hv cnt)
 fo:lo<=tb/\tb<hi/\lo<=fb/\fb<hi/\hi<=w.heap.size
 row:w.ownsRow lo 29 3 V.rv R.length (R.flatMap bX)
 xs:w.ownsRow lo 2 1 V.xv R.length ((bU R).map (Value.int .i64))
 iD:nH w lo fb R.length V.fv
 jc:w.ownsRow lo 163 7 V.nv (aW R.length).length ((aW R.length).flatMap oK)
 nZ:w.ownsRow lo 3 1 V.hv (aW R.length).length (Ib h (aW R.length).length)
 top:∀v,v=V.rv\/v=V.xv\/v=V.nv\/v=V.hv\/v=V.fv->∀g,v.ownBlock=some g->g<hi
section
variable {w w':World} {lo hi tb fb:Nat} {R:List Pt} {h:iH} {cnt:Int} {V:ni}
theorem dm.kept {S:Nat->Prop} (H:dm w lo hi tb fb R h cnt V) (K:ax S w w') (hS:∀k,lo<=k->k<hi->¬S k):dm w' lo hi tb fb R h cnt V:=by
 have ht:=H.top;have a:∀{e:TypeId} {sz:Nat} {v:Value} {n:Nat} {xs:List Value},w.ownsRow lo e sz v n xs->(∀g,v.ownBlock=some g->g<hi)->w'.ownsRow lo e sz v n xs:=fun a b=>aT a K fun g e=>hS g (a.lt g e).1 (b g e);exact⟨bz K H.blk (hS tb H.fo.1 H.fo.2.1),⟨H.fo.1,H.fo.2.1,H.fo.2.2.1,H.fo.2.2.2.1,bD H.fo.2.2.2.2 K.size⟩,
  a H.row (ht _ aA),a H.xs (ht _ aA),
  ⟨bz K H.iD.blk (hS fb H.fo.2.2.1 H.fo.2.2.2.1),a H.iD.row (ht _ aA)⟩,a H.jc (ht _ aA),a H.nZ (ht _ aA),H.top⟩
theorem dm.below {B:Nat} (H:dm w lo hi tb fb R h cnt V) (a:Below B w w') (e:hi<=B):dm w' lo hi tb fb R h cnt V:=
 H.kept (S:=fun k=>hi<=k) ⟨a.os,a.tape,a.output,a.size,fun k f g=>a.block k aa⟩ fun k b c d=>aa
theorem dm.FD (H:dm w lo hi tb fb R h cnt V):tb<w.heap.size:=bR H.fo.2.1 H.fo.2.2.2.2
theorem dm.nodes (H:dm w lo hi tb fb R h cnt V) (l:0<R.length):∃g off c,V.nv=.slice (some (ae g off)) (aW R.length).length c/\bQ oK 7 w (some (ae g off)) (aW R.length):=by
 have m:=df R.length;have⟨g,c,e,_⟩:=aU H.jc aa;obtain⟨a,i,b,-,-,d⟩:=bQ.aI jq ai H.jc;rw[e]at b;injection b with f j k;rw[<-f]at d;exact⟨g,0,c,e,d⟩
theorem dm.holds (H:dm w lo hi tb fb R h cnt V) (r:0<R.length):∃g c,V.hv=au g (aW R.length).length c/\lo<=g/\g<hi/\g≠tb/\g≠fb/\g<w.heap.size/\(∀k,k<(aW R.length).length->w.cell? (ae g k)=some (af (og (h k)))/\w.frozen? (ae g k)=false)/\
  (∀a,V.rv.ownBlock=some a->a≠g)/\(∀a,V.xv.ownBlock=some a->a≠g)/\(∀a,V.nv.ownBlock=some a->a≠g)/\∀a,V.fv.ownBlock=some a->a≠g:=by
 have x:=df R.length;have⟨g,c,e,y,u,s,t⟩:=aU H.nZ aa;have b:=H.nZ;rw[e]at b;have p:(au g (aW R.length).length c).ownBlock=some g:=rfl;have f:∀{j:TypeId} {sz n:Nat} {v:Value} {xs:List Value},w.ownsRow lo j sz v n xs->j≠3->∀a,v.ownBlock=some a->a≠g:=fun q o a d l=>bA q b o a d (l▸p);refine⟨g,c,e,(b.lt g rfl).1,H.top V.hv aA g (by rw[e];rfl),fun i=>bn b H.blk ai g rfl i.symm,fun i=>bn b H.iD.blk ai g rfl i.symm,(b.lt g rfl).2,fun k m=>⟨?_,b.frozenAt k⟩,f H.row ai,f H.xs ai,f H.jc ai,f H.iD.row ai⟩;have d:=b.cellAt k aa;rw[KM h m]at d;exact d
theorem dm.nM (H:dm w lo hi tb fb R h cnt V) {g n c:Nat} (i:V.hv=au g n c) {k:Nat} (j:k<(aW R.length).length) (v:Option Nat):
  dm (w.setCell (ae g k) (.int .i64 (og v))) lo hi tb fb R (gy h k v) cnt V:=by
 have K:ax (fun k=>k=g) w (w.setCell (ae g k) (.int .i64 (og v))):=(ax.refl (fun k=>k=g) w).set (a:=(ae g k)) _ (.inl rfl);have e:=H.nZ;rw[i]at e;have l:n=(aW R.length).length:=by
  rcases e.2 with⟨d,-⟩|⟨p,m,o,d,-⟩
  .cases d
  .injection d with _ d _
 subst l;have⟨cs,fr,b⟩:=qz e;have f:=(e.stored k (.int .i64 (og v))).1;rw[KN h j v]at f;refine⟨EZ H.blk K b ai,aP H.fo,eY H.row K b ai,eY H.xs K b ai,yG H.iD K b ai ai,eY H.jc K b ai,?_,H.top⟩;rw[i];exact f
theorem dm.BG (H:dm w lo hi tb fb R h cnt V) (m:Int):dm (w.setCell (ae tb 5) (.int .i64 m)) lo hi tb fb R h m V:=by
 have K:ax (fun k=>k=tb) w (w.setCell (ae tb 5) (.int .i64 m)):=(ax.refl (fun k=>k=tb) w).set (a:=(ae tb 5)) _ (.inl rfl);have b:=H.blk;exact⟨dC w tb 5 _ _ _ H.blk,aP H.fo,eY H.row K b ai,eY H.xs K b ai,yG H.iD K b ai ai,eY H.jc K b ai,eY H.nZ K b ai,H.top⟩
end
abbrev yQ (fr ub:Nat) (y:Int) (F:Nat) (cb:Array Value) (c:Nat):Obj:=.cells #[af fr,af ub,af y,.func (.func F) #[] cb,af c] 250 (0,0)
structure Q7 (F:Nat) (cb:Array Value) (more:Bool) (R:List Pt) (w0:World) (FL:List Nat) (S:World->List Nat->(Nat->Prop)->Prop):Prop where
 enters:∀args w,(callFunc F args).run prog w=.ok (.enter F args) w
 base:∀W acc D,S W acc D->Below w0.heap.size w0 W
 lt:∀W acc D,S W acc D->∀k,D k->w0.heap.size<=k/\k<W.heap.size
 kN:∀W W' acc D E,S W acc D->ax E W W'->(∀k,E k->w0.heap.size<=k/\¬D k)->S W' acc D
 told:∀W acc D i,S W acc D->i<R.length->acc++[i] <+: FL->
  aK F (#[iT (bV R i).1 (bV R i).2.1 (bV R i).2.2]++cb) W fun e w'=>e=.returned (.bool more)/\∃D',S w' (acc++[i]) D'/\(∀k,D' k->D k\/W.heap.size<=k)/\ax D W w'
def Mo (S:World->List Nat->(Nat->Prop)->Prop) (W:World) (D:Nat->Prop) (ab fr ub:Nat) (y:Int) (F:Nat) (cb:Array Value) (c:Nat) (acc:List Nat) (r:List Nat×Nat×Bool) (e:Ending) (w':World):Prop:=
 e=.returned (.bool r.2.2)/\∃D',S w' (acc++r.1) D'/\(∀k,D' k->D k\/W.heap.size<=k)/\ax (fun k=>D k\/k=ab) W w'/\w'.heap[ab]? =some (yQ fr ub y F cb (c+r.2.1))
theorem Ju {P:Program} {ops:Array Oper} {o:Oper} {a:Act} {K:Act->World->Prop} {Q:Exit->Act->World->Prop} {E0:Prop} {f:FuncId} {w:World} {vals:Array Value} {R:Ending->World->Prop} (i:∀args w,(callFunc f args).run P w=.ok (.enter f args) w) (n:Region.wanted o (yielded ops a.tmps)=true) (g:Operand) (args:Array Operand) (p:Array TypeId) (l:o.op=.call {callee:=.value g,args:=args,argTypes:=p})
  (cb:Array Value) (j:a.eval g=.func (.func f) #[] cb) (c:vals=(args.toList.map a.eval).toArray++cb)
  (C:Calls P f vals w R) (h:∀e w',R e w'->∃v,e=.returned v/\K (a.put o.dst v) w'):
  if Region.wanted o (yielded ops a.tmps)=true then Oper.wp P o a w K Q else E0:=by
 rw[aN n];unfold Oper.wp;have b:args.map a.eval++cb=vals:=by rw[c,<-Eo]
 have d:(execOp a.eval o).run P w=.ok (.enter f vals) w:=by
  simp[execOp,l,resolve,invoke,j,b,Deferred.ofValue,i]
 rw[d,Oper.upon_enter];refine C.mono fun e w' m=>?_;obtain⟨v,rfl,k⟩:=h e w' m;exact k
theorem BS (F:Nat) (cb:Array Value) (more:Bool) (R:List Pt) (h:iH) (cnt:Int) (V:ni) (lo hi tb fb b:Nat) (w0:World) (S:World->List Nat->(Nat->Prop)->Prop) (y:Int) (fr ub:Nat) (N:List Nat)
  (aq:Q7 F cb more R w0 N S) (br:dm w0 lo hi tb fb R h cnt V) (dY:R.length<=20000) (dZ:w0.heap.size<=b)
  (t:FT) (s:Nat) (W:World) (f:List Nat) (D:Nat->Prop) (c:Nat) (bt:FT.At (aW R.length) t s) (a0:t.wf) (c4:t.hi<=R.length) (ce:gN (zI R) h t s) (hS:S W f D) (b3:¬D b) (aV:W.heap[b]? =some (yQ fr ub y F cb c)) (cZ:c+t.size<=1000000)
  (b5:f++(downG more h (lI R) y fr ub t s).1 <+: N)
  (da:∀l r,t=.node l r->(∀W f D c,S W f D->¬D b->W.heap[b]? =some (yQ fr ub y F cb c)->c+l.size<=1000000->f++(downG more h (lI R) y fr ub l s).1 <+: N->
    aK 174 #[aj tb,af (l.root s:Nat),aj b] W (Mo S W D b fr ub y F cb c f (downG more h (lI R) y fr ub l s)))/\
    ∀W f D c,S W f D->¬D b->W.heap[b]? =some (yQ fr ub y F cb c)->c+r.size<=1000000->f++(downG more h (lI R) y fr ub r (s+l.size)).1 <+: N->
    aK 174 #[aj tb,af (r.root (s+l.size):Nat),aj b] W (Mo S W D b fr ub y F cb c f (downG more h (lI R) y fr ub r (s+l.size)))):
  aK 174 #[aj tb,af (t.root s:Nat),aj b] W (Mo S W D b fr ub y F cb c f (downG more h (lI R) y fr ub t s)):=by
 have b2:0<R.length:=by have:=t.eT a0;omega
 have ea:=t.size_pos;have d0:=aq.base W f D hS;have cS:=aq.lt W f D hS;have co:=ag cS;clear cS;have ep:b<W.heap.size:=(aZ.1 aV).1;have dh:W.cell? (ae b 4)=some (af c):=aG aV;have en:W.frozen? (ae b 4)=false:=aG aV;have eq:c+1<=1000000:=aa;obtain⟨w1,aT⟩:∃w1,w1=W.setCell (ae b 4) (.int .i64 ((c+1:Nat):Int)):=⟨_,rfl⟩;have bR:ax (fun k=>k=b) W w1:=by rw[aT];exact(ax.refl (fun k=>k=b) W).set (a:=(ae b 4)) _ (.inl rfl)
 have ar:w1.heap[b]? =some (yQ fr ub y F cb (c+1)):=by rw[aT];exact dC W b 4 _ _ _ aV
 have b8:S w1 f D:=aq.kN W w1 f D _ hS bR (fun k Q=>by subst Q;exact⟨dZ,b3⟩);have cY:=aq.base w1 f D b8;have ao:=br.below cY br.fo.2.2.2.2;obtain⟨dV,off,cn,env,dn⟩:=ao.nodes b2;obtain⟨dU,ch,cH,-,-,-,-,er,c0,-⟩:=ao.holds b2;obtain⟨dk,dl,cJ,-,-,dp⟩:=bQ.aI bg ai ao.row;have aU:=ao.blk;rw[env,cH,cJ]at aU;have c3:=bt.get;have b9:=bt.lt;obtain⟨es,n0,bw,bx,a2,a3,cd,bA⟩:=mR dn c3;rw[FT.Ez]at a2;rw[FT.vC]at a3;have bm:=(c0 _ b9).1;have eb:tb<w1.heap.size:=ao.FD;have bU:w1.cell? (ae tb 0)=some (.slice dk R.length dl):=aG aU;have bW:w1.cell? (ae tb 3)=some (.slice (some (ae dV off)) (aW R.length).length cn):=aG aU;have bY:w1.cell? (ae tb 4)=some (au dU (aW R.length).length ch):=aG aU;have dq:w1.cell? (ae b 0)=some (af fr):=aG ar;have dr:w1.cell? (ae b 1)=some (af ub):=aG ar;have ds:w1.cell? (ae b 2)=some (af y):=aG ar;have dt:w1.cell? (ae b 3)=some (.func (.func F) #[] cb):=aG ar;have c5:=t.eT a0;have dW:(aW R.length).length<=40000:=by rw[df];omega
 have d8:=t.size_pos;obtain⟨m,b0⟩:∃m,m=t.hi:=⟨_,rfl⟩;obtain⟨tl,b1⟩:∃tl,tl=t.lo:=⟨_,rfl⟩;rw[<-b0]at a3 c4 c5;rw[<-b1]at a2 c5;obtain⟨K,u⟩:∃K,K=t.root s:=⟨_,rfl⟩;obtain⟨d,hd⟩:∃d,d=t.top s:=⟨_,rfl⟩;obtain⟨o,bu⟩:∃o,o=h (t.root s):=⟨_,rfl⟩;rw[<-hd]at n0 bw bx bA;rw[<-bu]at bm;rw[<-u]at n0 bw bx a2 a3 cd bA b9 bm;obtain⟨r,H⟩:∃r,r=downG more h (lI R) y fr ub t s:=⟨_,rfl⟩;have aL:Hid (m=t.hi/\tl=t.lo/\K=t.root s/\d=t.top s/\o=h (t.root s)/\r=downG more h (lI R) y fr ub t s):=⟨b0,b1,u,hd,bu,H⟩;rw[<-H]at b5 |-;rw[<-u];have cp:=ag b5;have P:=ag aq;have cx:=ag b8;have eo:=ag br;have cw:=ag dp;have cu:=ag da;have dD:=ag ce;have cq:=ag bR;have ci:=ag ar;have dI:=ag a0;have dy:=ag bt;have dz:=ag cZ;have bH:=ag b3;have de:w1.heap.size=W.heap.size:=by rw[aT];simp
 have cz:=ag de;obtain⟨M,b7⟩:∃M,M=(aW R.length).length:=⟨_,rfl⟩;obtain⟨a4,ca⟩:∃a4,a4=R.length:=⟨_,rfl⟩;rw[<-b7]at bW bY b9 dW;rw[<-ca]at bU dY c4 b2;have dB:Hid (M=(aW R.length).length/\a4=R.length):=⟨b7,ca⟩;have X:b<w1.heap.size:=aa;have db:∀i,o=some i->i<a4/\tl<=i/\i<m:=fun i cI=>by
  rw[bu]at cI;obtain⟨L,dQ⟩:=o5 cI;have:=ce.span a0 i (by rw[dQ];simp);omega
 have cv:=ag db;clear db b0 b1 u hd bu H b5 aq b8 br dp da ce bR ar a0 bt cZ b3 de b7 ca aU c3 env cH cJ c0 dn hS d0 ao cY d8 ea aV;go_enter func174,ntmps174
 go_upto_region 2 with fail
 rw[show W.setCell (ae b 4) (.int .i64 ((c:Int)+1))=w1 by rw[aT];rfl];clear aT dh en;obtain⟨w2,bn⟩:∃w2,w2=(w1.alloc (.cells #[.int .u8 d.kind,af d.l,af d.r,af tl,af m,af 0,af d.item] 163)).drew:=⟨_,rfl⟩;have v:Below w1.heap.size w1 w2:=by rw[bn];exact((aJ _ _).alloc (aB _) _).drew
 have I:w2.heap[w1.heap.size]? =some (.cells #[.int .u8 d.kind,af d.l,af d.r,af tl,af m,af 0,af d.item] 163 (0,0)):=by rw[bn];exact cB w1 _
 have cj:=ag v;have bj:=ag I;have bL:Hid (S w2 f D):=P.o.kN w1 w2 f D (fun _=>False) cx.o ((ax.refl _ w1).below v) (fun k h=>h.elim);clear v I;have bo:=ah bW;have bp:=ah bY;have ec:=ah n0;have ed:=ah bw;have ee:=ah bx;have ef:=ah a2;have eg:=ah a3;have eh:=ah cd;have ei:=ah bA;have ej:=ah bm;refine ak (fun W=>∃p:aQ w1,W=p.W) [16] [(0,false),(1,false),(2,false),(3,true),(4,false),(5,false),(6,true),(7,false),(8,false),(9,false),(10,true),(11,false),(12,false),(13,true)] ⟨⟨_,(aJ _ _).drew⟩,rfl⟩ 3 ?_;refine aF 14 rfl fun K u=>?_;go_simp;refine u _ _ (fun _ _=>⟨⟨_,(aJ _ w1).alloc (aB _) _|>.drew⟩,rfl⟩) ?_;clear u K;refine aF 15 rfl fun K u=>?_;go_simp;refine u _ _ (fun _ _=>⟨⟨_,(aJ _ w1).alloc (aB _) _|>.drew⟩,rfl⟩) ?_;clear u K;refine aH [16] ?_;rw[<-bn];clear bo bp ec ed ee ef eg eh ei ej bn
 go_upto_region 3 with fail
 have v:=cj.o;have a1:w1.heap.size<w2.heap.size:=(aZ.1 bj.o).1;have I:=bj.o;have bk:=(v.cell (p:=(ae tb 0)) eb).trans bU;have t0:=(v.cell (p:=(ae b 0)) X).trans dq;have t1:=(v.cell (p:=(ae b 1)) X).trans dr;have t2:=(v.cell (p:=(ae b 2)) X).trans ds;have t3:=(v.cell (p:=(ae b 3)) X).trans dt;have C:w2.cell? (ae w1.heap.size 0)=some (.int .u8 d.kind):=aG I;have x1:w2.cell? (ae w1.heap.size 1)=some (af d.l):=aG I;have x2:w2.cell? (ae w1.heap.size 2)=some (af d.r):=aG I;have eE:w2.cell? (ae w1.heap.size 3)=some (af tl):=aG I;have eF:w2.cell? (ae w1.heap.size 4)=some (af m):=aG I;have bE:Hid (w2.heap[b]? =some (yQ fr ub y F cb (c+1))):=(v.block b X).trans ci.o;have bJ:Hid (ax (fun k=>D k\/k=b) W w2):=(cq.o.mono fun k h=>.inr h).below v;have aS:Hid (bQ bX 3 w2 dk R):=cw.o.below v;have bD:Hid (∀(a5:World) (n:Nat),Below w2.heap.size w2 a5->r=([],1,true)->Mo S W D b fr ub y F cb c f r (.returned (.bool true)) a5):=fun a5 n G e=>by
  rw[e];show Mo S W D b fr ub y F cb c f ([],1,true) _ _;refine⟨rfl,D,?_,fun k h=>.inl h,bJ.o.below G,(G.block b (uZ X a1)).trans bE.o⟩;show S a5 (f++[]) D;rw[iJ];exact P.o.kN w2 a5 f D (fun _=>False) bL.o ((ax.refl _ w2).below G) (fun k h=>h.elim)
 clear v I bU bW bY dq dr ds dt n0 bw bx a2 a3 cd bA bm;cases o with
 |none=>
  have H:r=([],1,true):=by
   obtain⟨-,-,-,-,w,x⟩:=aL.o;rw[x];exact ng w.symm
  have aE:Hid (∀n,Mo S W D b fr ub y F cb c f r (.returned (.bool true)) (w2.drewN n)):=fun n=>bD.o _ n (Below.bq _ _) H;clear H;simp only[og]
  go_quiet (fail)
  go_wp2;go_ret;exact aE.o _
 |some i=>
  obtain⟨d5,et,eu⟩:=cv.o i rfl;have aX:i<R.length:=by rw[<-dB.o.2];exact d5
  obtain⟨bB,bC,dR,ev,bv⟩:=aS.o.get aa;have ab:=bv i aX 0 aa;have ac:=bv i aX 1 aa;have ad:=bv i aX 2 aa;simp only[bX,fw,fD,dx]at ab ac ad;rw[<-dG aX]at ab ac ad;subst dR;have dg:lI R i=(bV R i).2.1:=rfl;have cC:Hid (∀W f D,S W f D->f++[i] <+: N->aK F (#[iT (bV R i).1 (bV R i).2.1 (bV R i).2.2]++cb) W fun e w'=>e=.returned (.bool more)/\∃cg,S w' (f++[i]) cg/\(∀k,cg k->D k\/W.heap.size<=k)/\ax D W w'):=fun W f D J cL=>P.o.told W f D i J aX cL;have bP:=ag dg;clear bv dg;generalize bV R i=p at*;obtain⟨dj,A,di⟩:=p;simp only at ab ac ad;simp only[O0];have dN:((i:Int)==-1)=false:=by first|(simp;done)|(simp;omega)
  have dO:decide ((i:Int)=-1)=false:=by first|(simp;done)|(simp;omega)
  by_cases hp:y<A\/m<=fr\/ub<=tl
  .have H:r=([],1,true):=by
    obtain⟨aw,az,-,-,w,x⟩:=aL.o;rw[x];refine mF w.symm ?_;have:=bP.o;simp only at this;rw[this,<-aw,<-az];exact hp
   have aE:Hid (∀n,Mo S W D b fr ub y F cb c f r (.returned (.bool true)) (w2.drewN n)):=fun n=>bD.o _ n (Below.bq _ _) H;clear H;by_cases J:y<A
   .have d1:decide (A>y)=true:=aD;have d2:decide (y<A)=true:=aD;clear hp
    go_quiet (fail)
    go_wp2;go_ret;exact aE.o _
   .have d1:decide (A>y)=false:=aD;have d2:decide (y<A)=false:=aD;by_cases cL:m<=fr
    .have f1:decide ((m:Int)<=(fr:Int))=true:=aD;have f2:decide (m<=fr)=true:=aD;clear hp
     go_quiet (fail)
     go_wp2;go_ret;exact aE.o _
    .have f1:decide ((m:Int)<=(fr:Int))=false:=aD;have f2:decide (m<=fr)=false:=aD;have f3:decide ((tl:Int)>=(ub:Int))=true:=aD;have f4:decide ((ub:Int)<=(tl:Int))=true:=aD;have f5:decide (ub<=tl)=true:=aD;clear hp
     go_quiet (fail)
     go_wp2;go_ret;exact aE.o _
  .have d1:decide (A>y)=false:=aD;have d2:decide (y<A)=false:=aD;have f1:decide ((m:Int)<=(fr:Int))=false:=aD;have f2:decide (m<=fr)=false:=aD;have f3:decide ((tl:Int)>=(ub:Int))=false:=aD;have f4:decide ((ub:Int)<=(tl:Int))=false:=aD;have f5:decide (ub<=tl)=false:=aD;have bK:=ag hp;clear hp bD
   go_quiet (fail)
   obtain⟨w3,q⟩:∃w3,w3=w2.drewN nq:=⟨_,rfl⟩;have a7:Hid (Below w2.heap.size w2 w3):=by rw[q];exact Below.bq _ _
   have bk:w3.cell? (ae tb 0)=some (.slice (some (ae bB bC)) a4 dl):=by rw[q];exact bk
   have t0:w3.cell? (ae b 0)=some (af fr):=by rw[q];exact t0
   have t1:w3.cell? (ae b 1)=some (af ub):=by rw[q];exact t1
   have t3:w3.cell? (ae b 3)=some (.func (.func F) #[] cb):=by rw[q];exact t3
   have C:w3.cell? (ae w1.heap.size 0)=some (.int .u8 d.kind):=by rw[q];exact C
   have x1:w3.cell? (ae w1.heap.size 1)=some (af d.l):=by rw[q];exact x1
   have x2:w3.cell? (ae w1.heap.size 2)=some (af d.r):=by rw[q];exact x2
   have ab:w3.cell? (ae bB (bC+i*3))=some (af dj):=by rw[q];exact ab
   have ac:w3.cell? (ae bB (bC+i*3+1))=some (af A):=by rw[q];exact ac
   have ad:w3.cell? (ae bB (bC+i*3+2))=some (ay di):=by rw[q];exact ad
   have bM:Hid (S w3 f D):=P.o.kN w2 w3 f D (fun _=>False) bL.o ((ax.refl _ w2).below a7.o) (fun k h=>h.elim);have ba:Hid (ax (fun k=>D k\/k=b) W w3):=bJ.o.below a7.o;have bF:Hid (w3.heap[b]? =some (yQ fr ub y F cb (c+1))):=(a7.o.block b (uZ X a1)).trans bE.o;have Y:w1.heap.size<w3.heap.size:=by rw[q];exact a1
   go_upto_region 5 with fail
   rw[<-q];clear q;obtain⟨T,cG⟩:∃T:List Nat,T=(if fr<=i/\i<ub then[i]else[]):=⟨_,rfl⟩;have aO:=ag cG;clear cG;obtain⟨g,cc⟩:∃g,g=w1.heap.size:=⟨_,rfl⟩;have bc:=ag cc;rw[<-cc]at C x1 x2 Y a1 bj |-;clear cc
   go_cut [93]from 65 (fun el al=>∃(bl:Bool) (E:Nat->Prop),el=.bool bl/\Hid (bl=(decide (fr<=i/\i<ub)&&!more))/\Hid (S al (f++T) E)/\Hid (∀k,E k->D k\/W.heap.size<=k)/\Hid (ax (fun k=>D k\/k=b) W al)/\Hid (al.heap[b]? =some (yQ fr ub y F cb (c+1)))/\Hid (¬E b)/\
    al.cell? (ae g 0)=some (.int .u8 d.kind)/\al.cell? (ae g 1)=some (af d.l)/\al.cell? (ae g 2)=some (af d.r)/\Hid (¬E g/\g<al.heap.size))
   case first=>
    by_cases av:fr<=i/\i<ub
    .have g1:decide ((i:Int)>=(fr:Int))=true:=aD;have cK:decide ((fr:Int)<=(i:Int))=true:=aD;have bo:decide (fr<=i)=true:=aD;have bp:decide ((i:Int)<(ub:Int))=true:=aD;have dT:decide (i<ub)=true:=aD;have ey:=ah bk;have ez:=ah t0;have eA:=ah t1;have eB:=ah t3;have dh:=ah ab;have eC:=ah ac;have eD:=ah ad;refine ak (fun W=>∃p:aQ w3,W=p.W) [26,27,28] [(0,false),(1,false),(2,false),(3,false),(4,true),(5,false),(6,false),(7,false),(8,false),(9,false),(10,false),(11,true),(12,false),(13,false),(14,false),(15,false),(16,false),(17,false),(18,true),(19,false),(20,false),(21,false),(22,true),(23,false),(24,false),(25,true)] ⟨⟨_,(aJ _ _).drew⟩,rfl⟩ 3 ?_;refine aF 26 rfl fun K u=>?_;have cA:S w3.drew f D:=P.o.kN w3 w3.drew f D (fun _=>False) bM.o (ax.refl _ w3).drew (fun k h=>h.elim);have ct:f++[i] <+: N:=by
      obtain⟨aw,az,-,-,w,x⟩:=aL.o;have J:=OU (more:=more) (yv:=lI R) (y:=y) (fr:=fr) (ub:=ub) w.symm (by rw[bP.o,<-aw,<-az];exact bK.o) av;rw[<-x]at J;exact((List.prefix_append_right_inj f).2 J).trans cp.o
     refine Ju P.o.enters (by first|rfl|(go_simp;done)) (.tmp 83) _ _ rfl cb rfl (vals:=#[iT dj A di]++cb) rfl (cC.o w3.drew f D cA ct) ?_;rintro e w4 ⟨rfl,aC,cV,bs,cT⟩;refine⟨_,rfl,u _ _ (fun _ h=>absurd aA h) ?_⟩;clear u K;refine aH [27,28] ?_;have cR:¬D b:=bH.o;have ap:¬D g:=fun j=>by have:=co.o g j;have:=cz.o;have:=bc.o;omega
     have ew:b<w3.heap.size:=uZ (by have:=bc.o;omega) Y;have U:ax D w3 w4:=(ax.refl D w3).drew.trans cT;have em:=((bZ U Y ap).1 0).trans C;have y1:=((bZ U Y ap).1 1).trans x1;have y2:=((bZ U Y ap).1 2).trans x2;have ex:=U.size;have be:Hid (S w4 (f++T) aC):=by rw[aO.o,aN av];exact cV
     have dF:Hid (∀k,aC k->D k\/W.heap.size<=k):=fun k j=>(bs k j).imp id fun h8=>by
      have cM:w3.heap.size<=k:=h8;have:=ba.o.size;omega
     have bf:Hid (ax (fun k=>D k\/k=b) W w4):=ba.o.trans (U.mono fun k h=>.inl h);have bh:Hid (w4.heap[b]? =some (yQ fr ub y F cb (c+1))):=bz U bF.o cR;have aR:Hid (¬aC b/\¬aC g/\g<w4.heap.size):=⟨fun j=>by
      rcases bs b j with h8|h8
      .exact cR h8
      .have cM:w3.heap.size<=b:=h8;omega,fun j=>by
      rcases bs g j with h8|h8
      .exact ap h8
      .have cM:w3.heap.size<=g:=h8;omega,aa⟩
     have bi:Hid ((!more)=(decide (fr<=i/\i<ub)&&!more)):=by show _=_;simp[av]
     clear cT cV bs U cA ct;go_wp2;go_meet;exact⟨_,aC,rfl,bi,be,dF,bf,bh,aR.o.1,em,y1,y2,aR.o.2⟩
    .have dS:(decide ((i:Int)>=(fr:Int))=true/\decide ((i:Int)<(ub:Int))=false)\/decide ((i:Int)>=(fr:Int))=false:=aD;have ap:¬D g:=fun j=>by have:=co.o g j;have:=cz.o;have:=bc.o;omega
     have be:Hid (∀n,S (w3.drewN n) (f++T) D):=fun n=>by
      rw[aO.o,aM av,iJ];exact P.o.kN w3 _ f D (fun _=>False) bM.o ((ax.refl _ w3).below (Below.bq _ _)) (fun k h=>h.elim)
     have bf:Hid (∀n,ax (fun k=>D k\/k=b) W (w3.drewN n)):=fun n=>ba.o.below (Below.bq _ _);have bh:Hid (∀n,(w3.drewN n).heap[b]? =some (yQ fr ub y F cb (c+1))):=fun n=>bF.o;have aR:Hid (¬D g/\g<w3.heap.size):=⟨ap,Y⟩;have bi:Hid (false=(decide (fr<=i/\i<ub)&&!more)):=by show _=_;simp[av]
     have am:Hid (∀n o,(w3.drewN n).cell? (ae g o)=w3.cell? (ae g o)):=fun n o=>rfl;clear av;rcases dS with⟨g1,cK⟩|g1
     .have bo:decide ((fr:Int)<=(i:Int))=true:=aP g1;have bp:decide (fr<=i)=true:=aP g1;have dT:decide (i<ub)=false:=aP cK
      go_quiet (fail)
      go_wp2;go_meet;exact⟨_,D,rfl,bi,be.o _,fun k h=>.inl h,bf.o _,bh.o _,bH.o,(am.o _ _).trans C,(am.o _ _).trans x1,(am.o _ _).trans x2,aR.o⟩
     .have bo:decide ((fr:Int)<=(i:Int))=false:=aP g1;have bp:decide (fr<=i)=false:=aP g1
      go_quiet (fail)
      go_wp2;go_meet;exact⟨_,D,rfl,bi,be.o _,fun k h=>.inl h,bf.o _,bh.o _,bH.o,(am.o _ _).trans C,(am.o _ _).trans x1,(am.o _ _).trans x2,aR.o⟩
   case rest=>
    obtain⟨bl,E,rfl,cl,bN,a9,bb,a8,cs,C,x1,x2,cr⟩:=hcut;have c7:=bK.o;obtain⟨aw,az,ek,Z,w,x⟩:=aL.o;have c9:¬(y<lI R i\/t.hi<=fr\/ub<=t.lo):=by rw[bP.o,<-aw,<-az];exact c7
    have bd:=ag c9;have d7:=cr.o.2;have d6:g≠b:=by have:=bc.o;omega
    clear c7 aw az ek c9 bK ba bF bM a7 cj bj bL aS bJ bE cC ci cq cx cw dN dO d1 d2 f1 f2 f3 f4 f5 bk t0 t1 t3 ab ac ad Y a1;cases bl with
    |true=>
     have G:=cl.o;simp only[Bool.true_eq,mJ,bO,oC]at G;have z:r=([i],1,false):=by rw[x,G.2];exact BL w.symm bd.o G.1
     have O:Hid (Mo S W D b fr ub y F cb c f r (.returned (.bool false)) wc):=by
      rw[z];have J:=bN.o;rw[aO.o,aN G.1]at J;exact⟨rfl,E,J,a9.o,bb.o,a8.o⟩
     clear z G Z w x;go_wp2;go_ret;exact O.o
    |false=>
     have cm:=ag cl.o.symm;cases t with
     |leaf a=>
      have Q:d.kind=1:=by rw[Z];rfl
      have z:r=(T,1,true):=by
       have dP:h s=some i:=w.symm;rw[x,vL dP bd.o,cm.o,aO.o];rfl
      have O:Hid (Mo S W D b fr ub y F cb c f r (.returned (.bool true)) wc):=by
       rw[z];exact⟨rfl,E,bN.o,a9.o,bb.o,a8.o⟩
      rw[Q]at C;clear z Q Z w x x1 x2;go_wp2;go_ret;exact O.o
     |node l B=>
      have Q:d.kind=2:=by rw[Z];rfl
      have c1:d.l=((l.root s:Nat):Int):=by rw[Z];show((s+l.size:Nat):Int)-1=_;unfold FT.root;have:=l.size_pos;omega
      have c2:d.r=((B.root (s+l.size):Nat):Int):=by rw[Z];show((s+l.size+B.size:Nat):Int)-1=_;unfold FT.root;have:=B.size_pos;omega
      have z:=BM (more:=more) (yv:=lI R) (y:=y) (fr:=fr) (ub:=ub) w.symm bd.o cm.o;rw[<-x,<-aO.o]at z;have dc:=qA (h:=h) (yv:=lI R) (y:=y) (fr:=fr) (ub:=ub) more l s;have dd:=qA (h:=h) (yv:=lI R) (y:=y) (fr:=fr) (ub:=ub) more B (s+l.size);have d4:=dz.o;have d9:(FT.node l B).size=l.size+B.size+1:=rfl;obtain⟨bS,bT⟩:=cu.o l B rfl;rw[Q]at C;rw[c1]at x1;rw[c2]at x2;have aY:=cp.o;rw[z]at aY;generalize downG more h (lI R) y fr ub l s=dL at*;generalize downG more h (lI R) y fr ub B (s+l.size)=dM at*;obtain⟨cD,an,cE⟩:=dL;obtain⟨dJ,cF,dK⟩:=dM;simp only at z dc dd aY bS bT;have c8:(f++T)++cD <+: N:=by
       refine List.IsPrefix.trans ?_ aY;exact⟨if cE then dJ else[],by simp only[dX]⟩
      have du:=ag (bS wc (f++T) E (c+1) bN.o cs.o a8.o aa c8);have dH:=ag bT;have aS:=ag z;have dE:=ag aY;have d3:c+1+l.size<=1000000/\c+1+an+B.size<=1000000:=aa;clear bS bT z aY c8 Q c1 c2 Z w x dc dd d4 d9 cu aL dD dI dy bd cv;generalize l.root s=kl at*;generalize B.root (s+l.size)=kr at*
      go_wp2_with fail
      refine du.o.mono ?_;rintro e cf ⟨rfl,a6,cW,b4,b6,cN⟩;have cP:¬a6 b:=fun j=>by
       rcases b4 b j with h8|h8
       .exact cs.o h8
       .have:=(aZ.1 a8.o).1;omega
      have c6:¬(E g\/g=b):=fun j=>j.elim cr.o.1 d6;have x2:=((bZ b6 d7 c6).1 2).trans x2;have cy:=ag cW;have bG:Hid (∀k,a6 k->D k\/W.heap.size<=k):=fun k j=>by
       rcases b4 k j with h8|h8
       .exact a9.o k h8
       .have:=bb.o.size;exact .inr aa
      have bI:Hid (ax (fun k=>D k\/k=b) W cf):=((bb.o.mono (S':=fun k=>(D k\/k=b)\/W.heap.size<=k) (fun k h=>.inl h)).trans (b6.mono fun k j=>by
       rcases j with h8|h8
       .exact(a9.o k h8).imp .inl id
       .exact .inl (.inr h8))).strip
      have ck:=ag cN;have dA:=ag cP;clear cW b4 b6 cN cP c6 C x1;cases cE with
      |false=>
       have O:Hid (Mo S W D b fr ub y F cb c f r (.returned (.bool false)) cf):=by
        rw[aS.o];simp only[qM,jN,iJ,Bool.false_and,dx];refine⟨rfl,a6,?_,bG.o,bI.o,?_⟩
        .have:=cy.o;rwa [dX]at this
        .have:=ck.o;rw[show c+(1+an)=c+1+an by omega];exact this
       go_wp2;go_ret;exact O.o
      |true=>
       have dv:=ag (dH.o cf (f++T++cD) a6 (c+1+an) cy.o dA.o ck.o d3.2 (by
        have:=dE.o;simp only[gK]at this;simpa only[dX]using this))
       go_wp2_with fail
       refine dv.o.mono ?_;rintro e w6 ⟨rfl,dw,cX,cQ,cU,cO⟩;have O:Hid (Mo S W D b fr ub y F cb c f r (.returned (.bool dK)) w6):=by
        rw[aS.o];simp only[gK,Bool.true_and];refine⟨rfl,dw,?_,fun k j=>?_,?_,?_⟩
        .simpa only[dX]using cX
        .rcases cQ k j with h8|h8
         .exact bG.o k h8
         .have:=bI.o.size;exact .inr aa
        .exact((bI.o.mono (S':=fun k=>(D k\/k=b)\/W.heap.size<=k) (fun k h=>.inl h)).trans (cU.mono fun k j=>by
          rcases j with h8|h8
          .exact(bG.o k h8).imp .inl id
          .exact .inl (.inr h8))).strip
        .rw[show c+(1+an+cF)=c+1+an+cF by omega];exact cO
       clear cX cQ cU cO;go_wp2;go_ret;exact O.o
theorem Mq (F:Nat) (cb:Array Value) (more:Bool) (R:List Pt) (h:iH) (cnt:Int) (V:ni) (lo hi tb fb d:Nat) (w0:World) (S:World->List Nat->(Nat->Prop)->Prop) (y:Int) (fr ub:Nat) (n:List Nat)
  (u:Q7 F cb more R w0 n S) (p:dm w0 lo hi tb fb R h cnt V) (q:R.length<=20000) (v:w0.heap.size<=d):
  ∀(t:FT) (s:Nat) (W:World) (b:List Nat) (D:Nat->Prop) (c:Nat),FT.At (aW R.length) t s->t.wf->t.hi<=R.length->gN (zI R) h t s->S W b D->¬D d->W.heap[d]? =some (yQ fr ub y F cb c)->c+t.size<=1000000->
  b++(downG more h (lI R) y fr ub t s).1 <+: n->
  aK 174 #[aj tb,af (t.root s:Nat),aj d] W (Mo S W D d fr ub y F cb c b (downG more h (lI R) y fr ub t s)):=by
 intro t
 induction t with
 |leaf a=>exact fun s W b D c k j o m hS f g i hF=>BS F cb more R h cnt V lo hi tb fb d w0 S y fr ub n u p q v _ s W b D c k j o m hS f g i hF (fun l r e=>by cases e)
 |node l r w x=>
  intro s W b D c k j o m hS f g i hF;refine BS F cb more R h cnt V lo hi tb fb d w0 S y fr ub n u p q v _ s W b D c k j o m hS f g i hF fun l' C e=>?_;cases e;have z:=FT.eT r j.2.1;have A:=j.2.2;have B:(FT.node l r).hi=r.hi:=rfl;exact⟨fun W b D c hS f g i hF=>w s W b D c k.left j.1 aa m.2.2.1 hS f g i hF,fun W b D c hS f g i hF=>x _ W b D c k.right j.2.1 aa m.2.2.2 hS f g i hF⟩
def Tn (ob:Nat) (R:List Pt) (w0:World) (W:World) (acc:List Nat) (D:Nat->Prop):Prop:=
 Below w0.heap.size w0 W/\∃v,W.heap[ob]? =some (.cells #[v] 35 (0,0))/\W.ownsRow w0.heap.size 27 1 v acc.length ((acc.map (jI R)).map (Value.int .u32))/\D=fun k=>k=ob\/v.ownBlock=some k
theorem Jv:gF 109:=di func109 aO rfl
theorem Jw (R:List Pt) (ob:Nat) (w0:World) (G:List Nat) (aA:G.length<=1000000) (U:w0.heap.size<=ob):
  Q7 109 #[aj ob] true R w0 G (Tn ob R w0) where
 enters:=Jv
 base:=fun W d D h=>h.1
 lt:=fun W d D h k hk=>by
  obtain⟨m,v,b,c,rfl⟩:=h;rcases hk with rfl|hk
  .exact⟨U,(aZ.1 b).1⟩
  .exact c.lt k hk
 kN:=fun W W' d D ar h y x=>by
  obtain⟨m,v,b,c,rfl⟩:=h;exact⟨m.trans (y.toBelow m.size (fun k hk=>(x k hk).1)),v,(y.block ob (aZ.1 b).1 (fun h9=>(x ob h9).2 (.inl rfl))).trans b,aT c y (fun g e h9=>(x g h9).2 (.inr e)),rfl⟩
 told:=fun W d D i h hi hF=>by
  obtain⟨m,v,b,c,rfl⟩:=h;have Q:=hF.length_le;rw[bS,Ae]at Q;have ap:(bV R i).2.2=jI R i:=rfl;have ab:Hid ((((d++[i]).map (jI R)).map (Value.int .u32))=((d.map (jI R)).map (Value.int .u32))++[.int .u32 (bV R i).2.2]):=by
   show _=_;rw[bL,bL];rfl
  have K:Hid ((d++[i]).length=d.length+1):=by show _=_;simp
  generalize bV R i=p at*;obtain⟨C,E,r⟩:=p;obtain⟨f,j,rfl⟩:=fF c;have V:ob<W.heap.size:=(aZ.1 b).1;obtain⟨n,T⟩:∃n,n=d.length:=⟨_,rfl⟩;rw[<-T]at b c Q K |-;obtain⟨w1,s⟩:∃w1,w1=W.alloc (.cells #[af C,af E,ay r] 29):=⟨_,rfl⟩;have q:Below W.heap.size W w1:=by rw[s];exact(aJ _ _).alloc (aB _) _
  have Y:w1.heap[W.heap.size]? =some (.cells #[af C,af E,ay r] 29 (0,0)):=by rw[s];exact cB W _
  have z:=(q.block ob V).trans b;have au:w1.cell? (ae ob 0)=some (.slice f n j):=aG z;have av:w1.cell? (ae W.heap.size 2)=some (ay r):=aG Y;have ah:Hid (w1.ownsRow w0.heap.size 27 1 (.slice f n j) n ((d.map (jI R)).map (Value.int .u32))):=az c q;have ac:=ag z;have I:=ag q;have H:=ag m;have an:w0.heap.size<=w1.heap.size:=bD m.size q.size;have aq:ob<w1.heap.size:=bR V q.size;have al:=ag c.lt;have X:∀l,(Value.slice f n j).ownBlock=some l->ob≠l:=bn c b ai;have L:=ag X;clear hF m b c Y z q X T ap;show aK 109 #[iT C E r,aj ob] W _;go_enter func109,ntmps109
  go_upto_region 1 with fail
  rw[<-s];clear s
  go_upto_region 1 with fail
  have am:Hid (∀(F:Value) (w2:World),w1.grownBy w2 (Value.slice f n j).ownBlock->w2.heap[ob]? =some (.cells #[.slice f n j] 35 (0,0))/\ax (fun k=>k=ob\/(Value.slice f n j).ownBlock=some k) W w2):=fun F w2 t=>by
   have N:ax (fun k=>(Value.slice f n j).ownBlock=some k) w1 w2:=(ax.refl _ _).grown t (fun k hk=>.inl hk);exact⟨(N.block ob aq (fun h=>L.o ob h rfl)).trans ac.o,((ax.refl _ W).below I.o).trans (N.mono fun k h=>.inr h)⟩
  go_wp2_with (at_builtin;refine bW uk w0.heap.size ah.o [.int .u32 r] rfl (by simp[Value.oneCell']) rfl _ _ rfl rfl _ rfl dD aa an ?_;intro F w2 B t P;have h9:=am.o F w2 t;have ad:=ag h9.1;have Z:=ag h9.2;have A:=h9.1;have aC:(w2.frozen? (ae ob 0)=false):=(aG A);have aw:(w2.cell? (ae ob 0)=some (.slice f n j)):=(aG A);have J:=ag P;have ak:=ag B;obtain⟨u,w,rfl⟩:=fF B;clear h9 A B P t)
  go_ret;have M:=(Z.o.set (a:=(ae ob 0)) (.slice u (n+1) w) (.inl (.inl rfl)));have ao:∀l,(Value.slice u (n+1) w).ownBlock=some l->l≠ob:=fun l e=>by
   rcases J.o with h9|h9
   .exact fun O=>L.o l (h9▸e) O.symm
   .rw[h9]at e;injection e with e;intro O;simp at e;omega
  refine⟨rfl,_,⟨H.o.trans (M.toBelow H.o.size (fun k h=>?_)),.slice u (n+1) w,dC _ ob 0 _ _ _ ad.o,?_,rfl⟩,fun k h=>?_,M⟩
  .rcases h with rfl|h
   .exact U
   .exact(al.o k h).1
  .have h9:=aT (S:=fun k=>k=ob) ak.o ((ax.refl (fun k=>k=ob) w2).set (a:=(ae ob 0)) (.slice u (n+1) w) (.inl rfl)) ao;rw[K.o,ab.o];exact h9
  .rcases h with rfl|h
   .exact .inl (.inl rfl)
   .rcases J.o with h9|h9
    .exact .inl (.inr (h9▸h))
    .rw[h9]at h;injection h with h;have:=I.o.size;simp at h;right;omega
theorem Q8 {more:Bool} {R:List Pt} {h:iH} {x1 x2 y:Int} (a:R.length=0\/x2<x1):ny more R h x1 x2 y=([],0):=by unfold ny;rw[aN a]
theorem Jy (F:Nat) (cb:Array Value) (more:Bool) (R:List Pt) (h:iH) (cnt:Int) (V:ni) (lo hi tb fb:Nat) (w0 W:World) (S:World->List Nat->(Nat->Prop)->Prop) (D:Nat->Prop) (x1 x2 y:Int)
  (z:dm w0 lo hi tb fb R h cnt V) (I:mg R h) (ao:R.length<=20000) (s:Q7 F cb more R w0 (ny more R h x1 x2 y).1 S) (hS:S W [] D):
  aK 108 #[aj tb,af x1,af x2,af y,.func (.func F) #[] cb] W (EN S W D (ny more R h x1 x2 y)):=by
 have J:=s.base W [] D hS;have l:=z.below J z.fo.2.2.2.2;have aw:=l.FD;have q:=l.blk;obtain⟨a5,a6,U⟩:=fF l.row;obtain⟨ab,ac,X,-,-,K⟩:=Rd.aI l.xs;rw[U,X]at q;have w:(bU R).length=R.length:=by unfold bU;rw[bT]
 rw[w]at q;have aL:W.cell? (ae tb 0)=some (.slice a5 R.length a6):=aG q;have Q:W.cell? (ae tb 1)=some (.slice ab R.length ac):=aG q;have T:W.cell? (ae tb 2)=some (aj fb):=aG q;have P:Hid (∀W',Below W.heap.size W W'->S W' [] D):=fun W' A=>s.kN W W' [] D (fun _=>False) hS ((ax.refl _ W).below A) (fun k h=>h.elim);by_cases v:R.length=0\/x2<x1
 .rw[Q8 v];have ak:Hid (EN S W D ([],0) (.returned (af 0)) W):=⟨rfl,D,hS,fun k h=>.inl h,ax.refl _ _⟩;clear z I s hS l q J P K U X Q T;generalize R.length=n at*;by_cases b:n=0
  .have d0:((n:Int)==0)=true:=by simp[b]
   have d1:(n==0)=true:=by simp[b]
   have d2:decide (n=0)=true:=by simp[b]
   clear b v w;go_enter func108,ntmps108;go_wp2;go_ret;exact ak.o
  .have d0:((n:Int)==0)=false:=by simp[b]
   have d1:(n==0)=false:=by simp[b]
   have d2:decide (n=0)=false:=by simp[b]
   have f1:decide (x1>x2)=true:=aD;have f2:decide (x2<x1)=true:=aD;clear b v w;go_enter func108,ntmps108;go_wp2;go_ret;exact ak.o
 .have b:0<R.length:=aa;have L:=ag (fun W' (A:Below W.heap.size W W')=>EL ab (bU R) ac x1 W' (K.below A) aa);have M:=ag (fun W' (A:Below W.heap.size W W')=>EM ab (bU R) ac x2 W' (K.below A) aa);have a3:=gq (fun i=>decide (x1<=(bU R).getD i 0)) (bU R).length;have a4:=gq (fun i=>decide (x2<(bU R).getD i 0)) (bU R).length;have bf:(aV (bU R) x1).2<=20000:=by unfold aV;omega
  have bg:(aR (bU R) x2).2<=20000:=by unfold aR;omega
  obtain⟨ay,a7,a8⟩:=bJ 0 R.length b;have aX:=fe 0 R.length b;have B:Hid (∀a W' c,S W' [] D->¬D a->w0.heap.size<=a->W'.heap[a]? =some (yQ (iW R x1) (l5 R x2) y F cb c)->c<=40000->iW R x1<l5 R x2->
    aK 174 #[aj tb,af ((2*R.length-2:Nat):Int),aj a] W' (Mo S W' D a (iW R x1) (l5 R x2) y F cb c [] (downG more h (lI R) y (iW R x1) (l5 R x2) (dM 0 R.length) 0))):=fun a W' c aW aU u aY bc r=>by
   have d:=Mq F cb more R h cnt V lo hi tb fb a w0 S y (iW R x1) (l5 R x2) _ s z ao u (dM 0 R.length) 0 W' [] D c (jT _ b) ay aa (I.ok b) aW aU aY aa (by
    unfold ny;rw[aM v,aN r];exact List.prefix_rfl)
   rw[show(dM 0 R.length).root 0=2*R.length-2 by unfold FT.root;omega]at d;exact d
  have bd:=(Gz I ao more x1 x2 y).2;have x:Hid (ny more R h x1 x2 y=if iW R x1<l5 R x2 then((downG more h (lI R) y (iW R x1) (l5 R x2) (dM 0 R.length) 0).1,(aV (bU R) x1).2+(aR (bU R) x2).2+(downG more h (lI R) y (iW R x1) (l5 R x2) (dM 0 R.length) 0).2.1)else([],(aV (bU R) x1).2+(aR (bU R) x2).2)):=by
   show ny more R h x1 x2 y=_
   conv=>lhs;unfold ny
   rw[aM v]
  have O:Hid (iW R x1=(aV (bU R) x1).1/\l5 R x2=(aR (bU R) x2).1):=⟨rfl,rfl⟩;rw[<-O.o.1,w]at L;rw[<-O.o.2,w]at M;have C:=ag l;have aE:=ag (s.lt W [] D hS);have bb:=J.size;have f1:decide (x1>x2)=false:=aD;have f2:decide (x2<x1)=false:=aD;obtain⟨dg,au⟩:∃dg,dg=downG more h (lI R) y (iW R x1) (l5 R x2) (dM 0 R.length) 0:=⟨_,rfl⟩;rw[<-au]at B x;clear z I s hS l q J K U X v a3 a4 ay a7 a8 aX w au;generalize iW R x1=fr at*;generalize l5 R x2=tu at*;generalize a0:(aV (bU R) x1).2=f at*;generalize a1:(aR (bU R) x2).2=g at*;generalize ny more R h x1 x2 y=ask at*;clear a0 a1 O;have aF:Hid (nH W lo fb R.length V.fv):=C.o.iD;have aH:Hid (fb<W.heap.size):=bR C.o.fo.2.2.2.1 C.o.fo.2.2.2.2;clear C;generalize R.length=n at*;have d0:((n:Int)==0)=false:=aD;have d1:(n==0)=false:=aD;have d2:decide (n=0)=false:=aD;go_enter func108,ntmps108
  go_wp2_with fail
  refine(L.o W (aJ _ _)).mono ?_;rintro e w1 ⟨rfl,Y⟩;have aO:=(Y.cell (p:=(ae tb 1)) aw).trans Q;have E:=ag Y;clear Y
  go_wp2_with fail
  refine(M.o w1 E.o).mono ?_;rintro e w2 ⟨rfl,aq⟩;have G:Hid (Below W.heap.size W w2):=E.o.trans (aq.mono E.o.size);clear aq aO L M E
  go_upto_region 6 with fail
  obtain⟨w3,H⟩:∃w3,w3=w2.alloc (.cells #[af fr,af tu,af y,.func (.func F) #[] cb,af ((f+g:Nat):Int)] 250):=⟨_,rfl⟩;have ar:Below w2.heap.size w2 w3:=by rw[H];exact(aJ _ _).alloc (aB _) _
  obtain⟨a,u⟩:∃a,a=w2.heap.size:=⟨_,rfl⟩;have t:w3.heap[a]? =some (yQ fr tu y F cb (f+g)):=by rw[H,u];exact cB w2 _
  have j:Hid (Below W.heap.size W w3):=G.o.trans (ar.mono G.o.size);have a9:W.heap.size<=a:=by rw[u];exact G.o.size
  rw[show w2.alloc (.cells #[af fr,af tu,af y,.func (.func F) #[] cb,af ((f:Int)+(g:Int))] 250)=w3 by rw[H];rfl,<-u];have ai:=ag t;have be:=(j.o.cell (p:=(ae tb 2)) aw).trans T;have ba:a<w3.heap.size:=(aZ.1 t).1;have aC:Hid (¬D a):=fun d=>by have:=(aE.o a d).2;omega
  clear H ar t u G aL Q T;by_cases r:fr<tu
  .have aQ:decide ((fr:Int)<(tu:Int))=true:=aD;have aS:decide (fr<tu)=true:=aD;have m:=x.o;rw[aN r]at m;have aA:=ag m;have av:=aF.o.blk;have Z:=(j.o.block fb aH.o).trans av;have ah:=ag (jw fb n b aa w3 (aG Z) (aG Z));have ad:=ag (B.o a w3 (f+g) (P.o w3 j.o) aC.o aa ai.o aa r);clear m r Z av B x
   go_wp2_with fail
   refine ah.o.mono ?_;rintro e w' ⟨rfl,aP⟩;subst aP
   go_wp2_with fail
   refine ad.o.mono ?_;rintro e w4 ⟨rfl,az,ap,am,an,al⟩;have a2:w4.cell? (ae a 4)=some (af ((f+g+dg.2.1:Nat):Int)):=aG al;have N:Hid (EN S W D ask (.returned (af ((f+g+dg.2.1:Nat):Int))) w4):=by
    rw[aA.o];refine⟨rfl,az,ap,fun k d=>(am k d).imp id fun aT=>by have:=j.o.size;omega,?_⟩;exact(((ax.refl (fun k=>D k\/W.heap.size<=k) W).below j.o).trans (an.mono fun k d=>d.imp id fun aT=>aa)).strip
   clear ap am an al ad ah;go_wp2;go_ret;exact N.o
  .have aQ:decide ((fr:Int)<(tu:Int))=false:=aD;have aS:decide (fr<tu)=false:=aD;have m:=x.o;rw[aM r]at m;have N:Hid (EN S W D ask (.returned (af ((f+g:Nat):Int))) w3):=by
    rw[m];exact⟨rfl,D,P.o w3 j.o,fun k h=>.inl h,(ax.refl _ W).below j.o⟩
   have t:=ai.o;have a2:w3.cell? (ae a 4)=some (af ((f+g:Nat):Int)):=aG t;clear m r t B x;go_wp2;go_ret;exact N.o
def VC (w:World) (R:List Pt) (r:List Nat×Nat) (e:Ending) (w':World):Prop:=
 ∃v,e=.returned (.tuple #[v,af (r.2:Nat)])/\w'.ownsRow w.heap.size 27 1 v r.1.length ((dE (r.1.map (jI R))).map (Value.int .u32))/\Below w.heap.size w w'
theorem Jz {w:World} {lo hi tb fb:Nat} {R:List Pt} {h:iH} {cnt:Int} {V:ni} (x:dm w lo hi tb fb R h cnt V) (j:mg R h) (i:R.length<=20000) (x1 x2 y:Int):
  aK 41 #[aj tb,af x1,af x2,af y] w (VC w R (ny true R h x1 x2 y)):=by
 obtain⟨w1,c⟩:∃w1,w1=w.alloc (.cells #[aL] 35):=⟨_,rfl⟩;have z:Below w.heap.size w w1:=by rw[c];exact(aJ _ _).alloc (aB _) _
 have B:w1.heap[w.heap.size]? =some (.cells #[aL] 35 (0,0)):=by rw[c];exact cB w _
 have hS:Tn w.heap.size R w w1 [] (fun k=>k=w.heap.size\/(aL).ownBlock=some k):=⟨z,aL,B,dw _ _ _ _,rfl⟩;have⟨N,M⟩:=Gz j i true x1 x2 y;have m:=Jy 109 #[aj w.heap.size] true R h cnt V lo hi tb fb w w1 (Tn w.heap.size R w) _ x1 x2 y x j i
  (Jw R w.heap.size w _ aa (aB _)) hS
 generalize ny true R h x1 x2 y=r at*;have p:=ag m;have O:r.1.length<=40000:=aa;go_enter func41,ntmps41
 go_wp2_with fail
 rw[<-c];refine p.o.mono ?_;rintro e w2 ⟨rfl,I,⟨A,v,a,b,rfl⟩,K,L⟩;have s:=ag b;have d:=ag A;have J:=ag a;have F:w2.cell? (ae w.heap.size 0)=some v:=aG a;have E:∀f,v.ownBlock=some f->w.heap.size≠f:=bn b a ai;have u:=ag E;have C:=(aZ.1 a).1;have n:=ag (zN (l:=r.1.map (jI R)) b aa);obtain⟨G,H,rfl⟩:=fF b
 go_wp2_with fail
 refine n.o.mono ?_;rintro e w3 ⟨rfl,D,g⟩;have t:=ag D;have P:w3.cell? (ae w.heap.size 0)=some (.slice G r.1.length H):=((bZ g C (fun h=>u.o _ h rfl)).1 0).trans F;have q:Hid (Below w.heap.size w w3):=d.o.trans (g.toBelow d.o.size (fun k h=>(s.o.lt k h).1));go_wp2;go_ret2;exact⟨_,rfl,t.o,q.o⟩
theorem O1 (p q:Pt) (w:World):aK 71 #[iT p.1 p.2.1 p.2.2,iT q.1 q.2.1 q.2.2] w (fV w (af (nW p q))):=
 (SL p q w).mono fun e w' ⟨a,b⟩=>⟨a,b.below (aB _)⟩
def CX (lb:Nat->Nat->Bool) (h:iH):FT->Nat->Int
 |.leaf _,_=>-1
 |.node l r,s=>match h (l.root s),h (r.root (s+l.size))with
  |none,none=>-1
  |some _,none=>(l.root s:Nat)
  |none,some _=>(r.root (s+l.size):Nat)
  |some i,some j=>if lb i j then(l.root s:Nat)else(r.root (s+l.size):Nat)
theorem GL {w:World} {lo hi tb fb:Nat} {cnt:Int} {R:List Pt} {h:iH} {V:ni} (H:dm w lo hi tb fb R h cnt V) (be:R.length<=20000) {t:FT} {s:Nat} (D:FT.At (aW R.length) t s) (F:∀k i,k<(aW R.length).length->h k=some i->i<R.length):
  aK 195 #[aj tb,af (t.root s:Nat)] w (fV w (af (CX (CV R) h t s))):=by
 have aU:=D.lt;have bd:(aW R.length).length<=40000:=by rw[df];omega
 have ao:0<R.length:=by have:=df R.length;omega
 obtain⟨ba,off,cn,env,a3⟩:=H.nodes ao;obtain⟨J,ch,aF,-,-,-,-,aq,aR,-⟩:=H.holds ao;obtain⟨a1,a2,aL,-,-,a4⟩:=bQ.aI bg ai H.row;have E:=H.blk;rw[env,aF,aL]at E;have ax:=H.FD;obtain⟨bJ,n0,bn,bo,bp,br,bs,bt⟩:=mR a3 D.get;have am:w.cell? (ae tb 0)=some (.slice a1 R.length a2):=aG E;have a8:w.cell? (ae tb 3)=some (.slice (some (ae ba off)) (aW R.length).length cn):=aG E;have an:w.cell? (ae tb 4)=some (au J (aW R.length).length ch):=aG E;have ac:=ag aR;have a7:=ag a4;have ad:=ag F;obtain⟨M,ap⟩:∃M,M=(aW R.length).length:=⟨_,rfl⟩;obtain⟨z,av⟩:∃z,z=R.length:=⟨_,rfl⟩;obtain⟨K,aP⟩:∃K,K=t.root s:=⟨_,rfl⟩;rw[<-ap]at a8 an bd aU;rw[<-av]at am be ao;rw[<-aP]at n0 bn bo bp br bs bt aU |-;have al:Hid (M=(aW R.length).length/\z=R.length):=⟨ap,av⟩;obtain⟨w1,v⟩:∃w1,w1=w.alloc (.cells #[.int .u8 (t.top s).kind,af (t.top s).l,af (t.top s).r,af (t.top s).fr,af (t.top s).Kc,af 0,af (t.top s).item] 163):=⟨_,rfl⟩;have L:Below w.heap.size w w1:=by rw[v];exact(aJ _ _).alloc (aB _) _
 have G:w1.heap[w.heap.size]? =some (.cells #[.int .u8 (t.top s).kind,af (t.top s).l,af (t.top s).r,af (t.top s).fr,af (t.top s).Kc,af 0,af (t.top s).item] 163 (0,0)):=by rw[v];exact cB w _
 have bP:w1.cell? (ae w.heap.size 0)=some (.int .u8 (t.top s).kind):=aG G;have x1:w1.cell? (ae w.heap.size 1)=some (af (t.top s).l):=aG G;have x2:w1.cell? (ae w.heap.size 2)=some (af (t.top s).r):=aG G;have A:=ag L;have S:=(L.cell (p:=(ae tb 0)) ax).trans am;have ay:=(L.cell (p:=(ae tb 4)) ax).trans an;have y:w.heap.size<w1.heap.size:=(aZ.1 G).1;have aY:tb<w1.heap.size:=uZ ax y;have bI:J<w1.heap.size:=uZ aq y;clear aR a4 F ap av E env aF aL a3 L G aP;cases t with
 |leaf a=>
  have d1:(((FT.leaf a).top s).kind !=(2:Int))=true:=rfl;clear x1 x2 S ay am an;generalize(FT.leaf a).top s=d at*;go_enter func195,ntmps195
  go_upto_region 2 with fail
  rw[<-v];clear v;go_wp2;go_ret;exact⟨rfl,A.o⟩
 |node l r=>
  have d1:(((FT.node l r).top s).kind !=(2:Int))=false:=rfl;have ar:=D.left.lt;have aw:=D.right.lt;have aS:((FT.node l r).top s).l=((l.root s:Nat):Int):=by show((s+l.size:Nat):Int)-1=_;unfold FT.root;have:=l.size_pos;omega
  have aT:((FT.node l r).top s).r=((r.root (s+l.size):Nat):Int):=by show((s+l.size+r.size:Nat):Int)-1=_;unfold FT.root;have:=r.size_pos;omega
  rw[aS]at x1;rw[aT]at x2;have B:=(A.o.cell (p:=(ae J (l.root s))) aq).trans (ac.o _ ar).1;have C:=(A.o.cell (p:=(ae J (r.root (s+l.size)))) aq).trans (ac.o _ aw).1;have aE:Hid (∀g f,h (l.root s)=g->h (r.root (s+l.size))=f->CX (CV R) h (.node l r) s=match g,f with|none,none=>-1|some _,none=>(l.root s:Nat)|none,some _=>(r.root (s+l.size):Nat)|some i,some j=>if CV R i j then(l.root s:Nat)else(r.root (s+l.size):Nat)):=fun g f bb bc=>by subst bb bc;rfl
  have aV:=ar;have aX:=aw;rw[<-al.o.1]at ar aw;obtain⟨g,O⟩:∃g,g=h (l.root s):=⟨_,rfl⟩;obtain⟨f,P⟩:∃f,f=h (r.root (s+l.size)):=⟨_,rfl⟩;have I:=ag (aE.o g f O.symm P.symm);have aA:Hid (∀i,g=some i->i<R.length):=fun i e=>ad.o _ i aV (O▸e);have aC:Hid (∀i,f=some i->i<R.length):=fun i e=>ad.o _ i aX (P▸e);rw[<-O]at B;rw[<-P]at C;clear aS aT aE O P ad ac D aV aX;generalize CX (CV R) h (.node l r) s=res at*;generalize(FT.node l r).top s=d at*;generalize l.root s=kl at*;generalize r.root (s+l.size)=kr at*;have bB:=ah ay;have bC:=ah x1;have bD:=ah x2;have bE:=ah B;have bF:=ah C;go_enter func195,ntmps195
  go_upto_region 2 with fail
  rw[<-v];clear v
  go_upto_region 4 with fail
  refine ak (fun W=>∃p:aQ w1,W=p.W) [17] [(0,false),(1,false),(2,false),(3,true),(4,false),(5,true),(6,false),(7,true),(8,false),(9,false),(10,false),(11,true),(12,false),(13,true),(14,false),(15,true),(16,false)] ⟨⟨_,(aJ _ _).drew⟩,rfl⟩ 1 ?_;refine aH [17] ?_;have m:Hid (Below w.heap.size w w1.drew):=A.o.drew;have S:w1.drew.cell? (ae tb 0)=some (.slice a1 z a2):=S;have x1:w1.drew.cell? (ae w.heap.size 1)=some (af kl):=x1;have x2:w1.drew.cell? (ae w.heap.size 2)=some (af kr):=x2;have y:w.heap.size<w1.drew.heap.size:=y;have aY:tb<w1.drew.heap.size:=aY;clear bB bC bD bE bF ay B C A;generalize w1.drew=w2 at*;cases g with
  |none=>
   cases f with
   |none=>
    simp only[og];have c:=I.o;simp only at c;subst c;go_wp2;go_ret;exact⟨rfl,m.o⟩
   |some j=>
    simp only[og];have c:=I.o;simp only at c;subst c;have B:((j:Int)==-1)=false:=by first|(simp;done)|(simp;omega)
    have C:decide ((j:Int)=-1)=false:=by first|(simp;done)|(simp;omega)
    have ab:Hid (∀n,Below w.heap.size w (w2.drewN n)):=fun n=>m.o.trans ((Below.bq _ n).mono m.o.size)
    go_upto_region 7 with fail
    go_quiet (fail)
    go_wp2;go_ret;exact⟨rfl,ab.o _⟩
  |some i=>
   have B:((i:Int)==-1)=false:=by first|(simp;done)|(simp;omega)
   have C:decide ((i:Int)=-1)=false:=by first|(simp;done)|(simp;omega)
   have bH:((i:Int)!=-1)=true:=by first|(simp;done)|(simp;omega)
   cases f with
   |none=>
    simp only[og];have c:=I.o;simp only at c;subst c;have ab:Hid (∀n,Below w.heap.size w (w2.drewN n)):=fun n=>m.o.trans ((Below.bq _ n).mono m.o.size)
    go_upto_region 7 with fail
    go_quiet (fail)
    go_wp2;go_ret;exact⟨rfl,ab.o _⟩
   |some j=>
    have f1:((j:Int)==-1)=false:=by first|(simp;done)|(simp;omega)
    have f2:decide ((j:Int)=-1)=false:=by first|(simp;done)|(simp;omega)
    simp only[og];have hi:=aA.o i rfl;have x:=aC.o j rfl;obtain⟨bN,bO,a9,bM,u⟩:=(a7.o.below m.o).get aa;have T:=u i hi 0 aa;have U:=u i hi 1 aa;have X:=u i hi 2 aa;have Y:=u j x 0 aa;have v1:=u j x 1 aa;have Z:=u j x 2 aa;simp only[bX,fw,fD,dx]at T U X Y v1 Z;rw[<-dG hi]at T U X;rw[<-dG x]at Y v1 Z;subst a9;have aD:Hid (CV R i j=decide (nW (bV R i) (bV R j)<0)):=by
     show _=_;unfold CV;rw[uP,qm]
    have bK:i<z:=by rw[al.o.2];exact hi
    have bL:j<z:=by rw[al.o.2];exact x
    have c:=I.o;simp only at c;rw[aD.o]at c;clear u hi x aD aA aC;generalize bV R i=p at*;generalize bV R j=q at*;have a5:=ag (fun W=>O1 p q W);generalize nW p q=Q at*;obtain⟨bv,bw,bu⟩:=p;obtain⟨bz,bA,bx⟩:=q;simp only at T U X Y v1 Z;have a6:Hid (∀b:aQ w2,aK 71 #[iT bv bw bu,iT bz bA bx] b.W fun e w'=>e=.returned (af Q)/\Below b.W.heap.size b.W w'):=fun b=>a5.o b.W;have bf:=ah S;have bh:=ah T;have bi:=ah U;have bj:=ah X;have bk:=ah Y;have bl:=ah v1;have bm:=ah Z
    go_upto_region 7 with fail
    refine bG aO aO ?_
    repeat(quiet_step ((go_at_call 71;exact dJ (a6.o _))))
    refine jM ?_;intro w4 a0;have N:Below w2.heap.size w2 w4:=by obtain⟨b,rfl⟩:=a0;exact b.h
    have x1:=(N.cell (p:=(ae w.heap.size 1)) y).trans x1;have x2:=(N.cell (p:=(ae w.heap.size 2)) y).trans x2;have az:Hid (Below w.heap.size w w4):=m.o.trans (N.mono m.o.size);clear a0 N bf bh bi bj bk bl bm;by_cases F:Q<0
    .have d1:decide (Q<0)=true:=by simp[F]
     rw[d1,aN rfl]at c;subst c;go_wp2;go_ret;exact⟨rfl,az.o⟩
    .have d1:decide (Q<0)=false:=by simp[F]
     rw[d1,aM ai]at c;subst c;go_wp2;go_ret;exact⟨rfl,az.o⟩
theorem Mr {lb:Nat->Nat->Bool} {N:List Nd} {t:FT} {s:Nat} {h:iH} (d:FT.At N t s):
  (CX lb h t s=-1/\pullH lb t s h=gy h (t.root s) none)\/
  ∃t2 e i,CX lb h t s=((t2.root e:Nat):Int)/\FT.At N t2 e/\t2.size<t.size/\h (t2.root e)=some i/\pullH lb t s h=pullH lb t2 e (gy h (t.root s) (some i)):=by
 cases t with
 |leaf a=>exact .inl ⟨rfl,rfl⟩
 |node l r=>
  have g:(FT.node l r).size=l.size+r.size+1:=rfl;have pl:=l.size_pos;have k:=r.size_pos;cases c:h (l.root s)with
  |none=>
   cases b:h (r.root (s+l.size))with
   |none=>left;simp only[CX,pullH];rw[c,b];exact⟨rfl,rfl⟩
   |some j=>right;refine⟨r,s+l.size,j,?_,d.right,aa,b,?_⟩<;>simp only[CX,pullH]<;>rw[c,b]
  |some i=>
   cases b:h (r.root (s+l.size))with
   |none=>right;refine⟨l,s,i,?_,d.left,aa,c,?_⟩<;>simp only[CX,pullH]<;>rw[c,b]
   |some j=>
    right;cases f:lb i j with
    |true=>refine⟨l,s,i,?_,d.left,aa,c,?_⟩<;>simp only[CX,pullH]<;>rw[c,b]<;>simp[f]
    |false=>refine⟨r,s+l.size,j,?_,d.right,aa,b,?_⟩<;>simp only[CX,pullH]<;>rw[c,b]<;>simp[f]
theorem JA:gF 194:=di func194 aO rfl
theorem JB {w:World} {lo hi tb fb:Nat} {R:List Pt} {h:iH} {cnt:Int} {V:ni} (H:dm w lo hi tb fb R h cnt V) (tc ac x k:Nat) (t:w.cell? (ae tc 0)=some (aj tb)) (r:w.cell? (ae ac 0)=some (af x)) (j:k<(aW R.length).length) (q:R.length<=20000):
  aK 194 #[af k,aj tc,aj ac] w (fV w (.bool (decide (h k=some x)))):=by
 have i:0<R.length:=by have:=df R.length;omega
 have p:(aW R.length).length<=40000:=by rw[df];omega
 obtain⟨g,ch,d,-,-,-,-,s,e,-⟩:=H.holds i;have b:=H.blk;rw[d]at b;have l:w.cell? (ae tb 4)=some (au g (aW R.length).length ch):=aG b;have m:=(e k j).1;have f:decide (h k=some x)=decide (og (h k)=(x:Int)):=by rw[uP,Q6]
 rw[f];have c:Hid (∀n,Below w.heap.size w (w.drewN n)):=fun n=>Below.bq _ _;clear e b d H f;generalize(aW R.length).length=M at*;generalize og (h k)=v at*;go_enter func194,ntmps194
 go_upto_region 1 with fail
 by_cases a:v=x
 .have d1:(v==(x:Int))=true:=by simp[a]
  have d2:decide (v=(x:Int))=true:=by simp[a]
  clear a
  go_quiet (fail)
  go_wp2;go_ret;rw[d2];exact⟨rfl,c.o _⟩
 .have d1:(v==(x:Int))=false:=by simp[a]
  have d2:decide (v=(x:Int))=false:=by simp[a]
  clear a
  go_quiet (fail)
  go_wp2;go_ret;rw[d2];exact⟨rfl,c.o _⟩
def UC (w:World) (h:iH) (x:Nat) (P:List Nat) (e:Ending) (w':World):Prop:=
 ∃r:Int,e=.returned (af r)/\Below w.heap.size w w'/\((r=-1/\∀k∈P,h k≠some x)\/∃j k:Nat,r=j/\P[j]? =some k/\h k=some x/\∀i<j,∀k',P[i]? =some k'->h k'≠some x)
theorem O3 {w:World} {lo hi tb fb:Nat} {R:List Pt} {h:iH} {cnt:Int} {V:ni} (H:dm w lo hi tb fb R h cnt V) (K:R.length<=20000) (tc ac x:Nat) (u:w.cell? (ae tc 0)=some (aj tb)) (m:w.cell? (ae ac 0)=some (af x))
  (P:List Nat) (hP:∀k∈P,k<(aW R.length).length) (F:Option Addr) (N:Nat) (hp:Rd fA w F P) (L:P.length<=40000):
  aK 193 #[.slice F P.length N,.func (.func 194) #[] #[aj tc,aj ac]] w (UC w h x P):=by
 have E:=gY w _ u;have B:=gY w _ m;simp only at E B;have G:Hid (∀W k,Below w.heap.size w W->k∈P->aK 194 #[af k,aj tc,aj ac] W (fV W (.bool (decide (h k=some x))))):=fun W k q s=>
  JB (H.below q H.fo.2.2.2.2) tc ac x k ((q.cell (p:=(ae tc 0)) E).trans u) ((q.cell (p:=(ae ac 0)) B).trans m) (hP k s) K
 have J:=ag hp;have S:=JA;clear H hp hP u m;unfold UC;obtain⟨n,t⟩:∃n,n=P.length:=⟨_,rfl⟩;have z:=ag t;rw[<-t]at L |-;clear t;go_enter func193,ntmps193;go_wp2
 go_loopg [8] n (fun M O wr=>∃j:Nat,O=.int .i64 j/\j<=n/\n-j<=M/\Hid (Below w.heap.size w wr)/\Hid (∀i<j,∀k',P[i]? =some k'->h k'≠some x))
 case atStart=>exact⟨0,rfl,aX _,aa,aJ _ _,fun i hi=>absurd hi (kC _)⟩
 case round=>
  obtain⟨j,rfl,U,X,a,g⟩:=hrel;by_cases Y:j<n
  .have f:j<P.length:=by have:=z.o;omega
   obtain⟨b,off,A,T,C⟩:=(J.o.below a.o).get aa;have Q:=C j f;simp only[fA]at Q;have d:=ag (G.o wr P[j] a.o (bB f));have y:Hid (P[j]? =some P[j]):=cz f;have v:=ag A;clear C A;generalize P[j]=k at*;obtain rfl:=v.o;clear v f;by_cases c:h k=some x
   .have hd:decide (h k=some x)=true:=by simp[c]
    rw[hd]at d;have l:=ag c;clear hd c
    go_wp2_with (go_at_fn 194;refine d.o.mono ?_;rintro e w' ⟨rfl,r⟩)
    go_ret;exact⟨_,rfl,a.o.trans (r.mono a.o.size),.inr ⟨j,k,rfl,y.o,l.o,g.o⟩⟩
   .have hd:decide (h k=some x)=false:=by simp[c]
    rw[hd]at d;have l:=ag c;clear hd c
    go_wp2_with (go_at_fn 194;refine d.o.mono ?_;rintro e w' ⟨rfl,r⟩)
    go_roundg (n-(j+1))
    case measure=>omega
    case rel=>
     refine⟨j+1,by go_num,aa,aB _,a.o.trans (r.mono a.o.size),fun i hi k' D=>?_⟩;by_cases e:i=j
     .subst e;have:=y.o;rw[D]at this;injection this with this;rw[this];exact l.o
     .exact g.o i aa k' D
  .obtain rfl:j=n:=aa;have I:Hid (∀k∈P,h k≠some x):=fun k s=>by
    obtain⟨i,hi,rfl⟩:=jb s;exact g.o i (by have:=z.o;omega) _ (cz hi)
   go_wp2;go_ret;exact⟨_,rfl,a.o,.inl ⟨rfl,I.o⟩⟩
theorem GM:gF 191:=di func191 aO rfl
theorem O4:gF 192:=di func192 aO rfl
def BU (w:World) (tb:Nat) (px py pi:Int):World:=(w.alloc (.cells #[aj tb] 87)).alloc (.cells #[af px,af py,ay pi] 29)
theorem GN (w:World) (tb:Nat) (b c a:Int):Below w.heap.size w (BU w tb b c a)/\(BU w tb b c a).heap[w.heap.size]? =some (.cells #[aj tb] 87 (0,0))/\(BU w tb b c a).heap[w.heap.size+1]? =some (.cells #[af b,af c,ay a] 29 (0,0))/\(BU w tb b c a).heap.size=w.heap.size+2:=
 ⟨((aJ _ _).alloc (aB _) _).alloc aA _,IG w _ _,Ex w _ _,by simp[BU]⟩
theorem BV {h:iH}:∀{t:FT} {s:Nat},∀p∈t.subs s,∀i∈held h p.1 p.2,i∈held h t s
 |.leaf a,s,p,hp,i,hi=>by
  have:p=(.leaf a,s):=by simpa[FT.subs]using hp
  subst this;exact hi
 |.node l r,s,p,hp,i,hi=>by
  simp only[FT.subs,bP,lW]at hp;simp only[held,bP];rcases hp with(hp|hp)|hp
  .exact .inr (.inl (BV p hp i hi))
  .exact .inr (.inr (BV p hp i hi))
  .subst hp;simpa only[held,bP]using hi
def JC (w:World) (lo hi tb fb:Nat) (R:List Pt) (h:iH) (cnt:Int) (V:ni) (x:Nat) (e:Ending) (w':World):Prop:=
 (x∉nZ R h/\e=.returned (.bool false)/\Below w.heap.size w w')\/(x∈nZ R h/\e=.returned (.bool true)/\dm w' lo hi tb fb R (CW R x h) (cnt-1) V/\ax (fun k=>lo<=k/\k<hi) w w')
theorem Fj {w:World} {lo hi tb fb:Nat} {R:List Pt} {h:iH} {cnt:Int} {V:ni} (Y:dm w lo hi tb fb R h cnt V) (bt:mg R h) (dh:R.length<=20000) (dQ:0<=cnt) (dR:cnt<=20000) {x:Nat} (aY:x<R.length) (p:Pt) (hp:R[x]=p):
  aK 126 #[aj tb,iT p.1 p.2.1 p.2.2] w (JC w lo hi tb fb R h cnt V x):=by
 have O:=Y.blk;have dw:=Y.FD;have b8:=Y.fo;obtain⟨a5,a6,bP,-,-,b5⟩:=bQ.aI bg ai Y.row;rw[bP]at O;have CB:=ag (fun W (O:Below w.heap.size w W)=>OE a5 R R.length a6 p W rfl aa (b5.below O) bt.A9);have bw:=E8 bt.A9 aY;rw[hp]at bw;rw[bw.1,bw.2]at CB;have c6:=ag b5;have cK:bV R x=p:=by rw[dG aY];exact hp
 have c4:=ag cK;have bi:=ag aY;have dH:=ag bP;obtain⟨an,ao,am⟩:=p;obtain⟨bv,b7,aV,cL⟩:=GN w tb an ao am;obtain⟨w1,bl⟩:∃w1,w1=BU w tb an ao am:=⟨_,rfl⟩;rw[<-bl]at bv b7 aV cL;unfold BU at bl;have cH:=(bv.block tb dw).trans O;have aL:w1.cell? (ae tb 0)=some (.slice a5 R.length a6):=aG cH;have t0:w1.cell? (ae w.heap.size 0)=some (aj tb):=aG b7;have a0:w1.cell? (ae (w.heap.size+1) 0)=some (af an):=aG aV;have a1:w1.cell? (ae (w.heap.size+1) 1)=some (af ao):=aG aV;have a2:w1.cell? (ae (w.heap.size+1) 2)=some (ay am):=aG aV;have al:0<R.length:=aa;have cN:=aY;obtain⟨n,b4⟩:∃n,n=R.length:=⟨_,rfl⟩;rw[<-b4]at dh aL CB al cN;have l:=ag b4;have a9:=ag bv;have ck:=ag Y;have cs:=ag bt;have cM:tb<w1.heap.size:=aa;have ca:w.heap.size<w1.heap.size:=aa;have bA:w.heap.size+1<w1.heap.size:=aa;clear Y b5 O bP b4 bv b7 aV cH cL bw hp aY bt cK;have d0:((n:Int)==0)=false:=aD;have d1:(n==0)=false:=aD;have d2:decide (n=0)=false:=aD;obtain⟨tc,b9⟩:∃tc,tc=w.heap.size:=⟨_,rfl⟩;have cr:=ag b9;go_enter func126,ntmps126
 go_upto_region 1 with fail
 rw[<-bl];clear bl;rw[<-b9]at t0 a0 a1 a2 ca bA |-;clear b9
 go_upto_region 3 with fail
 have cl:Hid (∀b:aQ w1,aK 191 #[.slice a5 n a6,iT an ao am,.func (.func 94) #[] #[]] b.W fun e w'=>e=.returned (.tuple #[af (x:Nat),.bool true])/\Below b.W.heap.size b.W w'):=fun b=>CB.o b.W (a9.o.trans (b.h.mono a9.o.size));clear CB
 go_cut [5,6]from 5 (fun dD dE cS=>∃z:Nat,dD=aj z/\dE=.bool true/\Hid (Below w1.heap.size w1 cS)/\Hid (cS.heap[z]? =some (.cells #[af (x:Nat)] 3 (0,0))))
 case first=>
  have bo:=ah aL;have bp:=ah t0;have br:=ah a0;have dL:=ah a1;have dN:=ah a2;refine ak (fun W=>∃p:aQ w1,W=p.W) [11] [(0,true),(1,false),(2,false),(3,true),(4,true)] ⟨⟨_,(aJ _ _).drew⟩,rfl⟩ 7 ?_;have C:Below w1.heap.size w1 w1.drew:=(aJ _ _).drew;refine iQ 5 9 rfl rfl (fun K c=>?_) (fun K c=>?_)
  .refine bf GM rfl _ _ rfl (vals:=#[.slice a5 n a6,iT an ao am,.func (.func 94) #[] #[]]) rfl (cl.o ⟨w1.drew,C⟩) ?_;rintro e w3 ⟨rfl,A⟩;have f:Below w1.heap.size w1 w3:=C.trans A;refine⟨_,rfl,c _ _ (fun _ _=>⟨⟨_,f⟩,rfl⟩) ?_⟩;clear c K;refine bu [(6,false),(7,false),(8,false)] ⟨⟨_,f⟩,rfl⟩ rfl ?_;have av:Hid (Below w1.heap.size w1 (w3.alloc (.cells #[af (x:Nat)] 3))):=f.alloc f.size _;have bM:=ag (cB w3 (.cells #[af (x:Nat)] 3));refine aF 9 rfl fun K c=>?_;go_simp;refine c _ _ (fun _ _=>⟨⟨_,f.alloc f.size _⟩,rfl⟩) ?_;clear c K;refine aF 10 rfl fun K c=>?_;go_simp;refine c _ _ (fun _ _=>⟨⟨_,av.o⟩,rfl⟩) ?_;clear c K;refine aH [11] ?_;clear f A;go_wp2;go_meet;exact⟨_,rfl,rfl,av.o,bM.o⟩
  .obtain⟨w2,bm⟩:∃w2,w2=(w1.alloc (.cells #[af 0] 3)).drew:=⟨_,rfl⟩;have aO:Below w1.heap.size w1 w2:=by rw[bm];exact((aJ _ _).alloc (aB _) _).drew
   have cc:w2.heap[w1.heap.size]? =some (.cells #[af 0] 3 (0,0)):=by rw[bm];exact cB w1 _
   go_simp;rw[<-bm];clear bm;refine c _ _ (fun _ _=>⟨⟨_,aO⟩,rfl⟩) ?_;clear c K;refine aF 5 rfl fun K c=>?_;refine bf GM rfl _ _ rfl (vals:=#[.slice a5 n a6,iT an ao am,.func (.func 94) #[] #[]]) rfl (cl.o ⟨w2,aO⟩) ?_;rintro e w3 ⟨rfl,A⟩;have f:Below w1.heap.size w1 w3:=aO.trans (A.mono aO.size);have bE:=(A.block _ (aZ.1 cc).1).trans cc;refine⟨_,rfl,c _ _ (fun _ _=>⟨⟨_,f⟩,rfl⟩) ?_⟩;clear c K;refine bu [(6,false),(7,false),(8,false)] ⟨⟨_,f⟩,rfl⟩ rfl ?_;have ap:w3.cell? (ae w1.heap.size 0)=some (af 0):=aG bE;have aq:w3.frozen? (ae w1.heap.size 0)=false:=aG bE;have av:Hid (Below w1.heap.size w1 (w3.setCell (ae w1.heap.size 0) (.int .i64 (x:Nat)))):=⟨f.os,f.tape,f.output,aP f.size,fun b O=>(aC (show w1.heap.size≠b by omega)).trans (f.block b O)⟩;have bM:Hid ((w3.setCell (ae w1.heap.size 0) (.int .i64 (x:Nat))).heap[w1.heap.size]? =some (.cells #[af (x:Nat)] 3 (0,0))):=dC w3 _ 0 _ _ _ bE;refine aF 10 rfl fun K c=>?_;go_simp;refine c _ _ (fun _ _=>⟨⟨_,av.o⟩,rfl⟩) ?_;clear c K;refine aH [11] ?_;clear f A aO cc bE ap aq;go_wp2;go_meet;exact⟨_,rfl,rfl,av.o,bM.o⟩
 case rest=>
  obtain⟨z,rfl,rfl,cX,cW⟩:=hcut;have bT:=cW.o;have D:=cX.o;have ar:Hid (Below w.heap.size w wc):=a9.o.trans (D.mono a9.o.size);have J:wc.cell? (ae z 0)=some (af (x:Nat)):=aG bT;have Z:z<wc.heap.size:=(aZ.1 bT).1;have aL:=(D.cell (p:=(ae tb 0)) cM).trans aL;have t0:=(D.cell (p:=(ae tc 0)) ca).trans t0;have a0:=(D.cell (p:=(ae (tc+1) 0)) bA).trans a0;have a1:=(D.cell (p:=(ae (tc+1) 1)) bA).trans a1;have a2:=(D.cell (p:=(ae (tc+1) 2)) bA).trans a2;have y:tc<wc.heap.size:=bR ca D.size;have be:Hid (dm wc lo hi tb fb R h cnt V):=ck.o.below ar.o b8.2.2.2.2;have cF:=be.o.blk;have bj:wc.cell? (ae tb 2)=some (aj fb):=aG cF;obtain⟨b,off,db,dj,v⟩:=(c6.o.below ar.o).get (by have:=l.o;omega);have cd:=v x bi.o 0 aa;have ce:=v x bi.o 1 aa;have cf:=v x bi.o 2 aa;rw[<-dG bi.o,c4.o]at cd ce cf;simp only[bX,fw,fD,dx]at cd ce cf;subst db;have dV:tb<wc.heap.size:=bR cM D.size;clear v bT D cF ck
  go_upto_region 4 with fail
  go_quiet (fail)
  obtain⟨w3,G⟩:∃w3,w3=wc.drewN nq:=⟨_,rfl⟩;have A:Below wc.heap.size wc w3:=by rw[G];exact Below.bq _ _
  have J:w3.cell? (ae z 0)=some (af (x:Nat)):=by rw[G];exact J
  have t0:w3.cell? (ae tc 0)=some (aj tb):=by rw[G];exact t0
  have bj:w3.cell? (ae tb 2)=some (aj fb):=by rw[G];exact bj
  have aE:Hid (dm w3 lo hi tb fb R h cnt V):=be.o.below A be.o.fo.2.2.2.2;have ba:Hid (Below w.heap.size w w3):=ar.o.trans (A.mono ar.o.size);have Z:z<w3.heap.size:=by rw[G];exact Z
  have y:tc<w3.heap.size:=by rw[G];exact y
  go_upto_region 6 with fail
  rw[<-G];clear G A be ar cd ce cf a0 a1 a2 aL dj;have C:Below w3.heap.size w3 w3.drew:=(aJ _ _).drew;have cj:=ag (vF lo fb n x V.fv aa cN w3.drew (by rw[l.o];exact(aE.o.below C aE.o.fo.2.2.2.2).iD));have bo:=ah t0;have bp:=ah bj;have br:=ah J;refine ak (fun W=>∃p:aQ w3,W=p.W) [5,6,7,8,9,10] [(0,true),(1,false),(2,false),(3,true),(4,true)] ⟨⟨_,(aJ _ _).drew⟩,rfl⟩ 6 ?_;refine aF 5 rfl fun K c=>?_;refine bf O4 rfl _ _ rfl (vals:=#[aj fb,af (x:Nat)]) rfl cj.o ?_;rintro e w4 ⟨pv,rfl,bC,cE⟩;have H:Below w3.heap.size w3 w4:=C.trans cE;refine⟨_,rfl,c _ _ (fun _ h=>absurd aA h) ?_⟩;clear c K;refine bu [(6,false),(7,false),(8,false)] ⟨⟨_,H⟩,rfl⟩ rfl ?_;refine aH [9,10] ?_;have bc:Hid (dm w4 lo hi tb fb R h cnt V):=aE.o.below H aE.o.fo.2.2.2.2;have bI:Hid (Below w.heap.size w w4):=ba.o.trans (H.mono ba.o.size);have t0:=(H.cell (p:=(ae tc 0)) y).trans t0;have J:=(H.cell (p:=(ae z 0)) Z).trans J;have y:tc<w4.heap.size:=bR y H.size;have Z:z<w4.heap.size:=bR Z H.size;obtain⟨P,aN⟩:∃P,P=(dM 0 n).path 0 x:=⟨_,rfl⟩;rw[<-aN]at bC;have dP:P.length<=n+1:=by
   have cx:=FT.oF (dM 0 n) 0 x;have bS:=vB 0 n n (uY (Eh));rw[aN];omega
  obtain⟨cb,dr,dn⟩:=bJ 0 n al;have bs:=jT n al;rw[fH al]at bs;have cD:∀k∈P,k<(aW R.length).length:=fun k ac=>by
   rw[aN]at ac;obtain⟨⟨t,s⟩,dz,dy,-,-⟩:=FT.mW (dM 0 n) 0 x cb aa aa k ac;have di:FT.At (aW n) t s:=by rw[fH al];exact FT.kR _ 0 bs _ dz
   have:=di.lt;simp only at dy;rw[<-l.o];omega
  have bB:=yK (lt:=zI R) (lb:=CV R) (dM 0 n) 0 h x cb (by have:=cs.o.ok (by have:=l.o;omega);rw[<-l.o]at this;exact this) aa aa;rw[<-aN]at bB;have b0:nZ R h=held h (dM 0 n) 0:=by rw[nL (by have:=l.o;omega),l.o]
  have co:Hid (((∀k∈P,h k≠some x)->x∉nZ R h)/\∀m k:Nat,P[m]? =some k->h k=some x->(∀i<m,∀k',P[i]? =some k'->h k'≠some x)->∃E I,FT.At (aW R.length) E I/\k=E.root I/\CW R x h=pullH (CV R) E I h/\x∈nZ R h):=by
   refine⟨fun cy=>by rw[b0];exact bB.1 cy,fun m k cx bS dg=>?_⟩;obtain⟨E,I,a3,a4,bF⟩:=bB.2 m k cx bS dg;refine⟨E,I,?_,a4,?_,?_⟩
   .rw[<-l.o,fH al];exact FT.kR _ 0 bs _ a3
   .unfold CW;rw[<-l.o];exact bF
   .rw[b0];refine BV _ a3 x ?_;obtain⟨L,da⟩:=o5 (t:=E) (s:=I) (h:=h) (by rw[<-a4];exact bS);rw[da];simp
  obtain⟨cP,cQ,rfl,-,-,b6⟩:=Rd.aI (enc:=fA) bC;have cq:Hid (w4.ownsRow w3.heap.size 3 1 (.slice cP P.length cQ) P.length (P.map fA)):=bH bC (aB _);have dT:w.heap.size<=w3.heap.size:=ba.o.size;have c7:=ag b6;have ci:=ag (O3 bc.o (by have:=l.o;omega) tc z x t0 J P cD cP cQ b6 aa);clear bB b0 cD aN cb dr dn bs bC b6 H cE C bo bp br cj aE ba bj
  go_wp2_with fail
  refine ci.o.mono ?_;rintro e F ⟨dY,rfl,ab,dk⟩;have bd:Hid (dm F lo hi tb fb R h cnt V):=bc.o.below ab bc.o.fo.2.2.2.2;have bK:Hid (Below w.heap.size w F):=bI.o.trans (ab.mono bI.o.size);have t0:=(ab.cell (p:=(ae tc 0)) y).trans t0;have y:tc<F.heap.size:=bR y ab.size;have bN:=ag (az cq.o ab);clear ab ci bc bI c7 J Z;rcases dk with⟨rfl,cJ⟩|⟨j,k,rfl,bx,b3,cG⟩
  .have T:Hid (JC w lo hi tb fb R h cnt V x (.returned (.bool false)) F):=.inl ⟨co.o.1 cJ,rfl,bK.o⟩;clear cJ;go_wp2;go_ret;exact T.o
  .obtain⟨E,I,a3,a4,bF,cR⟩:=co.o.2 j k bx b3 cG;have dp:j<P.length:=(fE.1 bx).1;have cC:P[j]=k:=(fE.1 bx).2;have cV:=ag a3;have c1:=ag a4;have c3:=ag bF;have cY:=ag cR;have bU:=bd.o.blk;have c9:F.cell? (ae tb 5)=some (af cnt):=aG bU;have dF:F.frozen? (ae tb 5)=false:=aG bU;have dK:decide ((j:Int)<0)=false:=aA;have dU:=bd.o.FD;have cI:j<P.length:=dp;have c5:=ag cC;clear cC bU a3 a4 bF cR bx b3 cG
   go_upto_region 11 with fail
   obtain⟨w6,bn⟩:∃w6,w6=F.setCell (ae tb 5) (.int .i64 (cnt-1)):=⟨_,rfl⟩;have c2:Hid (dm w6 lo hi tb fb R h (cnt-1) V):=by rw[bn];exact bd.o.BG (cnt-1)
   have aS:ax (fun k=>k=tb) F w6:=by rw[bn];exact(ax.refl (fun k=>k=tb) F).set (a:=(ae tb 5)) _ (.inl rfl)
   have c0:Hid (ax (fun k=>lo<=k/\k<hi) w w6):=((ax.refl _ w).below bK.o).trans (aS.mono fun k h=>by subst h;exact⟨b8.1,b8.2.1⟩);have dv:tc≠tb:=by have:=cr.o;omega
   have t0:=((bZ aS y dv).1 0).trans t0;have y:tc<w6.heap.size:=bR y aS.size;have bD:=aT bN.o aS (fun g e cy=>by have:=(bN.o.lt g e).1;omega);obtain⟨dO,dJ,cw,-,-⟩:=aU bD aa;rw[cw]at bD;injection cw with dc dd de;have cT:=bD.cellAt j aa;rw[iy,cz cI,c5.o]at cT;simp only[fP,fA]at cT;rw[<-bn];subst dc;clear bn c9 dF aS bD dd de bd bK bN cq cI
   go_wp2_with fail
   go_loopg [10] E.size (fun dA dB wr=>∃(t:FT) (s:Nat) (u:iH),dB=.int .i64 (t.root s:Nat)/\t.size<=dA/\Hid (FT.At (aW R.length) t s)/\Hid (dm wr lo hi tb fb R u (cnt-1) V)/\Hid (pullH (CV R) t s u=CW R x h)/\Hid (∀k i,k<(aW R.length).length->u k=some i->i<R.length)/\Hid (ax (fun k=>lo<=k/\k<hi) w wr)/\wr.cell? (ae tc 0)=some (aj tb))
   case atStart=>exact⟨E,I,h,by rw[c1.o],aB _,cV,c2,c3.o.symm,fun k i ac e=>cs.o.pl ac e,c0,t0⟩
   case round=>
    obtain⟨t,s,u,rfl,b3,bG,U,bO,bb,cm,a7⟩:=hrel;have S:=ag (GL U.o (by have:=l.o;omega) bG.o bb.o);have dt:=Mr (lb:=CV R) (h:=u) bG.o;have ad:=bG.o.lt;have dX:=U.o.FD;have aX:tc<wr.heap.size:=gY wr _ a7;rcases dt with⟨aM,X⟩|⟨t2,cg,i,aM,X,ct,cu,cv⟩
    .rw[aM]at S;have bh:=ag X;clear aM X
     go_wp2_with fail
     refine S.o.mono ?_;rintro e d ⟨rfl,B⟩;have r:Hid (dm d lo hi tb fb R u (cnt-1) V):=U.o.below B U.o.fo.2.2.2.2;have aw:Hid (ax (fun k=>lo<=k/\k<hi) w d):=cm.o.below B;have t7:=(B.cell (p:=(ae tc 0)) aX).trans a7;obtain⟨q,ch,N,bW,bY,-,-,dl,v,-⟩:=r.o.holds (by have:=l.o;omega);obtain⟨ap,aq⟩:=v _ ad;have Q:=r.o.blk;rw[N]at Q;have bk:d.cell? (ae tb 4)=some (au q (aW R.length).length ch):=aG Q;have T:Hid (JC w lo hi tb fb R h cnt V x (.returned (.bool true)) (d.setCell (ae q (t.root s)) (.int .i64 (-1)))):=by
      refine .inr ⟨cY.o,rfl,?_,aw.o.set (a:=(ae q (t.root s))) _ (.inl ⟨bW,bY⟩)⟩;have:=r.o.nM N ad none;rw[<-bh.o,bO.o]at this;exact this
     clear B Q v N r aw S a7 aX;generalize t.root s=kr at*;generalize(aW R.length).length=M at*;go_wp2;go_ret;exact T.o
    .rw[aM]at S;have bh:=ag cv;have cU:=ag X;have c8:=ag ct;have bL:=ag cu;have bz:=X.lt;clear aM X ct cu cv
     go_wp2_with fail
     refine S.o.mono ?_;rintro e d ⟨rfl,B⟩;have r:Hid (dm d lo hi tb fb R u (cnt-1) V):=U.o.below B U.o.fo.2.2.2.2;have aw:Hid (ax (fun k=>lo<=k/\k<hi) w d):=cm.o.below B;have t7:=(B.cell (p:=(ae tc 0)) aX).trans a7;have du:tc<d.heap.size:=bR aX B.size;obtain⟨q,ch,N,bW,bY,-,-,dl,v,-⟩:=r.o.holds (by have:=l.o;omega);obtain⟨ap,aq⟩:=v _ ad;obtain⟨y1,-⟩:=v _ bz;rw[bL.o]at y1;simp only[og]at y1;have Q:=r.o.blk;rw[N]at Q;have bk:d.cell? (ae tb 4)=some (au q (aW R.length).length ch):=aG Q;have dW:=r.o.FD;have dS:=bb.o _ i bz bL.o;have T:Hid (∀a8,a8=d.drew.setCell (ae q (t.root s)) (.int .i64 (i:Nat))->dm a8 lo hi tb fb R (gy u (t.root s) (some i)) (cnt-1) V/\ax (fun k=>lo<=k/\k<hi) w a8/\a8.cell? (ae tc 0)=some (aj tb)):=fun a8 df=>by
      subst df;have C:Below d.heap.size d d.drew:=(aJ _ _).drew;have ds:=r.o.below C r.o.fo.2.2.2.2;refine⟨ds.nM N ad (some i),(aw.o.below C).set (a:=(ae q (t.root s))) _ (.inl ⟨bW,bY⟩),?_⟩;have dq:ax (fun k=>k=q) d.drew (d.drew.setCell (ae q (t.root s)) (.int .i64 (i:Nat))):=(ax.refl (fun k=>k=q) _).set (a:=(ae q (t.root s))) _ (.inl rfl);exact((bZ dq (show tc<d.drew.heap.size from du) (by have:=cr.o;omega)).1 0).trans t7
     have cn:Hid (∀k j,k<(aW R.length).length->gy u (t.root s) (some i) k=some j->j<R.length):=fun k j ac aR=>by
      by_cases e:k=t.root s
      .subst e;rw[fU]at aR;injection aR with aR;omega
      .rw[iq e]at aR;exact bb.o k j ac aR
     have cp:Hid (pullH (CV R) t2 cg (gy u (t.root s) (some i))=CW R x h):=by
      show _=_;rw[<-bh.o];exact bO.o
     clear B Q v N r aw S a7 aX bh bL bb bO;obtain⟨kr,b2⟩:∃kr,kr=t.root s:=⟨_,rfl⟩;obtain⟨cO,b1⟩:∃cO,cO=t2.root cg:=⟨_,rfl⟩;obtain⟨M,cA⟩:∃M,M=(aW R.length).length:=⟨_,rfl⟩;rw[<-b2]at ap aq ad T cp cn |-;rw[<-b1]at y1 bz |-;rw[<-cA]at bk ad bz;have cZ:=ag b1;have dI:=ag b2;clear b2 b1 cA;have bo:=ah t7;have bp:=ah bk;have br:=ah y1
     go_upto_region 16 with fail
     refine ak (fun W=>∃p:aQ d,W=p.W) [12,13] [(0,true),(1,false),(2,false),(3,true),(4,false),(5,true),(6,false),(7,false),(8,true),(9,false),(10,false),(11,true)] ⟨⟨_,(aJ _ _).drew⟩,rfl⟩ 2 ?_;refine aH [12,13] ?_;have ap:d.drew.cell? (ae q kr)=some (af (og (u kr))):=ap;have aq:d.drew.frozen? (ae q kr)=false:=aq;clear bo bp br y1 t7 bk;generalize d.drew=dZ at*;go_wp2
     go_roundg (t2.size)
     case measure=>have:=c8.o;omega
     case rel=>
      obtain⟨f1,f2,f3⟩:=T.o _ rfl;exact⟨t2,cg,_,by rw[cZ.o],aB _,cU,f1,cp,cn,f2,f3⟩
theorem Ms {P:Program} {ops:Array Oper} {rest:List Oper} {op:Oper} {a:Act} {Q:Exit->Act->World->Prop} {α:Type} {enc:α->Value} {t e:TypeId} {bytes:Nat} (g:eD P t e 1 bytes) {W:World} {ad:Option Addr} {l:List α} {c n:Nat} (p:Rd enc W ad l) (r:l.length=n) (k:n<=c) (lo hi:Nat) (i:lo<=hi) (j:hi<=n)
  (m:op.guard=none) (x:Operand) (d b:Option Operand) (s:op.op=.slice t x d b none) (u:a.eval x=.slice ad n c)
  (q:(d.map a.eval).getD (.int .i64 0)=.int .i64 lo) (o:(b.map a.eval).getD (.int .i64 n)=.int .i64 hi)
  (h:∀f,bQ (fun x=>[enc x]) 1 W f ((l.take hi).drop lo)->wpList P ops Q rest (a.put op.dst (.slice f (hi-lo) (c-lo))) W):wpList P ops Q (op::rest) a W:=by
 subst r;exact Lu g p.Vm k lo hi i j m x d b s u q o h
theorem Rd.Wd {α:Type} {enc:α->Value} {w:World} {a:Option Addr} {l:List α} (h:bQ (fun x=>[enc x]) 1 w a l):Rd enc w a l:=by
 rcases h with h|⟨b,off,rfl,c,d⟩
 .exact .inl h
 .exact .inr ⟨b,off,rfl,c,fun i hi=>by simpa using d i hi 0 aa⟩
def Ua (a:Option Addr) (v:Value):Prop:=∀ad,a=some ad->v.ownBlock≠some ad.block
def BX (W:World) (lo hi tb fb:Nat) (R:List Pt) (h':iH) (cnt:Int) (V:ni) (e:Ending) (w':World):Prop:=
 e=.returned (.tuple #[])/\dm w' lo hi tb fb R h' cnt V/\ax (fun k=>V.hv.ownBlock=some k) W w'
theorem qV (p:Nat->Bool) (L:List Nat) {i:Nat} (h:i<L.length):(L.take (i+1)).filter p=(L.take i).filter p++(if p L[i]then[L[i]]else[]):=by
 rw[gW h,kX];congr 1;rw[lY];split<;>rfl
theorem BZ {lo hi tb fb:Nat} {R:List Pt} {cnt:Int} {V:ni} (dz:R.length<=20000) (t:FT) (s:Nat) (bn:FT.At (aW R.length) t s) (bE:t.wf) (dG:t.hi<=R.length) (L:List Nat) (W:World) (h:iH) (x:Option Addr) (P:Nat)
  (H:dm W lo hi tb fb R h cnt V) (hp:Rd fA W x L) (cq:L.length<=20000) (bs:L.length<=P) (cw:Ua x V.hv) (ce:∀i∈L,i<=1000000)
  (bC:∀l r,t=.node l r->(∀(L:List Nat) (W:World) (h:iH) (x:Option Addr) (P:Nat),dm W lo hi tb fb R h cnt V->Rd fA W x L->L.length<=20000->L.length<=P->Ua x V.hv->(∀i∈L,i<=1000000)->
    aK 101 #[aj tb,af (l.root s:Nat),.slice x L.length P] W (BX W lo hi tb fb R (fillH l s L h) cnt V))/\
    ∀(L:List Nat) (W:World) (h:iH) (x:Option Addr) (P:Nat),dm W lo hi tb fb R h cnt V->Rd fA W x L->L.length<=20000->L.length<=P->Ua x V.hv->(∀i∈L,i<=1000000)->
    aK 101 #[aj tb,af (r.root (s+l.size):Nat),.slice x L.length P] W (BX W lo hi tb fb R (fillH r (s+l.size) L h) cnt V)):
  aK 101 #[aj tb,af (t.root s:Nat),.slice x L.length P] W (BX W lo hi tb fb R (fillH t s L h) cnt V):=by
 have a5:=bn.lt;have bk:0<R.length:=by have:=t.eT bE;omega
 cases L with
 |nil=>
  rw[yI];have cP:Hid (BX W lo hi tb fb R h cnt V (.returned (.tuple #[])) W):=⟨rfl,H,ax.refl _ _⟩;clear H hp bC;simp only[eZ];go_enter func101,ntmps101;go_wp2
  go_end0
  exact cP.o
 |cons i L=>
  obtain⟨a2,off,cn,env,aN⟩:=H.nodes bk;obtain⟨f,ch,Z,dC,dE,-,-,c5,aC,-⟩:=H.holds bk;obtain⟨a9,ba⟩:=aC _ a5;have bo:=H.blk;rw[env,Z]at bo;have bi:W.cell? (ae tb 4)=some (au f (aW R.length).length ch):=aG bo;obtain⟨b,o,av,cf,bz⟩:=hp.get aA;have aO:=bz 0 aA;simp only[rq,fA,dx]at aO;have db:b≠f:=fun e=>by
   have:=cw _ av;rw[Z]at this;exact this (by rw[e];rfl)
  obtain⟨w1,aw⟩:∃w1,w1=W.drew.setCell (ae f (t.root s)) (.int .i64 (i:Nat)):=⟨_,rfl⟩;have a4:ax (fun k=>k=f) W w1:=by rw[aw];exact((ax.refl (fun k=>k=f) W).drew).set (a:=(ae f (t.root s))) _ (.inl rfl)
  have an:Hid (dm w1 lo hi tb fb R (gy h (t.root s) (some i)) cnt V):=by
   rw[aw];exact(H.below (aJ W.heap.size W).drew H.fo.2.2.2.2).nM Z a5 (some i)
  have bT:Hid (ax (fun k=>V.hv.ownBlock=some k) W w1):=a4.mono fun k e=>by subst e;rw[Z];rfl
  have cx:Rd fA w1 (some (ae b o)) (i::L):=.inr ⟨b,o,rfl,bR cf a4.size,fun j cm=>((bZ a4 cf db).1 _).trans (bz j cm)⟩;have cN:=ag cx;have bc:=ag ce;have bh:=ag bC;have aP:=ag bn;have be:=ag Z;have cQ:=ag bE;have c4:(aW R.length).length<=40000:=by rw[df];omega
  simp only[dY]at cq bs |-;have d0:(((L.length+1:Nat):Int)==0)=false:=by first|(simp;done)|(simp;omega)
  subst av;clear aC bo env Z H hp bz cw ce bC a4 cx bn aN bE;obtain⟨n,bw⟩:∃n,n=L.length:=⟨_,rfl⟩;have ao:=ag bw;rw[<-bw]at cq bs d0 |-;obtain⟨K,bl⟩:∃K,K=t.root s:=⟨_,rfl⟩;have cG:=ag bl;obtain⟨M,bm⟩:∃M,M=(aW R.length).length:=⟨_,rfl⟩;have bV:=ag bm;rw[<-bl]at a9 ba a5 aw |-;rw[<-bm]at bi a5 c4;clear bw bl bm;have c1:=ah bi;have c2:=ah aO;go_enter func101,ntmps101
  go_upto_region 1 with fail
  refine ak (fun W'=>∃p:aQ W,W'=p.W) [8,9] [(0,false),(1,false),(2,false),(3,true),(4,false),(5,false),(6,false),(7,true)] ⟨⟨_,(aJ _ _).drew⟩,rfl⟩ 2 ?_;refine aH [8,9] ?_;have a9:W.drew.cell? (ae f K)=some (af (og (h K))):=a9;have ba:W.drew.frozen? (ae f K)=false:=ba;clear c1 c2 bi aO
  go_upto_region 2 with fail
  rw[show(W.setCell (ae f K) (.int .i64 (i:Nat))).drew=w1 by rw[aw];rfl];clear aw a9 ba;obtain⟨a2,off,cn,env,aN⟩:=an.o.nodes bk;have bp:=an.o.blk;rw[env]at bp;have b4:w1.cell? (ae tb 3)=some (.slice (some (ae a2 off)) M cn):=by simp[World.cell?,bp];exact bV.o.symm
  obtain⟨c6,n0,bG,bH,bI,bJ,cE,bK⟩:=mR aN aP.o.get;rw[<-cG.o]at n0 bG bH bI bJ cE bK;have dd:=an.o.FD;have b0:=ag aN;obtain⟨d,hd⟩:∃d,d=t.top s:=⟨_,rfl⟩;rw[<-hd]at n0 bG bH bI bJ bK;have aR:=ag hd;clear hd;obtain⟨w2,a1⟩:∃w2,w2=w1.alloc (.cells #[.int .u8 d.kind,af d.l,af d.r,af d.fr,af d.Kc,af 0,af d.item] 163):=⟨_,rfl⟩;have ab:Below w1.heap.size w1 w2:=by rw[a1];exact(aJ _ _).alloc (aB _) _
  have aL:w2.heap[w1.heap.size]? =some (.cells #[.int .u8 d.kind,af d.l,af d.r,af d.fr,af d.Kc,af 0,af d.item] 163 (0,0)):=by rw[a1];exact cB w1 _
  have aO:w2.cell? (ae w1.heap.size 0)=some (.int .u8 d.kind):=aG aL;have x1:w2.cell? (ae w1.heap.size 1)=some (af d.l):=aG aL;have x2:w2.cell? (ae w1.heap.size 2)=some (af d.r):=aG aL;have aM:=(ab.cell (p:=(ae tb 3)) dd).trans b4;have am:w1.heap.size<w2.heap.size:=(aZ.1 aL).1;have bQ:=ag ab;have aU:Hid (dm w2 lo hi tb fb R (gy h (t.root s) (some i)) cnt V):=an.o.below ab an.o.fo.2.2.2.2;have bU:Hid (ax (fun k=>V.hv.ownBlock=some k) W w2):=bT.o.below ab;have cO:Hid (Rd fA w2 (some (ae b o)) (i::L)):=cN.o.below ab;clear env aN bp ab aL
  go_upto_region 3 with fail
  rw[<-a1];clear a1 n0 bG bH bI bJ cE bK b4;cases t with
  |leaf a=>
   have d1:(d.kind !=(2:Int))=true:=by rw[aR.o];rfl
   have bd:Hid (BX W lo hi tb fb R (fillH (.leaf a) s (i::L) h) cnt V (.returned (.tuple #[])) w2):=⟨rfl,aU.o,bU.o⟩;clear x1 x2 bh;go_wp2
   go_end0
   exact bd.o
  |node l r=>
   have d1:(d.kind !=(2:Int))=false:=by rw[aR.o];rfl
   have cr:=aP.o.left.lt;have cC:=aP.o.right.lt;have cj:d.l=((l.root s:Nat):Int):=by rw[aR.o];show((s+l.size:Nat):Int)-1=_;unfold FT.root;have:=l.size_pos;omega
   have ck:d.r=((r.root (s+l.size):Nat):Int):=by rw[aR.o];show((s+l.size+r.size:Nat):Int)-1=_;unfold FT.root;have:=r.size_pos;omega
   rw[cj]at x1;rw[ck]at x2;obtain⟨b1,b2⟩:=bh.o l r rfl;have bf:=ag b1;have bg:=ag b2;obtain⟨m0,m1,m2,m3,m4,N,dh,di⟩:=mR (b0.o.below bQ.o) aP.o.left.get;rw[FT.vC]at N;have bv:=cQ.o;have da:l.hi<=20000:=by
    have:=FT.eT r bv.2.1;have az:(FT.node l r).hi=r.hi:=rfl;have:=bv.2.2;omega
   have cJ:Hid (∃c,c=l.hi):=⟨_,rfl⟩;rw[<-bV.o]at cr cC;clear cj ck b1 b2 bh m1 m2 m3 m4 dh di bv b0;have bY:Hid (fillH (.node l r) s (i::L) h=fillH r (s+l.size) (L.filter fun j=>!decide (j<l.hi)) (fillH l s (L.filter fun j=>decide (j<l.hi)) (gy h ((FT.node l r).root s) (some i)))):=rfl;obtain⟨c,cs⟩:∃c,c=l.hi:=⟨_,rfl⟩;obtain⟨kl,co⟩:∃kl,kl=l.root s:=⟨_,rfl⟩;obtain⟨kr,cp⟩:∃kr,kr=r.root (s+l.size):=⟨_,rfl⟩;rw[<-cs]at N da bY;rw[<-co]at N x1 bf cr;rw[<-cp]at x2 bg cC;clear cs co cp cJ
   go_upto_region 5 with fail
   have ct:(i::L).length=n+1:=by simp[ao.o]
   have bX:=ag ct;clear ct
   go_wp2_with (refine Ms nA cO.o bX.o bs 1 (n+1) aa (aB _) rfl _ _ _ rfl rfl rfl rfl ?_;intro cR cy;simp only[Nat.add_sub_cancel])
   have b6:Rd fA w2 cR L:=by
    have y:=Rd.Wd cy;rw[<-bX.o,jk]at y;exact y
   have cK:=ag b6;clear cy b6;obtain⟨O,cv⟩:∃O,O=w1.heap.size:=⟨_,rfl⟩;have cl:f<w1.heap.size:=bR c5 bT.o.size;rw[<-cv]at aO x1 x2 am cl |-;clear cv;have de:tb<w2.heap.size:=aU.o.FD;have c7:a2<w2.heap.size:=bR c6 bQ.o.size;have c8:hi<=w2.heap.size:=aU.o.fo.2.2.2.2
   go_loopg [7,8,36] n (fun dg dk dl dj wr=>∃(j:Nat) (a6 a7:Value),dj=.int .i64 j/\dk=a6/\dl=a7/\j<=n/\n-j<=dg/\Hid (Below w2.heap.size w2 wr)/\
    Hid (wr.ownsRow w2.heap.size 3 1 a6 ((L.take j).filter fun k=>decide (k<c)).length (((L.take j).filter fun k=>decide (k<c)).map fA))/\
    Hid (wr.ownsRow w2.heap.size 3 1 a7 ((L.take j).filter fun k=>!decide (k<c)).length (((L.take j).filter fun k=>!decide (k<c)).map fA))/\Hid (∀g,a6.ownBlock=some g->a7.ownBlock≠some g))
   case atStart=>exact⟨0,_,_,rfl,rfl,rfl,aX _,aa,aJ _ _,dw _ _ _ _,dw _ _ _ _,fun g h=>by cases h⟩
   case round=>
    obtain⟨j,a6,a7,rfl,rfl,rfl,cm,dI,u,J,D,I⟩:=hrel;obtain⟨aY,a0,rfl⟩:=fF J.o;obtain⟨ar,cb,rfl⟩:=fF D.o;by_cases dJ:j<n
    .have aF:j<L.length:=by have:=ao.o;omega
     obtain⟨dr,dK,av,dA,aC⟩:=(cK.o.below u.o).get aa;have a8:=aC j aF;simp only[fA]at a8;have ap:=ag (qV (fun k=>decide (k<c)) L aF);have aq:=ag (qV (fun k=>!decide (k<c)) L aF);have c9:=bc.o L[j] (kz _ (bB aF));obtain⟨k,ac⟩:∃k,k=L[j]:=⟨_,rfl⟩;rw[<-ac]at a8 ap aq c9;have bt:((L.take j).filter fun k=>decide (k<c)).length<=n:=bD (gT _ _) (by rw[eQ];omega);have bu:((L.take j).filter fun k=>!decide (k<c)).length<=n:=bD (gT _ _) (by rw[eQ];omega);generalize(L.take j).filter (fun k=>decide (k<c))=A at*;generalize(L.take j).filter (fun k=>!decide (k<c))=B at*;have aM:=(u.o.cell (p:=(ae tb 3)) de).trans aM;have x1:=(u.o.cell (p:=(ae O 1)) am).trans x1;have N:=(u.o.cell (p:=(ae a2 (off+kl*7+4))) c7).trans N;have bP:=ag av;clear aC ac av;obtain⟨z,ai⟩:∃z,z=A.length:=⟨_,rfl⟩;obtain⟨C,al⟩:∃C,C=B.length:=⟨_,rfl⟩;rw[<-ai]at bt J I |-;rw[<-al]at bu D I |-;have aV:Hid (z=A.length/\C=B.length):=⟨ai,al⟩;clear ai al;have F:∀q,Below w2.heap.size w2 (wr.drewN q)/\(wr.drewN q).ownsRow w2.heap.size 3 1 (.slice aY z a0) z (A.map fA)/\(wr.drewN q).ownsRow w2.heap.size 3 1 (.slice ar C cb) C (B.map fA)/\w2.heap.size<=(wr.drewN q).heap.size:=fun q=>
      ⟨u.o.trans ((Below.bq _ q).mono u.o.size),J.o.bq q,D.o.bq q,u.o.size⟩
     have aS:=ag F;clear F;obtain rfl:=bP.o;clear bP J D aF;by_cases dH:k<c
     .have cS:decide ((k:Int)<(c:Int))=true:=aD;have bj:decide (k<c)=true:=aD;rw[bj]at ap aq
      go_upto_region 8 with fail
      go_quiet (fail)
      obtain⟨f1,f2,f3,f4⟩:=aS.o nq;have Q:=ag f1;have S:=ag f2;have T:=ag f3;obtain⟨G,ay⟩:∃G,G=wr.drewN nq:=⟨_,rfl⟩;rw[<-ay]at Q S T f4 |-;clear ay f1 f2 f3 aS aM x1 N a8
      go_wp2_with (at_builtin;refine bW nA w2.heap.size S.o [.int .i64 k] rfl (by simp[Value.oneCell']) rfl _ _ rfl rfl _ rfl dD aa f4 ?_;intro bN w6 bx aE br)
      go_roundg (n-(j+1))
      case measure=>omega
      case rel=>
       have cD:∀g,(Value.slice ar C cb).ownBlock=some g->(Value.slice aY z a0).ownBlock≠some g:=fun g E w=>I.o g w E;have K:ax (fun q=>(Value.slice aY z a0).ownBlock=some q) G w6:=(ax.refl _ G).grown aE (fun q bA=>.inl bA);refine⟨j+1,bN,_,by go_num,rfl,rfl,aa,aB _,dB Q.o S.o aE Q.o.size (aB _),?_,?_,?_⟩
       .show World.ownsRow _ _ _ _ _ _ _;rw[ap.o];simp only[gK];rw[bL,bS,<-aV.o.1];exact bx
       .show World.ownsRow _ _ _ _ _ _ _;rw[aq.o];simp only[AU,qM,jN,iJ];rw[<-aV.o.2];exact aT T.o K (fun g E w=>cD g E w)
       .intro g e y;rcases fQ br with Y|⟨q,Y,c3⟩
        .exact cD g y (Y▸e)
        .rw[Y]at e;injection e with e;have:=(T.o.lt g y).2;omega
     .have cS:decide ((k:Int)<(c:Int))=false:=aD;have bj:decide (k<c)=false:=aD;rw[bj]at ap aq
      go_upto_region 8 with fail
      go_quiet (fail)
      obtain⟨f1,f2,f3,f4⟩:=aS.o nq;have Q:=ag f1;have S:=ag f2;have T:=ag f3;obtain⟨G,ay⟩:∃G,G=wr.drewN nq:=⟨_,rfl⟩;rw[<-ay]at Q S T f4 |-;clear ay f1 f2 f3 aS aM x1 N a8
      go_wp2_with (at_builtin;refine bW nA w2.heap.size T.o [.int .i64 k] rfl (by simp[Value.oneCell']) rfl _ _ rfl rfl _ rfl dD aa f4 ?_;intro bN w6 bx aE br)
      go_roundg (n-(j+1))
      case measure=>omega
      case rel=>
       have K:ax (fun q=>(Value.slice ar C cb).ownBlock=some q) G w6:=(ax.refl _ G).grown aE (fun q bA=>.inl bA);refine⟨j+1,_,bN,by go_num,rfl,rfl,aa,aB _,dB Q.o T.o aE Q.o.size (aB _),?_,?_,?_⟩
       .show World.ownsRow _ _ _ _ _ _ _;rw[ap.o];simp only[qM,jN,iJ];rw[<-aV.o.1];exact aT S.o K (fun g E w=>I.o g E w)
       .show World.ownsRow _ _ _ _ _ _ _;rw[aq.o];simp only[Bool.not_false,gK];rw[bL,bS,<-aV.o.2];exact bx
       .intro g e y;rcases fQ br with Y|⟨q,Y,c3⟩
        .exact I.o g e (Y▸y)
        .rw[Y]at y;injection y with y;have:=(S.o.lt g e).2;omega
    .obtain rfl:j=n:=aa;have ca:L.take j=L:=by rw[ao.o,jk]
     rw[ca]at J D I |-;have cL:Hid (dm wr lo hi tb fb R (gy h ((FT.node l r).root s) (some i)) cnt V):=aU.o.below u.o c8;have cH:Hid (ax (fun k=>V.hv.ownBlock=some k) W wr):=bU.o.below u.o;have cc:∀k∈L.filter (fun k=>decide (k<c)),k<=1000000:=fun k ac=>bc.o k (kz _ (bF.1 ac).1);have cd:∀k∈L.filter (fun k=>!decide (k<c)),k<=1000000:=fun k ac=>bc.o k (kz _ (bF.1 ac).1);have bt:(L.filter fun k=>decide (k<c)).length<=j:=bD (gT _ _) (by rw[ao.o];exact aB _);have bu:(L.filter fun k=>!decide (k<c)).length<=j:=bD (gT _ _) (by rw[ao.o];exact aB _);generalize L.filter (fun k=>decide (k<c))=A at*;generalize L.filter (fun k=>!decide (k<c))=B at*;have x1:=(u.o.cell (p:=(ae O 1)) am).trans x1;have x2:=(u.o.cell (p:=(ae O 2)) am).trans x2;have dc:O<wr.heap.size:=bR am u.o.size;obtain⟨dp,ds,cT,-,cg,cz⟩:=Rd.aI (enc:=fA) J.o;injection cT with cU cV cW;subst cU cW;have dF:f<w2.heap.size:=uZ cl am;have bM:∀{v:Value} {m:Nat} {X:List Value} {a:Option Addr} {n' b3:Nat} {w':World},w'.ownsRow w2.heap.size 3 1 v m X->v=.slice a n' b3->Ua a V.hv:=fun{v m X a n' b3 w'} E w ad e az=>by
      subst w e;rcases E.2 with⟨U,-⟩|⟨g,du,dv,U,dy,-⟩
      .cases U
      .injection U with U;injection U with U;subst U;rw[be.o]at az;injection az with az;simp only at az;omega
     have bb:=ag (bf.o A wr _ aY a0 cL.o cz aa cg (bM J.o rfl) cc);have cF:=ag cd;have cM:Hid (Ua ar V.hv):=bM D.o rfl;clear ca cz J bM cc cd bf N aM cV;obtain⟨z,ai⟩:∃z,z=A.length:=⟨_,rfl⟩;rw[<-ai]at bb cg bt I |-;clear ai
     go_wp2_with fail
     refine bb.o.mono ?_;rintro e w6 ⟨rfl,b7,a3⟩;have cu:¬V.hv.ownBlock=some O:=fun e=>by
      rw[be.o]at e;have e:f=O:=AL e;omega
     have x2:=((bZ a3 dc cu).1 2).trans x2;have b9:=aT D.o a3 (fun g E w=>by
      rw[be.o]at w;have w:f=g:=AL w;have:=(D.o.lt g E).1;omega)
     obtain⟨dq,dt,cX,-,ci,cA⟩:=Rd.aI (enc:=fA) b9;injection cX with cY cZ c0;subst cY c0;have bO:=ag (bg.o B w6 _ ar cb b7 cA aa ci cM.o cF.o);have cI:Hid (ax (fun k=>V.hv.ownBlock=some k) W w6):=cH.o.trans a3;clear b9 cA b7 a3 cu bb bg D cZ;obtain⟨C,al⟩:∃C,C=B.length:=⟨_,rfl⟩;rw[<-al]at bO ci bu I |-;clear al
     go_wp2_with fail
     refine bO.o.mono ?_;rintro e dn ⟨rfl,b8,b5⟩;have bd:Hid (BX W lo hi tb fb R (fillH (.node l r) s (i::L) h) cnt V (.returned (.tuple #[])) dn):=by
      rw[bY.o];exact⟨rfl,b8,cI.o.trans b5⟩
     clear b8 b5;go_wp2
     go_end0
     exact bd.o
theorem Mt {lo hi tb fb:Nat} {R:List Pt} {cnt:Int} {V:ni} (o:R.length<=20000):∀(t:FT) (s:Nat),FT.At (aW R.length) t s->t.wf->t.hi<=R.length->∀(L:List Nat) (W:World) (h:iH) (b:Option Addr) (c:Nat),
  dm W lo hi tb fb R h cnt V->Rd fA W b L->L.length<=20000->L.length<=c->Ua b V.hv->(∀i∈L,i<=1000000)->
  aK 101 #[aj tb,af (t.root s:Nat),.slice b L.length c] W (BX W lo hi tb fb R (fillH t s L h) cnt V):=by
 intro t
 induction t with
 |leaf a=>exact fun s m k n L W h b c H hp d f g j=>BZ o _ s m k n L W h b c H hp d f g j (fun l r e=>by cases e)
 |node l r p q=>
  intro s m k n L W h b c H hp d f g j;refine BZ o _ s m k n L W h b c H hp d f g j fun l' x e=>?_;cases e;have u:=FT.eT r k.2.1;have v:=k.2.2;have w:(FT.node l r).hi=r.hi:=rfl;exact⟨fun L W h b c H hp d f g j=>p s m.left k.1 aa L W h b c H hp d f g j,fun L W h b c H hp d f g j=>q _ m.right k.2.1 aa L W h b c H hp d f g j⟩
theorem GQ:∃i,Tryz.prog.info? 3=some i/\i.zero=some (.int .i64 0)/\i.size=1/\i.bytes=8:=by
 have h:(Tryz.prog.info? 3).map (fun i=>(i.zero,i.size,i.bytes))=some (some (.int .i64 0),1,8):=aO;cases hi:Tryz.prog.info? 3 with
 |none=>rw[hi]at h;cases h
 |some i=>rw[hi]at h;injection h with h;injection h with b a;injection a with a c;exact⟨i,rfl,b,a,c⟩
theorem GR:(Tryz.prog.info? 3).map (·.size)=some 1:=by
 have⟨i,a,c,b,d⟩:=GQ;rw[a];simp[b]
theorem KO (n:Nat) (d:n<=1000000) (W:World):(Instr.makeSlice 148 (.int .i64 n) (.int .i64 n)).run prog W=.ok (au W.heap.size n n) (W.alloc (.cells (madeCells #[af 0] n) 3)):=by
 have⟨i,hi,c,b,a⟩:=GQ;have h:=run_make (P:=prog) W 148 3 i (.int .i64 0) underlying148 hi c .i64 .i64 n n aa (vo _) (by rw[a];omega) aa;rw[h,ib,b,iM];rfl
theorem Ca (W:World) (n:Nat):(W.alloc (.cells (madeCells #[af 0] n) 3)).heap[W.heap.size]? =some (.cells (List.replicate n (af 0)).toArray 3 (0,0)):=by
 rw[cB];congr 2;apply Array.ext';rw[toList_madeCells_one]
theorem DJ {w:World} {base g n:Nat} {xs:List Value} (c:w.heap[g]? =some (.cells xs.toArray 3 (0,0))) (b:base<=g) (a:xs.length=n) (d:n<=maxLen):w.ownsRow base 3 1 (au g n n) n xs:=
 ⟨aP a,.inr ⟨g,n,xs.toArray,rfl,b,c,aB _,d,aP a,by rw[iM];exact ky aD⟩⟩
theorem uz {P:Program} {ops:Array Oper} {o:Oper} {a:Act} {C:World->Prop} {b:Bool} {K:Act->Prop} {E0:Prop} {sz:Nat} {t e:TypeId} {bytes:Nat} (r:eD P t e sz bytes) (ad:Option Addr) (n c lo hi:Nat) (p:lo<=hi) (q:hi<=c)
  (s:o.guard=none) (x:Operand) (m f:Option Operand) (j:o.op=.slice t x m f none) (l:a.eval x=.slice ad n c) (g:(m.map a.eval).getD (.int .i64 0)=.int .i64 lo) (d:(f.map a.eval).getD (.int .i64 n)=.int .i64 hi)
  (h:K (a.put o.dst (.slice (if c=lo then ad else ad.map (·.add (lo*sz))) (hi-lo) (c-lo)))):
  if Region.wanted o (yielded ops a.tmps)=true then Oper.eF P o a C b K else E0:=by
 have y:Region.wanted o (yielded ops a.tmps)=true:=by simp[Region.wanted,s]
 rw[aN y];obtain⟨ht,⟨i,z,u,D,v,A,E⟩,B⟩:=r;have hu:∀W',(underlying t).run P W'=.ok (.slice e) W':=fun W'=>pF ht W';have k:∀W',(sizeOf e).run P W'=.ok sz W':=fun W'=>by simp[sizeOf,typeInfo,u,v]
 refine⟨_,fun w _=>?_,h⟩;unfold execOp;rcases m with _|lw
 .simp only[lJ,mM,pE,nV]at g;obtain rfl:lo=0:=aa;rcases f with _|hg
  .simp only[lJ,mM,pE,nV]at d;obtain rfl:hi=n:=aa;simp[j,l,Instr.sliceAt,Instr.slice,Instr.sliceBounds,hu,k]
  .simp only[fP,gG]at d;simp[j,l,d,Instr.sliceAt,Instr.slice,Instr.sliceBounds,Instr.sliceBound,hu,k,asIntOf,q]
 .simp only[fP,gG]at g;rcases f with _|hg
  .simp only[lJ,mM,pE,nV]at d;obtain rfl:hi=n:=aa;simp[j,l,g,Instr.sliceAt,Instr.slice,Instr.sliceBounds,Instr.sliceBound,hu,k,asIntOf,p]
  .simp only[fP,gG]at d;simp[j,l,g,d,Instr.sliceAt,Instr.slice,Instr.sliceBounds,Instr.sliceBound,hu,k,asIntOf,p,q]
def sM (M k:Nat):List Value:=List.replicate k (.int .i64 (-1))++List.replicate (M-k) (.int .i64 0)
theorem GU {M k:Nat} (h:k<=M):(sM M k).length=M:=by simp[sM];omega
theorem Mv (M:Nat):sM M 0=List.replicate M (.int .i64 0):=by simp[sM]
theorem Mw (M:Nat):sM M M=List.replicate M (.int .i64 (-1)):=by simp[sM]
theorem zw {M k m:Nat} (h:k+m<=M):splice (sM M k) k (List.replicate m (.int .i64 (-1)))=sM M (k+m):=by
 unfold splice sM;rw[DZ aA,ky aA,iw,List.drop_append];rw[ou aA,fO,List.drop_replicate,iw,<-dX,List.replicate_append_replicate];congr 2;omega
theorem O5 {M k j:Nat} (h:j<k):(sM M k)[j]? =some (.int .i64 (-1)):=by
 unfold sM;rw[lS (aP h),rf,aN h]
theorem O6 (w:World) (b M:Nat) (r:w.heap[b]? =some (.cells #[af (-1)] 3 (0,0))) (ac:M<=1000000):
  aK 100 #[au b 1 1,af M] w fun e w'=>∃v,e=.returned v/\w'.ownsRow w.heap.size 3 1 v M (List.replicate M (.int .i64 (-1)))/\Below w.heap.size w w':=by
 have am:=KO M ac;have n:=ag (fun W=>Tryz.bits_Mul 1 M aa aa W);have p:1*M/18446744073709551616=0:=aa;have q:1*M%18446744073709551616=M:=aa;rw[p,q]at n;have z:=ag (Ca w M);have ai:b<w.heap.size:=(aZ.1 r).1;have L:(w.alloc (.cells (madeCells #[af 0] M) 3)).cell? (ae b 0)=some (af (-1)):=by
  have d:=(bY w (.cells (madeCells #[af 0] M) 3) _ ai).trans r;simp[World.cell?,d]
 have A:=ag L;have d0:decide ((M:Int)<0)=false:=aA;have d3:decide ((M:Int)>9223372036854775807)=false:=aD;have d4:decide ((9223372036854775807:Int)<(M:Int))=false:=aD;have d5:decide (9223372036854775807<M)=false:=aD;clear p q r L;go_enter func100,ntmps100
 go_wp2_with fail
 refine(n.o w).mono ?_;rintro e w' ⟨rfl,ab⟩;subst ab
 go_upto_region 7 with fail
 obtain⟨w1,c⟩:∃w1,w1=w'.alloc (.cells (madeCells #[af 0] M) 3):=⟨_,rfl⟩;obtain⟨g,f⟩:∃g,g=w'.heap.size:=⟨_,rfl⟩;have G:Below w'.heap.size w' w1:=by rw[c];exact(aJ _ _).alloc (aB _) _
 have t:w'.heap.size<=g:=AY f.symm;have Q:w1.heap[g]? =some (.cells (sM M 0).toArray 3 (0,0)):=by rw[c,f,Mv];exact z.o
 have B:Hid (w1.cell? (ae b 0)=some (af (-1))):=by rw[c];exact A.o
 have az:b≠g:=aa;rw[<-c,<-f];have F:=ag Q;have y:=ag G;clear c am z A n Q G f d0 d3 d4 d5;obtain⟨m,i⟩:∃m,m=Nat.min 1 M:=⟨_,rfl⟩;have D:=ag i;have al:m<=M:=by rw[i];exact Nat.min_le_right _ _
 have P:0<M->0<m:=fun h=>by rw[i];exact Nat.lt_min.2 ⟨aa,h⟩
 have X:=ag P;clear i P;have ht:∀j v,(List.replicate m (af (-1)))[j]? =some v->w1.cell? (((ae b 0):Addr).add j)=some v:=fun j v h=>by
  rw[rf]at h;split at h
  .rename_i aj;injection h with h;have:j=0:=by have ap:=D.o;have d:Nat.min 1 M<=1:=Nat.min_le_left _ _;omega
   subst this;rw[<-h];simpa[Addr.add]using B.o
  .cases h
 have E:=ag ht;clear ht
 go_wp2_with (refine wpList_copy_splice rfl _ _ _ _ rfl 3 underlying148 GR _ _ _ _ _ _ rfl rfl g 0 (sM M 0) 3 F.o (List.replicate m (.int .i64 (-1))) (by rw[iw];exact D.o) (fun _=>⟨rfl,_,rfl,E.o⟩) (by rw[iw,GU aa];omega) (fun v u=>by rw[List.eq_of_mem_replicate u];rfl) w'.heap.size w' y.o t ?_;intro w2 N H;simp only[iw,goInt];rw[zw (M:=M) (k:=0) (m:=m) aa,jL]at N;have R:=ag H;clear H)
 clear F y E B
 go_loopg [8] M (fun an ao wr=>∃k:Nat,ao=.int .i64 k/\k<=M/\M-k<=an/\Hid (0<M->0<k)/\Hid (wr.heap[g]? =some (.cells (sM M k).toArray 3 (0,0)))/\Hid (Below w'.heap.size w' wr))
 case atStart=>exact⟨m,rfl,al,aa,X,N,R⟩
 case round=>
  obtain⟨k,rfl,aq,ar,Y,C,x⟩:=hrel;by_cases av:k<M
  .have ak:=Y.o aa;obtain⟨m2,l⟩:∃m2,m2=Nat.min k (M-k):=⟨_,rfl⟩;have aw:k+m2<=M:=by have d:Nat.min k (M-k)<=M-k:=Nat.min_le_right _ _;omega
   have ax:0<m2:=by rw[l];exact Nat.lt_min.2 ⟨ak,aa⟩
   have ay:m2<=k:=by rw[l];exact Nat.min_le_left _ _
   have V:=ag l;have Z:Hid (∀W:World,W.heap[g]? =some (.cells (sM M k).toArray 3 (0,0))->∀j v,(List.replicate m2 (af (-1)))[j]? =some v->W.cell? (((ae g 0):Addr).add j)=some v):=fun W ad j v h=>by
    rw[rf]at h;split at h
    .rename_i aj;have d:=O5 (M:=M) (k:=k) (j:=j) aa;rw[<-h];have ah:((ae g 0):Addr).add j=(ae g j):=by unfold Addr.add;split<;>simp_all
     rw[ah];simp[World.cell?,ad,d]
    .cases h
   clear l;have p:decide ((k:Int)<(M:Int))=true:=aD;have q:decide (k<M)=true:=aD
   go_upto_region 9 with fail
   refine lN (fun _=>True) [7,8,9] [(0,false),(1,false),(2,false),(3,false),(4,false),(5,false),(6,false)] trivial 3 ?_;simp only[jQ,uH,uJ,uD,fD,fw,fP]
   iterate 3 (refine iY (fun K a=>?_);go_simp;first|(refine a _ ?_;clear a K)|(apply Exists.intro;refine⟨fun _=>?_,a _ ?_⟩;rfl;clear a K))
   refine iY (fun K a=>?_);refine uz nA (some (ae g 0)) M M k M aa (aB _) rfl _ _ _ rfl rfl rfl rfl (a _ ?_);clear a K;rw[aM aa]
   iterate 2 (refine iY (fun K a=>?_);go_simp;first|(refine a _ ?_;clear a K)|(apply Exists.intro;refine⟨fun _=>?_,a _ ?_⟩;rfl;clear a K))
   refine iY (fun K a=>?_);refine uz nA (some (ae g 0)) M M 0 k aa aa rfl _ _ _ rfl rfl rfl rfl (a _ ?_);clear a K;rw[aM aa];refine oL ?_;refine aF 7 rfl fun K a=>?_;have s:wr.drew.heap[g]? =some (.cells (sM M k).toArray 3 (0,0)):=C.o;have J:Below w'.heap.size w' wr.drew:=x.o.drew;refine step_copy_splice rfl _ _ _ _ rfl 3 underlying148 GR (some (ae g k)) (some (ae g 0)) (M-k) (M-k) k M (by simp[Act.eval,Act.put,Addr.add]) (by simp[Act.eval,Act.put,Addr.add]) g k (sM M k) 3 s (List.replicate m2 (.int .i64 (-1))) (by rw[iw];exact V.o) (fun _=>⟨rfl,_,rfl,Z.o _ s⟩) (by rw[iw,GU aa];omega) (fun v u=>by rw[List.eq_of_mem_replicate u];rfl) w'.heap.size w' J t ?_;intro w3 O I;simp only[iw,goInt];rw[zw (M:=M) (k:=k) (m:=m2) aa]at O;have U:=O;have S:=ag I;clear I s J;refine a _ _ (fun _ h=>absurd aA h) ?_;clear a K;refine aH [8,9] ?_;go_wp2
   go_roundg (M-(k+m2))
   case measure=>omega
   case rel=>exact⟨k+m2,by go_num,aa,aB _,fun _=>aa,U,S⟩
  .obtain rfl:k=M:=aa;have T:Hid (wr.ownsRow w'.heap.size 3 1 (au g k k) k (List.replicate k (.int .i64 (-1)))):=by
    have:=C.o;rw[Mw]at this;exact DJ this t aA dD
   go_wp2;go_ret;exact⟨_,rfl,T.o,x.o⟩
theorem JD:gF 99:=di func99 aO rfl
theorem Q9 {W:World} {tb tc:Nat} {t:Option Addr} {G n:Nat} {R:List Pt} (z:W.cell? (ae tc 0)=some (aj tb)) (w:W.cell? (ae tb 0)=some (.slice t n G)) (s:bQ bX 3 W t R) (y:R.length=n) (i j:Nat) (hi:i<n) (J:j<n) (L:n<=1000000):
  aK 99 #[af i,af j,aj tc] W fun e w'=>e=.returned (af (nW (bV R i) (bV R j)))/\xz W w':=by
 have b:i<R.length:=aa;have c:j<R.length:=aa;obtain⟨V,X,x,M,a⟩:=s.get aa;have d:=a i b 0 aa;have f:=a i b 1 aa;have g:=a i b 2 aa;have k:=a j c 0 aa;have v1:=a j c 1 aa;have l:=a j c 2 aa;simp only[bX,fw,fD,dx]at d f g k v1 l;rw[<-dG b]at d f g;rw[<-dG c]at k v1 l;subst x;clear a b c s y;generalize bV R i=p at*;generalize bV R j=q at*;have u:=ag (fun W=>SL p q W);generalize nW p q=U at*;obtain⟨B,C,A⟩:=p;obtain⟨E,F,D⟩:=q;simp only at d f g k v1 l;have H:=ah z;have I:=ah w;have N:=ah d;have O:=ah f;have P:=ah g;have Q:=ah k;have S:=ah v1;have T:=ah l;go_enter func99,ntmps99
 go_upto_region 1 with fail
 refine ak (fun W'=>∃p:aQ W,W'=p.W) [14,15] [(0,true),(1,false),(2,false),(3,true),(4,false),(5,false),(6,true),(7,true),(8,false),(9,false),(10,true),(11,false),(12,false),(13,true)] ⟨⟨_,(aJ _ _).drew⟩,rfl⟩ 2 ?_;refine aF 14 rfl fun K m=>?_;refine bf Bu rfl _ _ rfl (vals:=#[iT B C A,iT E F D]) rfl (u.o W.drew) ?_;rintro e w2 ⟨rfl,r⟩;refine⟨_,rfl,m _ _ (fun _ h=>absurd aA h) ?_⟩;clear m K;refine aH [15] ?_;have v:Hid (xz W w2):=((xz.refl W).drew).trans r;clear r;go_wp2;go_ret;exact⟨rfl,v.o⟩
theorem VD (R:List Pt) (n:Nat):SWO (ltOf fun i j:Fin n=>nW (bV R i) (bV R j)):=
 ⟨fun x=>QG.irrefl (bV R x),fun x y z=>QG.trans (bV R x) (bV R y) (bV R z),fun x y z=>QG.ntrans (bV R x) (bV R y) (bV R z)⟩
theorem Ra {w:World} {base g c n tb tc:Nat} {G:Option Addr} {aE:Nat} {R:List Pt} (hu:(ids R).Nodup) (aw:R.Pairwise kE) (ai:R.length=n) (T:0<n) (ak:n<=1000000) (am:w.ownsRow base 3 1 (au g n c) n ((List.range n).map fA))
  (Q:w.cell? (ae tc 0)=some (aj tb)) (H:w.cell? (ae tb 0)=some (.slice G n aE)) (D:bQ bX 3 w G R) (I:tc≠g) (J:tb≠g) (o:∀ad,G=some ad->ad.block≠g):
  aK 98 #[au g n c,.func (.func 99) #[] #[aj tc]] w fun e w'=>
   e=.returned (.tuple #[])/\w'.ownsRow base 3 1 (au g n c) n ((dP R).map fA)/\ax (fun k=>k=g) w w':=by
 haveI:Inhabited (Fin n):=⟨⟨0,T⟩⟩
 obtain⟨a,ab,z,aJ,ah,an,ht⟩:∃a:Array Value,base<=g/\w.heap[g]? =some (.cells a 3 (0,0))/\n<=c/\c<=maxLen/\a.size=c/\a.toList.take n=(List.range n).map fA:=by
  rcases am.2 with⟨e,-⟩|⟨aI,aF,a,e,E,F,az,aB,aQ,aC⟩
  .cases e
  .injection e with f aH S;injection f with f;injection f with f _ _;subst f S;exact⟨a,E,F,az,aB,aa,by rwa [iM]at aC⟩
 obtain⟨l,A⟩:∃l:List (Fin n),l=List.finRange n:=⟨_,rfl⟩;have r:l.length=n:=by rw[A];simp
 have P:l.map (fun i:Fin n=>(i:Nat))=List.range n:=by rw[A];exact rC aA (fun i I J=>aA)
 obtain⟨enc,s⟩:∃enc:Fin n->Value,enc=fun i=>fA i.val:=⟨_,rfl⟩;have af:l.map enc=(List.range n).map fA:=by rw[<-P,ve,s];rfl
 have U:Holds enc w g 0 l.toArray:=holds_of_block z (by rw[r,ht,af]);have ag:g<w.heap.size:=(aZ.1 z).1;have O:∀(m:Nat) (os:Array Obj) (dk:Array (Fin n)),ax (fun k=>k=g) w (sortWorld enc w g 0 m dk os):=fun m os dk=>by
  refine⟨rfl,rfl,rfl,?_,fun k aL B=>?_⟩
  .show w.heap.size<=((w.heap.modify g _)++os).size;simp
  .show((w.heap.modify g _)++os)[k]? =_;rw[xB aD,xG,aM (fun e=>B e.symm)]
 have ar:=gY w _ Q;have aq:=gY w _ H;have V:CmpLays1 prog 99 #[aj tc] enc (fun i j:Fin n=>nW (bV R i) (bV R j)) g 0 l.toArray.size w:=fun m os dk _ x y=>by
  have K:=O m os dk;rw[s]at K |-;refine(Q9 (((bZ K ar I).1 0).trans Q) (((bZ K aq J).1 0).trans H) ?_ ai x y x.2 y.2 ak).mono fun e w' ⟨v,q,ay,av⟩=>⟨v,q,ay,av⟩;rcases D with D|⟨b,off,rfl,M,W⟩
  .exact .inl D
  .exact .inr ⟨b,off,rfl,bR M K.size,fun i hi j t=>((bZ K M (o _ rfl)).1 _).trans (W i hi j t)⟩
 have u:=Any.slices_SortFunc Tryz.Gy enc (fun x=>by rw[s];rfl) (fun i j:Fin n=>nW (bV R i) (bV R j)) (VD R n) 99 #[aj tc] g 0 c l.toArray w JD V U ag (by simp[r];omega);change aK 98 _ _ _ at u;rw[show l.toArray.size=n by simpa using r]at u;refine u.mono ?_;rintro e w' ⟨v,d',m,os,hp,ao,rfl⟩;have C:=si (d:=l.toArray) (d':=d') (by rw[show l.toArray.size=n by simpa using r];exact hp);have N:d'.toList.length=n:=by rw[C.length_eq];simpa using r
 have L:=qo aw hu;have X:(d'.toList.map fun i:Fin n=>(i:Nat)).Pairwise (zI R):=by
  refine dA.2 ?_;have al:d'.toList.Nodup:=C.nodup_iff.2 (by rw[A];simpa using List.nodup_finRange n);have ap:d'.toList.Pairwise fun i j:Fin n=>¬nW (bV R j) (bV R i)<0:=by
   rw[gQ];intro i j hi t ac;have aO:d'.size=n:=aP N;have o:=ao i j (aX _) ac (by simp at t |-;omega);simp at hi t;rw[rQ d' j aa,rQ d' i aa]at o;unfold ltOf at o;simpa using o
  refine List.Pairwise.imp (fun{i j} h=>?_) (ap.and al);have⟨E,F⟩:=h;rw[qm]at E;have B:(i:Nat)≠(j:Nat):=fun e=>F (Fin.ext e);have:=Jo hu (i:=i) (k:=j) aa aa B;unfold jI at this;unfold zI;unfold uf at*;omega
 have Y:d'.toList.map (fun i:Fin n=>(i:Nat))=dP R:=by
  refine qa (R:=zI R) (fun i=>wz _) (fun h h'=>Dl h h') X L.TY fun i=>?_;rw[(C.map _).mem_iff,L.live,rf];show i∈l.map _↔_;rw[P,uV];constructor
  .intro h;rw[aN aa]
  .intro h;by_cases p:i<R.length
   .omega
   .rw[aM p]at h;cases h
 obtain⟨aG,-,-,-,p⟩:=rV (enc:=enc) (l:=l) (l':=d'.toList) ab z aa ah an aa m os;rw[N]at p;have Z:d'.toList.map enc=(dP R).map fA:=by rw[<-Y,ve,s];rfl
 rw[Z]at p;refine⟨v,?_,O m os d'⟩;simpa[sortWorld]using p
theorem GV (a:Option Addr) (c:Nat) (l:List Pt) (w:World) (s:bQ bX 3 w a l) (O:l.length<=1000000) (x:H9 l):
  aK 97 #[.slice a l.length c] w (fV w (.bool (lH l))):=by
 have B:=ag s;have E:=ag x;clear s x;have N:=@vv prog;go_enter func97,ntmps97;go_wp2
 go_loopw [9] (fun k wr=>∃i:Nat,k=.int .i64 i/\i<=l.length/\Below w.heap.size w wr/\Hid (∃(D:DataW Unit),wr.ownsMap prog 27 (plainElem prog 3) w.heap.size i D/\nJ D l i)) (fun k _=>l.length-(intOf k).toNat)
 case atStart=>exact⟨0,rfl,aX _,(aJ _ _).alloc (aB _) _,⟨.map [],uK _ _ _ _,[],IsM.empty _ _⟩⟩
 case round=>
  obtain⟨i,rfl,hi,e,HO⟩:=hrel;by_cases g:i<l.length
  .obtain⟨b,off,q,M,f⟩:=(B.o.below e).get aa;have K:=f i g 0 aa;have x1:=f i g 1 aa;have x2:=f i g 2 aa;simp only[bX,fw,fD,dx]at K x1 x2;have G:Hid (keyOf prog 27 (.int .u32 l[i].2.2)=some (.int .u32 l[i].2.2)):=rR underlying27 (E.o _ (bB _));obtain⟨D,t,d⟩:=HO.o;have n:=ag (d.put g);have L:=e.size;have m:=ag q;clear HO f d q;generalize l[i]=p at*;obtain⟨I,J,H⟩:=p;obtain rfl:=m.o;clear m;have h:=t.kept (qI wr (.cells #[af I,af J,ay H] 29) none) aA
   go_wp2_with (at_mapUpdate;refine uF _ rfl _ _ _ 26 rfl 27 3 (rU underlying27) underlying26 _ w.heap.size i _ rfl h dD _ _ _ rfl rfl G.o _ [] (rO underlying3 (by simp[Lit.wf,IntKind.min,IntKind.max,IntKind.bits,IntKind.signed];omega)) ?_;intro w3 u r)
   have y:Below w.heap.size wr w3:=(((aJ _ wr).alloc aa _)).grown r aD (fun j F=>by cases F;omega);have A:Hid (∃(D:DataW Unit),w3.ownsMap prog 27 (plainElem prog 3) w.heap.size (i+1) D/\nJ D l (i+1)):=⟨_,u,n.o⟩;have z:=e.trans y;clear u r h t n;go_wp2;go_roundw
   case rel=>exact⟨i+1,by go_num,aa,z,A⟩
   case measure=>exact dU
  .obtain rfl:i=l.length:=aa;obtain⟨D,h,d⟩:=HO.o;have v:=d.size;have C:=ag v;clear v d HO
   go_wp2_with (at_len;refine wpList_len_own _ rfl _ 26 rfl 27 3 underlying26 _ w.heap.size _ _ rfl h ?_)
   go_ret;exact⟨by rw[C.o];rfl,e⟩
theorem dm.grow {w:World} {lo hi a tb fb:Nat} {R:List Pt} {h:iH} {cnt:Int} {V:ni} (H:dm w lo hi tb fb R h cnt V) (b:hi<=a) (c:a<=w.heap.size):dm w lo a tb fb R h cnt V:=
 ⟨H.blk,⟨H.fo.1,by have:=H.fo.2.1;omega,H.fo.2.2.1,by have:=H.fo.2.2.2.1;omega,c⟩,H.row,H.xs,H.iD,H.jc,H.nZ,fun v d g e=>bR (H.top v d g e) b⟩
theorem O7 (n:Nat):Ib (fun _=>none) n=List.replicate n (.int .i64 (-1)):=by
 apply rC (by simp[Ib]);intro i a b;simp[Ib,og]
theorem O8 {w:World} {base n tb tc:Nat} {av:Value} {f:Option Addr} {z:Nat} {R:List Pt} (hu:(ids R).Nodup) (u:R.Pairwise kE) (i:R.length=n) (q:n<=1000000) (b:w.ownsRow base 3 1 av n ((List.range n).map fA))
  (t:w.cell? (ae tc 0)=some (aj tb)) (j:w.cell? (ae tb 0)=some (.slice f n z)) (s:bQ bX 3 w f R) (m:∀g,av.ownBlock=some g->tc≠g/\tb≠g/\∀ad,f=some ad->ad.block≠g):
  aK 98 #[av,.func (.func 99) #[] #[aj tc]] w fun e w'=>
   e=.returned (.tuple #[])/\w'.ownsRow base 3 1 av n ((dP R).map fA)/\ax (fun k=>av.ownBlock=some k) w w':=by
 by_cases l:n=0
 .subst l;have o:R=[]:=gX i;subst o;obtain⟨a,c,rfl⟩:=fF b;have h:=Ig ({Tryz.Gy with}) a c (.func (.func 99) #[] #[aj tc]) w;change aK 98 _ _ _ at h;refine h.mono ?_;rintro e w' ⟨d,rfl⟩;exact⟨d,by simpa[dP,ku]using b,ax.refl _ _⟩
 .obtain⟨g,c,rfl,-,-,-,-⟩:=aU b aa;have⟨v,x,y⟩:=m g rfl;refine(Ra hu u i aa q b t j s v x y).mono ?_;rintro e w' ⟨d,r,p⟩;exact⟨d,r,p.mono fun k e=>by subst e;rfl⟩
theorem JE:gF 100:=di func100 aO rfl
theorem O9 {w:World} {base:Nat} {e:TypeId} {sz:Nat} {a:Option Addr} {n c m:Nat} {xs:List Value} (h:w.ownsRow base e sz (.slice a n c) m xs):∀ad,a=some ad->(Value.slice a n c).ownBlock=some ad.block:=fun ad d=>by
 subst d;rcases h.2 with⟨b,-⟩|⟨g,f,i,b,-⟩
 .cases b
 .injection b with b;injection b with b;subst b;rfl
def Fp (w:World) (R:List Pt) (e:Ending) (w':World):Prop:=
 ∃tb fb V,e=.returned (.tuple #[aj tb,af 0])/\dm w' w.heap.size w'.heap.size tb fb R (BN R) R.length V/\Below w.heap.size w w'
structure Rb (w:World) (lo fb tb tc n:Nat) (rv nv fv:Value) (l:List Pt):Prop where
 row:w.ownsRow lo 29 3 rv n (l.flatMap bX)
 jc:w.ownsRow lo 163 7 nv (aW n).length ((aW n).flatMap oK)
 iD:nH w lo fb n fv
 KP:w.heap[tc]? =some (.cells #[aj tb] 87 (0,0))
 Qg:lo<=fb
theorem Rb.kept {S:Nat->Prop} {w w':World} {lo fb tb tc n:Nat} {s r p:Value} {l:List Pt} (h:Rb w lo fb tb tc n s r p l) (K:ax S w w') (hS:∀k,k<w.heap.size->S k->∃cs t fr,w.heap[k]? =some (.cells cs t fr)/\t≠29/\t≠163/\t≠236/\t≠87):Rb w' lo fb tb tc n s r p l:=by
 have blk:∀{b:Nat} {m:Array Value} {j:TypeId} {o:Nat×Nat},w.heap[b]? =some (.cells m j o)->(∀cs t fr,w.heap[b]? =some (.cells cs t fr)->S b->t≠j)->w'.heap[b]? =some (.cells m j o):=fun q v=>bz K q fun u=>v _ _ _ q u rfl;refine⟨oU h.row K fun k g f=>?_,oU h.jc K fun k g f=>?_,⟨bz K h.iD.blk fun f=>?_,oU h.iD.row K fun k g f=>?_⟩,bz K h.KP fun f=>?_,h.Qg⟩
 .obtain⟨cs,t,fr,a,b,c,d,e⟩:=hS k g f;exact⟨cs,t,fr,a,b⟩
 .obtain⟨cs,t,fr,a,b,c,d,e⟩:=hS k g f;exact⟨cs,t,fr,a,c⟩
 .have i:=(aZ.1 h.iD.blk).1;have⟨cs,t,fr,a,b,c,d,e⟩:=hS fb i f;have:=a.symm.trans h.iD.blk;injection this with this;injection this with _ this _;exact d this
 .obtain⟨cs,t,fr,a,b,c,d,e⟩:=hS k g f;exact⟨cs,t,fr,a,c⟩
 .have i:=(aZ.1 h.KP).1;have⟨cs,t,fr,a,b,c,d,e⟩:=hS tc i f;have:=a.symm.trans h.KP;injection this with this;injection this with _ this _;exact e this
theorem Cc {w:World} {base:Nat} {e:TypeId} {sz:Nat} {v:Value} {n:Nat} {xs:List Value} (h:w.ownsRow base e sz v n xs) {k:Nat} (a:v.ownBlock=some k):∃cs fr,w.heap[k]? =some (.cells cs e fr):=by
 rcases h.2 with⟨rfl,-⟩|⟨g,c,d,rfl,-,b,-⟩
 .cases a
 .injection a with a;subst a;exact⟨_,_,b⟩
theorem JF (a:Option Addr) (c:Nat) (l:List Pt) (w:World) (bo:bQ bX 3 w a l) (dF:l.length<=20000) (db:H9 l) (hu:lH l=true):
  aK 37 #[.slice a l.length c] w (Fp w (eP l)):=by
 have aY:=GV a c l w bo aa db;rw[hu]at aY;have ea:=ag bo;obtain⟨n,bp⟩:∃n,n=l.length:=⟨_,rfl⟩;have cq:=ag (fun W (ca:Below w.heap.size w W)=>oN a l n c W bp.symm (bo.below ca) aa);have cA:=ag bp;rw[<-bp]at dF aY |-;have am:=ag (fun W=>yo n aa W);clear bp bo;have d1:decide ((n:Int)>2147483648)=false:=aD;have d2:decide ((2147483648:Int)<(n:Int))=false:=aD;have d3:decide (2147483648<n)=false:=aD;have cX:(ids l).Nodup:=by unfold lH at hu;simpa using hu
 have bI:=ag cX;clear cX hu db;go_enter func37,ntmps37
 go_wp2_with (go_at_call 97;refine aY.mono ?_;rintro e w1 ⟨rfl,bh⟩;clear aY)
 go_wp2_with fail
 refine(am.o w1).mono ?_;rintro e w2 ⟨rfl,a4⟩;have ap:Hid (Below w.heap.size w w2):=by rw[a4];exact bh.alloc bh.size _
 have bD:Hid (w2.heap[w1.heap.size]? =some (lC 0 0 (aL) n)):=by rw[a4];exact cB w1 _
 obtain⟨fb,ce⟩:∃fb,fb=w1.heap.size:=⟨_,rfl⟩;have bl:w.heap.size<=fb/\fb<w2.heap.size:=by rw[a4,ce];exact⟨bh.size,aA⟩
 rw[<-ce]at bD |-;clear a4 bh ce am
 go_wp2_with fail
 refine(cq.o w2 ap.o).mono ?_;rintro e w3 ⟨el,rfl,cj,cb⟩;have cd:=(cb.block fb bl.2).trans bD.o;have bw:Hid (Below w.heap.size w w3):=ap.o.trans (cb.mono ap.o.size);have cC:=ag (bH cj ap.o.size);have cr:=ag (gH fb n aa w3 cd);have cw:=ag cd;obtain⟨q,m,rfl⟩:=fF cj;clear cj cb cd cq bD ap
 go_wp2_with fail
 refine cr.o.mono ?_;rintro e w4 ⟨D,dV,rfl,iW,cg,cT,A⟩;have ck:=bw.o.size;have cD:Hid (w4.ownsRow w.heap.size 29 3 (.slice q n m) n (l.flatMap bX)):=Jb cC.o ai cw.o A;have bF:Hid (nH w4 w.heap.size fb n D):=⟨cT,bH iW ck⟩;have cz:Hid (w4.ownsRow w.heap.size 163 7 dV (aW n).length ((aW n).flatMap oK)):=bH cg ck;have F:Hid (Below w.heap.size w w4):=bw.o.trans (A.toBelow ck (fun k h=>by have:=bl.1;omega));obtain⟨t,nc,rfl⟩:=fF cg;obtain⟨M,bc⟩:∃M,M=(aW n).length:=⟨_,rfl⟩;have bM:=ag bc;have eb:M<=40000:=by rw[bc,df];omega
 rw[<-bc];clear iW cg cT A cr bc cC cw bw
 go_upto_region 9 with fail
 obtain⟨wc,aC⟩:∃wc,wc=(w4.alloc (.cells #[.slice q n m,aL,aj fb,.slice t M nc,aL,af n] 155)).alloc (.cells #[aj w4.heap.size] 87):=⟨_,rfl⟩;have cc:Below w4.heap.size w4 wc:=by rw[aC];exact((aJ _ _).alloc (aB _) _).alloc aA _
 obtain⟨tb,aU⟩:∃tb,tb=w4.heap.size:=⟨_,rfl⟩;have cP:wc.heap[tb]? =some (Mm (.slice q n m) (aL) fb (.slice t M nc) (aL) n):=by rw[aC,aU];exact IG w4 _ _
 have bd:wc.heap[tb+1]? =some (.cells #[aj tb] 87 (0,0)):=by rw[aC,aU];exact Ex w4 _ _
 rw[<-aC,<-aU];have U:Hid (Rb wc w.heap.size fb tb (tb+1) n (.slice q n m) (.slice t M nc) D l):=by
  have K:ax (fun _=>False) w4 wc:=(ax.refl _ w4).below cc;exact⟨aT cD.o K (fun _ _ h=>h),by rw[<-bM.o];have:=aT cz.o K (fun _ _ h=>h);rwa [<-bM.o]at this,⟨bz K bF.o.blk (fun h=>h),aT bF.o.row K (fun _ _ h=>h)⟩,bd,bl.1⟩
 have aq:=ag cP;have bv:Hid (Below w.heap.size w wc):=F.o.trans (cc.mono F.o.size);have dR:w.heap.size<=tb:=by rw[aU];exact F.o.size
 obtain⟨tc,N⟩:∃tc,tc=tb+1:=⟨_,rfl⟩;rw[<-N]at U bd |-;clear aC cc cP cD bF cz F aU N;have cn:=(aZ.1 aq.o).1;have cu:=ag (yA cA.o.symm aa U.o.row bI.o);have cQ:=aq.o;have b2:wc.cell? (ae tb 0)=some (.slice q n m):=aG cQ;have t0:wc.cell? (ae tc 0)=some (aj tb):=aG bd;clear cQ bd
 go_wp2_with fail
 refine cu.o.mono ?_;rintro e w4 ⟨rfl,cY,A⟩;have cM:Rb w4 w.heap.size fb tb tc n (.slice q n m) (.slice t M nc) D (eP l):=by
  have h:=U.o;have f:=h.kept (S:=fun k=>(Value.slice q n m).ownBlock=some k) A;refine⟨cY,oU h.jc A fun k y f=>?_,⟨bz A h.iD.blk fun f=>?_,oU h.iD.row A fun k y f=>?_⟩,bz A h.KP fun f=>?_,h.Qg⟩
  .obtain⟨cs,fr,e⟩:=Cc h.row f;exact⟨cs,_,fr,e,ai⟩
  .exact bn h.row h.iD.blk ai fb f rfl
  .obtain⟨cs,fr,e⟩:=Cc h.row f;exact⟨cs,_,fr,e,ai⟩
  .exact bn h.row h.KP ai tc f rfl
 have V:Hid (w4.heap[tb]? =some (Mm (.slice q n m) (aL) fb (.slice t M nc) (aL) n)):=bz A aq.o (fun h=>bn U.o.row aq.o ai tb h rfl);have F:Hid (Below w.heap.size w w4):=bv.o.trans (A.toBelow bv.o.size (fun k h=>(U.o.row.lt k h).1));have H:=ag cM;have z:(eP l).length=n:=by rw[(dN l).length_eq];exact cA.o.symm
 have cO:(ids (eP l)).Nodup:=((dN l).map _).nodup_iff.2 bI.o;have a2:Hid ((eP l).Pairwise kE/\(ids (eP l)).Nodup):=⟨fT bI.o,cO⟩;clear cY A cM U aq bv cu cO b2 t0 cn;generalize dA:eP l=R at*;clear dA;have cn:=(aZ.1 V.o).1;have c6:=(aZ.1 H.o.KP).1;have c9:=V.o;have N:=H.o.KP;have b2:w4.cell? (ae tb 0)=some (.slice q n m):=aG c9;have t0:w4.cell? (ae tc 0)=some (aj tb):=aG N;clear c9 N
 go_wp2_with fail
 have dG:tc≠tb:=fun e=>by
  have y:=H.o.KP;rw[e,V.o]at y;injection y with y;injection y with _ y _;exact absurd y ai
 go_loopg [7,43] n (fun dU dZ dY wr=>∃(i:Nat) (cp av:Value),dY=.int .i64 i/\dZ=av/\i<=n/\n-i<=dU/\Hid (wr.heap[tb]? =some (Mm (.slice q n m) cp fb (.slice t M nc) (aL) n))/\Hid (wr.ownsRow w4.heap.size 2 1 cp i (((bU R).take i).map (Value.int .i64)))/\Hid (wr.ownsRow w4.heap.size 3 1 av i ((List.range i).map fA))/\Hid (ax (fun k=>k=tb) w4 wr))
 case atStart=>exact⟨0,_,_,rfl,rfl,aX _,aa,V,dw _ _ _ _,dw _ _ _ _,ax.refl _ _⟩
 case round=>
  obtain⟨i,cp,av,rfl,rfl,hi,eg,ar,X,T,G⟩:=hrel;by_cases ef:i<n
  .have c1:=aT H.o.row G.o (fun g h f=>bn H.o.row V.o ai g h f.symm);obtain⟨_,_,b6,-,-,aR⟩:=bQ.aI bg ai c1;injection b6 with b3 b4 b5;subst b3;clear b4 b5;obtain⟨b,off,du,ec,bj⟩:=aR.get aa;have co:=bj i aa 0 aa;have x1:=bj i aa 1 aa;have x2:=bj i aa 2 aa;simp only[bX,fw,fD,dx]at co x1 x2;have dc:(bU R).take (i+1)=(bU R).take i++[R[i].1]:=by
    have h:i<(bU R).length:=by unfold bU;simp;omega
    rw[gW h];simp[bU]
   have cG:=ag dc;subst du;clear bj aR dc c1;generalize R[i]=p at*;obtain⟨aV,di,dh⟩:=p;simp only at cG co x1 x2;have N:=ar.o;have c8:=(aZ.1 N).1;have cm:=(G.o.block tc c6 dG).trans H.o.KP;have c7:=(aZ.1 cm).1;obtain⟨r,s,rfl⟩:=fF X.o;obtain⟨aw,ac,rfl⟩:=fF T.o
   go_upto_region 14 with fail
   obtain⟨w6,J⟩:∃w6,w6=wr.alloc (.cells #[af aV,af di,ay dh] 29):=⟨_,rfl⟩;have x:Below wr.heap.size wr w6:=by rw[J];exact(aJ _ _).alloc (aB _) _
   have ab:w6.heap[wr.heap.size]? =some (.cells #[af aV,af di,ay dh] 29 (0,0)):=by rw[J];exact cB wr _
   have cl:=(x.block tb c8).trans N;have c4:=(x.block tc c7).trans cm;have c2:=G.o.size;have c3:=x.size;have al:∀g,(Value.slice r i s).ownBlock=some g->w4.heap.size<=g/\g<wr.heap.size:=fun g h=>X.o.lt g h;have dg:¬(Value.slice r i s).ownBlock=some tb:=fun h=>by have:=(al tb h).1;omega
   have dd:¬(Value.slice r i s).ownBlock=some tc:=fun h=>by have:=(al tc h).1;omega
   have de:¬(Value.slice r i s).ownBlock=some wr.heap.size:=fun h=>by have:=(al _ h).2;omega
   have br:∀{bk o:Nat} {v:Value},bk<w6.heap.size->¬(Value.slice r i s).ownBlock=some bk->w6.cell? (ae bk o)=some v->∀p:wD (fun k=>(Value.slice r i s).ownBlock=some k) w6,p.W.cell? (ae bk o)=some v:=fun ca hd da p=>((bZ p.h ca hd).1 _).trans da;have dI:wr.heap.size<w6.heap.size:=(aZ.1 ab).1;have a6:=br (bR c7 c3) dd (o:=0) (v:=aj tb) (aG c4);have b7:=br (bR c8 c3) dg (o:=1) (v:=.slice r i s) (aG cl);have dy:=br dI de (o:=0) (v:=.int .i64 aV) (aG ab);have bT:=ag (az X.o x);have bt:=ag (az T.o x);have cy:Hid (ax (fun k=>k=tb) w4 w6):=G.o.below x;have cE:=ag cl;rw[<-J];clear J x ab cl c4 cm N co x1 x2 br dd de dg;refine ak (fun W=>∃p:wD (fun k=>(Value.slice r i s).ownBlock=some k) w6,W=p.W) [9,10,11] [(0,true),(1,true),(2,false),(3,false),(4,true),(5,false),(6,true)] ⟨⟨_,(ax.refl _ _).drew⟩,rfl⟩ 5 ?_;refine aF 7 rfl fun K u=>?_;go_simp;refine u _ _ (fun _ _=>⟨⟨_,((ax.refl _ w6).alloc _).drew⟩,rfl⟩) ?_;clear u K;refine aF 8 rfl fun K u=>?_;refine bC zM w4.heap.size (w:=(w6.alloc (.cells #[af aV] 2)).drew) (az bT.o ((aJ _ w6).alloc (aB _) _|>.drew)) [.int .i64 aV] rfl (by simp[Value.oneCell']) rfl (.tmp 52) (.tmp 55) rfl rfl w6.heap.size rfl (lg _ _) dD aa aD ?_;intro L I d ci cW ee eh;have cV:w6.grownBy d (Value.slice r i s).ownBlock:=dO (bN ((aJ _ w6).alloc (aB _) _|>.drew)) cW;have Y:ax (fun k=>(Value.slice r i s).ownBlock=some k) w6 d:=(ax.refl _ w6).grown cV (fun k aO=>.inl aO);refine u _ _ (fun _ _=>⟨⟨_,Y⟩,rfl⟩) ?_;clear u K;refine aH [9,10,11] ?_;have bq:=bz Y cE.o (fun h=>by have:=(al tb h).1;omega);have dX:d.cell? (ae tb 1)=some (.slice r i s):=aG bq;have f8:d.frozen? (ae tb 1)=false:=aG bq;have cF:Hid ((d.setCell (ae tb 1) (au L (i+1) I)).heap[tb]? =some (Mm (.slice (some (ae b off)) n m) (au L (i+1) I) fb (.slice t M nc) (aL) n)):=dC d tb 1 _ _ _ bq;have b1:ax (fun k=>k=tb) d (d.setCell (ae tb 1) (au L (i+1) I)):=(ax.refl (fun k=>k=tb) d).set (a:=(ae tb 1)) (au L (i+1) I) (.inl rfl);have bV:Hid ((d.setCell (ae tb 1) (au L (i+1) I)).ownsRow w4.heap.size 2 1 (au L (i+1) I) (i+1) (((bU R).take (i+1)).map (Value.int .i64))):=by
    have a8:=aT (S:=fun k=>k=tb) ci b1 (fun g h f=>by have:=(ci.lt g h).1;omega);show World.ownsRow _ _ _ _ _ _ _;rw[cG.o,bL];exact a8
   have an:=aT bt.o Y (fun g h f=>bA bt.o bT.o ai g h f);have ao:Hid ((d.setCell (ae tb 1) (au L (i+1) I)).ownsRow w4.heap.size 3 1 (.slice aw i ac) i ((List.range i).map fA)):=aT an b1 (fun g h f=>by have:=(an.lt g h).1;omega);have bK:Hid (ax (fun k=>k=tb) w4 (d.setCell (ae tb 1) (au L (i+1) I))):=((cy.o.mono (S':=fun k=>k=tb\/w4.heap.size<=k) (fun k h=>.inl h)).trans (Y.mono (fun k h=>.inr (al k h).1))).strip.set (a:=(ae tb 1)) _ (.inl rfl);have ei:=Y.size;clear Y cV cW ci bq a6 b7 dy bT cE cy al an bt T X ar G b1
   go_upto_region 15 with fail
   obtain⟨P,cI⟩:∃P,P=d.setCell (ae tb 1) (au L (i+1) I):=⟨_,rfl⟩;rw[<-cI]at cF bV ao bK |-;have dQ:w4.heap.size<=P.heap.size:=bK.o.size;clear cI dX f8
   go_wp2_with (at_builtin;refine bW nA w4.heap.size ao.o [.int .i64 (i:Nat)] rfl (by simp[Value.oneCell']) rfl _ _ rfl rfl _ rfl dD aa dQ ?_;intro d0 d4 dH dE ed)
   go_roundg (n-(i+1))
   case measure=>omega
   case rel=>
    have b0:ax (fun k=>(Value.slice aw i ac).ownBlock=some k) P d4:=(ax.refl _ P).grown dE (fun k aO=>.inl aO);refine⟨i+1,_,d0,by go_num,rfl,aa,aB _,bz b0 cF.o (fun h=>by have:=(ao.o.lt tb h).1;omega),aT bV.o b0 (fun g h f=>bA bV.o ao.o ai g h f),?_,?_⟩
    .show World.ownsRow _ _ _ _ _ _ _;rw[uU,bL];exact dH
    .exact((bK.o.mono (S':=fun k=>k=tb\/w4.heap.size<=k) (fun k h=>.inl h)).trans (b0.mono (fun k h=>.inr (ao.o.lt k h).1))).strip
  .obtain rfl:i=n:=aa;obtain⟨aw,ac,rfl⟩:=fF T.o;have a1:Hid (Rb wr w.heap.size fb tb tc i (.slice q i m) (.slice t M nc) D R):=H.o.kept G.o (fun k y f=>by subst f;exact⟨_,_,_,V.o,ai,ai,ai,ai⟩);have bx:Hid (Below w.heap.size w wr):=F.o.trans (G.o.toBelow F.o.size (fun k h=>aa));have be:=X.o;rw[ky (by unfold bU;simp;omega)]at be;have bY:=ag be;have c2:=G.o.size;have a9:=T.o;have bs:=ag a9;have aS:=ar.o;have B:=a1.o.KP;have cH:wr.cell? (ae tb 0)=some (.slice q i m):=aG aS;have dj:wr.cell? (ae tc 0)=some (aj tb):=aG B;obtain⟨_,_,b6,-,-,aR⟩:=bQ.aI bg ai a1.o.row;injection b6 with b3 b4 b5;subst b3;clear b4 b5;have aM:∀g,(Value.slice aw i ac).ownBlock=some g->w4.heap.size<=g:=fun g h=>(a9.lt g h).1;have ct:=ag (O8 a2.o.2 a2.o.1 z aa a9 dj cH aR (fun g h=>⟨by have:=aM g h;omega,by have:=aM g h;omega,fun ad e a8=>by
    have b8:=O9 H.o.row ad e;have:=(H.o.row.lt _ b8).2;have:=aM g h;omega⟩))
   have cv:=ag aM;obtain⟨r,s,rfl⟩:=fF be;clear be a9 aS B aR aM b2 t0 cH dj X T G
   go_wp2_with fail
   refine ct.o.mono ?_;rintro e j ⟨rfl,c0,aP⟩;have bO:Hid (Rb j w.heap.size fb tb tc i (.slice q i m) (.slice t M nc) D R):=a1.o.kept aP (fun k y f=>by obtain⟨cs,fr,e⟩:=Cc bs.o f;exact⟨cs,_,fr,e,ai,ai,ai,ai⟩);have bS:Hid (j.heap[tb]? =some (Mm (.slice q i m) (.slice r i s) fb (.slice t M nc) (aL) i)):=bz aP ar.o (fun h=>by have:=cv.o tb h;omega);have dp:Hid (j.ownsRow w.heap.size 2 1 (.slice r i s) i ((bU R).map (Value.int .i64))):=bH (aT bY.o aP (fun g h f=>bA bY.o bs.o ai g h f)) F.o.size;have bu:=ag c0;have bB:Hid (Below w.heap.size w j):=bx.o.trans (aP.toBelow bx.o.size (fun k h=>by have:=cv.o k h;have:=F.o.size;omega));have dT:=(aZ.1 bS.o).1;have ek:=(aZ.1 bO.o.KP).1;have aS:=bS.o;have B:=bO.o.KP;clear c0 aP ct a1 bx bY bs ar cn c6 c2;have a6:=ah (w:=j) (ad:=(ae tc 0)) (v:=aj tb) (aG B);have b7:=ah (w:=j) (ad:=(ae tb 3)) (v:=.slice t M nc) (aG aS);clear aS B
   go_upto_region 18 with fail
   refine ak (fun W=>∃p:aQ j,W=p.W) [8,9,10] [(0,true),(2,true),(3,false),(4,false),(5,true),(6,false)] ⟨⟨_,(aJ _ _).drew⟩,rfl⟩ 5 ?_;refine aF 1 rfl fun K u=>?_;obtain⟨w6,J⟩:∃w6,w6=(j.alloc (.cells #[af (-1)] 3)).drew:=⟨_,rfl⟩;have x:Below j.heap.size j w6:=by rw[J];exact((aJ _ _).alloc (aB _) _).drew
   have ab:w6.heap[j.heap.size]? =some (.cells #[af (-1)] 3 (0,0)):=by rw[J];exact cB j _
   go_simp;rw[<-J];clear J;refine u _ _ (fun _ _=>⟨⟨_,x⟩,rfl⟩) ?_;clear u K;refine aF 7 rfl fun K u=>?_;refine bf JE rfl _ _ rfl (vals:=#[au j.heap.size 1 1,af M]) rfl (O6 w6 j.heap.size M ab aa) ?_;rintro e C ⟨da,rfl,ch,cR⟩;have Z:Below j.heap.size j C:=x.trans (cR.mono x.size);refine⟨_,rfl,u _ _ (fun _ _=>⟨⟨_,Z⟩,rfl⟩) ?_⟩;clear u K;refine aH [8,9,10] ?_;have O:=(Z.block tb dT).trans bS.o;have dW:C.cell? (ae tb 4)=some (aL):=aG O;have f7:C.frozen? (ae tb 4)=false:=aG O;obtain⟨aE,aN,rfl⟩:=fF ch;obtain⟨d,a5⟩:∃d,d=C.setCell (ae tb 4) (.slice aE M aN):=⟨_,rfl⟩;have Q:ax (fun k=>k=tb) C d:=by rw[a5];exact(ax.refl (fun k=>k=tb) C).set (a:=(ae tb 4)) _ (.inl rfl)
   have a3:ax (fun _=>False) j C:=(ax.refl _ j).below Z;have cN:Rb C w.heap.size fb tb tc i (.slice q i m) (.slice t M nc) D R:=bO.o.kept a3 (fun k y f=>f.elim);have E:Rb d w.heap.size fb tb tc i (.slice q i m) (.slice t M nc) D R:=cN.kept Q (fun k y f=>by subst f;exact⟨_,_,_,O,ai,ai,ai,ai⟩);have b9:=eY (aT dp.o a3 (fun _ _ h=>h)) Q O ai;have ba:=eY ch Q O ai;have cK:=eY (aT bu.o a3 (fun _ _ h=>h)) Q O ai;have dJ:j.heap.size<=w6.heap.size:=x.size;have dK:j.heap.size<=C.heap.size:=Z.size;have dL:C.heap.size<=d.heap.size:=Q.size;have ej:=bB.o.size;have cx:Hid (dm d w.heap.size d.heap.size tb fb R (fun _=>none) i ⟨.slice q i m,.slice r i s,.slice t M nc,.slice aE M aN,D⟩):=by
    refine⟨by rw[a5];exact dC C tb 4 _ _ _ O,⟨dR,aa,bl.1,(aZ.1 E.iD.blk).1,aB _⟩,by rw[z];exact E.row,by rw[z];exact b9,by rw[z];exact E.iD,by rw[z];exact E.jc,?_,?_⟩
    .rw[z,<-bM.o,O7];exact bH ba aa
    .rintro v (rfl|rfl|rfl|rfl|rfl) g e
     .exact(E.row.lt g e).2
     .exact(b9.lt g e).2
     .exact(E.jc.lt g e).2
     .exact(ba.lt g e).2
     .exact(E.iD.row.lt g e).2
   have a0:Hid (Below w.heap.size w d):=(bB.o.trans (Z.mono bB.o.size)).trans (Q.toBelow aa (fun k h=>aa));have an:=ag cK;have bP:=ag E.KP;have dS:tc<d.heap.size:=(aZ.1 E.KP).1;have bG:Hid (∀g,(Value.slice aE M aN).ownBlock=some g->j.heap.size<=g):=fun g e=>by have:=(ba.lt g e).1;omega
   clear a6 b7 x ab ch cR Z O Q a3 cN E b9 ba cK dJ dK dL
   go_upto_region 19 with fail
   rw[<-a5];clear a5 dW f7;by_cases cJ:i=0
   .have d5:decide ((i:Int)>0)=false:=aD;have d6:decide ((0:Int)<(i:Int))=false:=aD;have d7:decide (0<i)=false:=aD;have cU:BN R=fun _=>none:=by
     have dz:R=[]:=gX aa;subst dz;unfold BN;rw[show dP []=[]from gX (by rw[jV];rfl),yI]
    have bE:Hid (Fp w R (.returned (.tuple #[aj tb,af 0])) d):=⟨tb,fb,⟨.slice q i m,.slice r i s,.slice t M nc,.slice aE M aN,D⟩,rfl,by rw[cU,z];exact cx.o,a0.o⟩;have B:=bP.o;have t8:d.cell? (ae tc 0)=some (aj tb):=aG B;clear cU B cJ;go_wp2;go_ret2;exact bE.o
   .have a7:0<i:=aa;have d5:decide ((i:Int)>0)=true:=aD;have d6:decide ((0:Int)<(i:Int))=true:=aD;have d7:decide (0<i)=true:=aD;have bi:Below d.heap.size d d.drew:=(aJ _ _).drew;have cf:=cx.o.below bi (aB _);have bm:=cf.iD.blk;rw[z]at bm;have dl:=ag (jw fb i a7 aa d.drew (aG bm) (aG bm));obtain⟨dk,d8,d9⟩:=bJ 0 i a7;have dB:=fe 0 i a7;obtain⟨_,_,dq,-,cS,cZ⟩:=Rd.aI (enc:=fA) (az an.o bi);injection dq with dr ds dt;subst dr dt;have am:=ag (Mt aa (dM 0 i) 0 (by rw[z];exact jT i a7) dk aa (dP R) d.drew (fun _=>none) aw ac cf cZ (by rw[jV];omega) cS (fun ad e a8=>by
     have b8:=O9 bu.o ad e;have:=(bu.o.lt _ b8).2;have:=bG.o _ a8;omega) (fun k aO=>by have:=(qo a2.o.1 a2.o.2).lt aO;omega))
    rw[jV,z,show(dM 0 i).root 0=2*i-2 by unfold FT.root;omega]at am;have dn:Hid (fillH (dM 0 i) 0 (dP R) (fun _=>none)=BN R):=by show _=_;unfold BN;rw[z]
    have B:=bP.o;have a6:=ah (w:=d) (ad:=(ae tc 0)) (v:=aj tb) (aG B);clear B bm cf dk d8 d9 dB cS cZ ds cJ
    go_upto_region 20 with fail
    refine ak (fun W=>∃p:aQ d,W=p.W) [4] [(0,true),(1,false),(3,false)] ⟨⟨_,(aJ _ _).drew⟩,rfl⟩ 2 ?_;refine aF 2 rfl fun K u=>?_;refine bf mD rfl _ _ rfl (vals:=#[aj fb]) rfl dl.o ?_;rintro e w' ⟨rfl,dv⟩;subst dv;refine⟨_,rfl,u _ _ (fun _ _=>⟨⟨_,bi⟩,rfl⟩) ?_⟩;clear u K;refine aH [4] ?_
    go_wp2_with fail
    refine am.o.mono ?_;rintro e P ⟨rfl,cL,bb⟩;have c5:=(bb.block tc (show tc<d.drew.heap.size from dS) (fun h=>by have:=bG.o tc h;omega)).trans (show d.drew.heap[tc]? =_ from bP.o);have t9:P.cell? (ae tc 0)=some (aj tb):=aG c5;have bE:Hid (Fp w R (.returned (.tuple #[aj tb,af 0])) P):=by
     refine⟨tb,fb,⟨.slice q i m,.slice r i s,.slice t M nc,.slice aE M aN,D⟩,rfl,?_,?_⟩
     .rw[<-dn.o,z];exact cL.grow (by have:=bb.size;exact this) (aB _)
     .exact(a0.o.trans (bi.mono a0.o.size)).trans (bb.toBelow (by have:=a0.o.size;exact this) (fun k h=>by have:=bG.o k h;omega))
    clear cL bb c5;go_wp2;go_ret2;exact bE.o
end
section
open Go.RowKit Go.Sort Go.Shelf Go.Lib Go.Maps
def uA (w:World) (lo hi tb n0:Nat) (l:List Pt):Prop:=
 ∃fb R h V,dm w lo hi tb fb R h l.length V/\mg R h/\yL R h l/\R.length=n0/\n0<=20000
def KQ (n:Nat):Nat:=6*Lib.bitLen n+1
section
variable {w w':World} {lo hi tb n0:Nat} {l:List Pt}
theorem uA.kept {S:Nat->Prop} (h:uA w lo hi tb n0 l) (K:ax S w w') (hS:∀k,lo<=k->k<hi->¬S k):uA w' lo hi tb n0 l:=by
 have⟨fb,R,h,V,a,b⟩:=h;exact⟨fb,R,h,V,a.kept K hS,b⟩
theorem uA.Ff (h:uA w lo hi tb n0 l):l.length<=n0/\n0<=20000:=by
 have⟨fb,R,h,V,c,a,b,d,e⟩:=h;have:=a.few;have:=b.len;omega
theorem Tp (a:Option Addr) (c:Nat) (l:List Pt) (w:World) (j:bQ bX 3 w a l) (k:l.length<=20000) (m:H9 l) (hu:lH l=true):
  aK 37 #[.slice a l.length c] w fun e w'=>∃tb,e=.returned (.tuple #[aj tb,af 0])/\uA w' w.heap.size w'.heap.size tb l.length l/\Below w.heap.size w w':=
 (JF a c l w j k m hu).mono fun e w' ⟨tb,fb,V,i,b,h⟩=>by
  have g:(ids l).Nodup:=by unfold lH at hu;simpa using hu
  have f:=fT g;have hid:(ids (eP l)).Nodup:=((dN l).map _).nodup_iff.2 g;have d:(eP l).length=l.length:=(dN l).length_eq;rw[d]at b;exact⟨tb,i,⟨fb,_,_,V,b,(KF f hid).1,(Mi f hid).trans (dN l),d,aa⟩,h⟩
theorem Tq (h:uA w lo hi tb n0 l) (x1 x2 y:Int):
  aK 41 #[aj tb,af x1,af x2,af y] w fun e w'=>∃v,∃c:Nat,e=.returned (.tuple #[v,af (c:Nat)])/\((xe l x1 x2 y).length<=c/\c<=2*(xe l x1 x2 y).length+KQ n0)/\w'.ownsRow w.heap.size 27 1 v (xe l x1 x2 y).length ((xe l x1 x2 y).map (Value.int .u32))/\Below w.heap.size w w':=by
 have⟨fb,R,h,V,j,a,k,m,p⟩:=h;refine(Jz j a aa x1 x2 y).mono ?_;rintro e w' ⟨v,o,g,n⟩;have d:(ny true R h x1 x2 y).1=yM R h x1 x2 y:=by rw[KH a true x1 x2 y];simp
 have⟨i,f⟩:=Jq k x1 x2 y;have b:=DF a aa true x1 x2 y;rw[d,f,m]at b;rw[d,i,f]at g;refine⟨v,_,o,⟨b.1,?_⟩,g,n⟩;have:=b.2;unfold KQ;simp only[gK]at this;omega
end
end
end Go.Proofs.YtkjdbndekceffaaGreat
