/- Made small by a program. -/
import Derived.Test.YtkjdbndekceffaaGreatY11
set_option linter.unusedSimpArgs false
set_option linter.unusedVariables false
set_option maxRecDepth 100000
set_option maxHeartbeats 16000000
namespace Go.Proofs.YtkjdbndekceffaaGreat
open Tryz
section
open Go Go.RowKit
abbrev iI:=Nat->Option Nat
def gz (h:iI) (k:Nat) (v:Option Nat):iI:=fun j=>if j=k then v else h j
theorem fU (h:iI) (k:Nat) (v:Option Nat):gz h k v k=v:=by simp[gz]
theorem iq {h:iI} {k j:Nat} {v:Option Nat} (e:j≠k):gz h k v j=h j:=by simp[gz,e]
def held (h:iI):FT->Nat->List Nat
 |.leaf _,s=>(h s).toList
 |.node l r,s=>(h ((FT.node l r).root s)).toList++(held h l s++held h r (s+l.size))
theorem bL {h h':iI}:∀(t:FT) (s:Nat),(∀k,s<=k->k<s+t.size->h' k=h k)->held h' t s=held h t s
 |.leaf a,s,e=>by
  show(h' s).toList=(h s).toList;rw[e s (aB _) (by simp[FT.size])]
 |.node l r,s,e=>by
  have f:(FT.node l r).size=l.size+r.size+1:=rfl;have d:(FT.node l r).root s=s+(l.size+r.size+1)-1:=rfl;simp only[held];rw[e _ aa aa,bL l s (fun k b c=>e k b aa),bL r _ (fun k b c=>e k aa aa)]
theorem o8 {h:iI} {t:FT} {s i:Nat} (e:h (t.root s)=some i):∃L,held h t s=i::L:=by
 cases t with
 |leaf a=>exact⟨[],by show(h s).toList=_;rw[show h s=some i from e];rfl⟩
 |node l r=>exact⟨_,by simp only[held];rw[e];rfl⟩
theorem o9 {h:iI}:∀(t:FT) (s:Nat),(∀k,s<=k->k<s+t.size->h k=none)->held h t s=[]
 |.leaf a,s,e=>by
  show(h s).toList=[];rw[e s (aB _) (by simp[FT.size])];rfl
 |.node l r,s,e=>by
  have f:(FT.node l r).size=l.size+r.size+1:=rfl;have d:(FT.node l r).root s=s+(l.size+r.size+1)-1:=rfl;simp only[held];rw[e _ aa aa,o9 l s (fun k b c=>e k b aa),o9 r _ (fun k b c=>e k aa aa)];rfl
def gT (lt:Nat->Nat->Prop) (h:iI):FT->Nat->Prop
 |.leaf a,s=>∀i,h s=some i->i=a
 |.node l r,s=>(∀i,h ((FT.node l r).root s)=some i->(l.lo<=i/\i<r.hi)/\(∀j,j∈held h l s->lt i j)/\∀j,j∈held h r (s+l.size)->lt i j)/\
   (h ((FT.node l r).root s)=none->held h l s=[]/\held h r (s+l.size)=[])/\gT lt h l s/\gT lt h r (s+l.size)
section
variable {lt:Nat->Nat->Prop} {h h':iI}
theorem gT.congr:∀{t:FT} {s:Nat},(∀k,s<=k->k<s+t.size->h' k=h k)->gT lt h t s->gT lt h' t s
 |.leaf a,s,e,g=>by
  intro i hi;rw[e s (aB _) (by simp[FT.size])]at hi;exact g i hi
 |.node l r,s,e,g=>by
  have o:(FT.node l r).size=l.size+r.size+1:=rfl;have n:(FT.node l r).root s=s+(l.size+r.size+1)-1:=rfl;have c:=fun k (b:s<=k) (f:k<s+l.size)=>e k b aa;have d:=fun k (b:s+l.size<=k) (f:k<s+l.size+r.size)=>e k aa aa;have⟨b,f,j,m⟩:=g;refine⟨?_,?_,j.congr c,m.congr d⟩
  .rw[e _ aa aa,bL l s c,bL r _ d];exact b
  .rw[e _ aa aa,bL l s c,bL r _ d];exact f
theorem gT.span:∀{t:FT} {s:Nat},t.wf->gT lt h t s->∀i∈held h t s,t.lo<=i/\i<t.hi
 |.leaf a,s,b,c,i,hi=>by
  have:=c i (by simpa[held]using hi);subst this;simp[FT.lo,FT.hi]
 |.node l r,s,b,c,i,hi=>by
  have⟨d,g,e,f⟩:=c;have j:=FT.eY l b.1;have k:=FT.eY r b.2.1;have m:=b.2.2;simp only[held,bO,Am]at hi;show l.lo<=i/\i<r.hi;rcases hi with hi|hi|hi
  .exact(d i hi).1
  .have:=e.span b.1 i hi;omega
  .have:=f.span b.2.1 i hi;omega
theorem gT.empty:∀{t:FT} {s:Nat},gT lt h t s->h (t.root s)=none->held h t s=[]
 |.leaf a,s,b,e=>by show(h s).toList=[];rw[show h s=none from e];rfl
 |.node l r,s,b,e=>by
  obtain⟨g,f,i,j⟩:=b;obtain⟨c,d⟩:=f e;simp only[held];rw[e,c,d];rfl
theorem gT.first:∀{t:FT} {s i:Nat},gT lt h t s->h (t.root s)=some i->∀j∈held h t s,j=i\/lt i j
 |.leaf a,s,i,c,e,j,hj=>by
  left;have:h s=some j:=by simpa[held]using hj
  rw[show h s=some i from e]at this;injection this with this;exact this.symm
 |.node l r,s,i,c,e,j,hj=>by
  have⟨b,d,f,g⟩:=c;simp only[held,bO,Am]at hj;rcases hj with hj|hj|hj
  .rw[e]at hj;injection hj with hj;exact .inl hj.symm
  .exact .inr ((b i e).2.1 j hj)
  .exact .inr ((b i e).2.2 j hj)
theorem gT.none:∀(t:FT) (s:Nat),(∀k,s<=k->k<s+t.size->h k=Option.none)->gT lt h t s
 |.leaf a,s,e=>by
  intro i hi;rw[e s (aB _) (by simp[FT.size])]at hi;cases hi
 |.node l r,s,e=>by
  have j:(FT.node l r).size=l.size+r.size+1:=rfl;have g:(FT.node l r).root s=s+(l.size+r.size+1)-1:=rfl;have b:=fun k (d:s<=k) (f:k<s+l.size)=>e k d aa;have c:=fun k (d:s+l.size<=k) (f:k<s+l.size+r.size)=>e k aa aa;refine⟨fun i hi=>?_,fun _=>⟨o9 l s b,o9 r _ c⟩,gT.none l s b,gT.none r _ c⟩;rw[e _ aa aa]at hi;cases hi
end
def fillH:FT->Nat->List Nat->iI->iI
 |.leaf _,s,L,h=>match L with
  |[]=>h
  |i::_=>gz h s (some i)
 |.node l r,s,L,h=>match L with
  |[]=>h
  |i::L=>fillH r (s+l.size) (L.filter fun j=>!decide (j<l.hi)) (fillH l s (L.filter fun j=>decide (j<l.hi)) (gz h ((FT.node l r).root s) (some i)))
theorem yH (t:FT) (s:Nat) (h:iI):fillH t s [] h=h:=by cases t<;>rfl
theorem tK:∀(t:FT) (s:Nat) (L:List Nat) (h:iI) (k:Nat),(k<s\/s+t.size<=k)->fillH t s L h k=h k
 |.leaf a,s,[],h,k,b=>rfl
 |.leaf a,s,i::L,h,k,b=>by
  simp only[FT.size]at b;exact iq aa
 |.node l r,s,[],h,k,b=>rfl
 |.node l r,s,i::L,h,k,b=>by
  have d:(FT.node l r).size=l.size+r.size+1:=rfl;have c:(FT.node l r).root s=s+(l.size+r.size+1)-1:=rfl;simp only[fillH];rw[tK r _ _ _ k aa,tK l _ _ _ k aa];exact iq aa
theorem vL {lt:Nat->Nat->Prop}:∀(t:FT) (s:Nat) (L:List Nat) (h:iI),t.wf->L.Pairwise lt->L.Nodup->(∀i∈L,t.lo<=i/\i<t.hi)->(∀k,s<=k->k<s+t.size->h k=none)->
  gT lt (fillH t s L h) t s/\(held (fillH t s L h) t s).Perm L
 |t,s,[],h,m,f,o,p,n=>by
  rw[yH];exact⟨gT.none t s n,by rw[o9 t s n]⟩
 |.leaf a,s,i::L,h,m,f,o,p,n=>by
  simp only[FT.lo,FT.hi]at p;have P:i=a:=by have:=p i aA;omega
  have M:L=[]:=by
   cases L with
   |nil=>rfl
   |cons j L=>
    have:=p j aA;have:i≠j:=(mH.1 o).1|>fun h e=>h (by simp[e]);omega
  subst P M;refine⟨fun j b=>?_,?_⟩
  .simp only[fillH,fU]at b;injection b with b;exact b.symm
  .show((gz h s (some i)) s).toList.Perm _;rw[fU];exact nS _
 |.node l r,s,i::L,h,m,f,o,p,n=>by
  have R:(FT.node l r).size=l.size+r.size+1:=rfl;have Q:(FT.node l r).root s=s+(l.size+r.size+1)-1:=rfl;have S:=FT.eY l m.1;have T:=FT.eY r m.2.1;have U:=m.2.2;rw[lT]at f;rw[mH]at o;have z:∀j∈i::L,l.lo<=j/\j<r.hi:=p;simp only[fillH];generalize I:gz h ((FT.node l r).root s) (some i)=c;have C:∀k,k≠(FT.node l r).root s->c k=h k:=fun k g=>by rw[<-I];exact iq g
  have K:c ((FT.node l r).root s)=some i:=by rw[<-I];exact fU _ _ _
  generalize v:L.filter (fun j=>decide (j<l.hi))=A;generalize w:L.filter (fun j=>!decide (j<l.hi))=B;have G:∀j,j∈A↔j∈L/\j<l.hi:=fun j=>by rw[<-v];simp
  have H:∀j,j∈B↔j∈L/\¬j<l.hi:=fun j=>by rw[<-w];simp
  have q:=vL (lt:=lt) l s A c m.1 (by rw[<-v];exact f.2.filter _) (by rw[<-v];exact o.2.filter _) (fun j b=>by have:=(G j).1 b;have:=z j (kX _ this.1);omega) (fun k c d=>by rw[C k aa];exact n k c aa);generalize N:fillH l s A c=d at q |-;have D:∀k,(k<s\/s+l.size<=k)->d k=c k:=fun k g=>by rw[<-N];exact tK l s A c k g
  have u:=vL (lt:=lt) r (s+l.size) B d m.2.1 (by rw[<-w];exact f.2.filter _) (by rw[<-w];exact o.2.filter _) (fun j b=>by have:=(H j).1 b;have:=z j (kX _ this.1);omega) (fun k c d=>by rw[D k aa,C k aa];exact n k aa aa);generalize O:fillH r (s+l.size) B d=y at u |-;have E:∀k,(k<s+l.size\/s+l.size+r.size<=k)->y k=d k:=fun k g=>by rw[<-O];exact tK r _ B d k g
  have F:∀k,s<=k->k<s+l.size->y k=d k:=fun k _ g=>E k (.inl g);have x:y ((FT.node l r).root s)=some i:=by rw[E _ aa,D _ aa,K]
  have J:=bL l s F;have hp:(A++B).Perm L:=by rw[<-v,<-w];exact List.filter_append_perm _ L
  refine⟨⟨fun j b=>?_,fun b=>?_,q.1.congr F,u.1⟩,?_⟩
  .rw[x]at b;injection b with b;subst b;refine⟨z i aA,fun j b=>?_,fun j b=>?_⟩
   .rw[J]at b;exact f.1 j ((G j).1 ((q.2.mem_iff).1 b)).1
   .exact f.1 j ((H j).1 ((u.2.mem_iff).1 b)).1
  .rw[x]at b;cases b
  .simp only[held];rw[x,J];exact((q.2.append u.2).trans hp).cons i
def downG (more:Bool) (h:iI) (yv:Nat->Int) (y:Int) (fr ub:Nat):FT->Nat->List Nat×Nat×Bool
 |.leaf a,s=>match h s with
  |none=>([],1,true)
  |some i=>if y<yv i\/a+1<=fr\/ub<=a then([],1,true)else if fr<=i/\i<ub then([i],1,more)else([],1,true)
 |.node l r,s=>match h ((FT.node l r).root s)with
  |none=>([],1,true)
  |some i=>if y<yv i\/r.hi<=fr\/ub<=l.lo then([],1,true)else
   if(fr<=i/\i<ub)/\more=false then([i],1,false)else
   ((if fr<=i/\i<ub then[i]else[])++(downG more h yv y fr ub l s).1++(if(downG more h yv y fr ub l s).2.2 then(downG more h yv y fr ub r (s+l.size)).1 else[]),
    1+(downG more h yv y fr ub l s).2.1+(if(downG more h yv y fr ub l s).2.2 then(downG more h yv y fr ub r (s+l.size)).2.1 else 0),
    (downG more h yv y fr ub l s).2.2&&(downG more h yv y fr ub r (s+l.size)).2.2)
def zm (yv:Nat->Int) (y:Int) (fr ub i:Nat):Bool:=decide (fr<=i/\i<ub/\yv i<=y)
section
variable {lt:Nat->Nat->Prop} {h:iI} {yv:Nat->Int} {y:Int} {fr ub:Nat}
theorem ng {more:Bool} {t:FT} {s:Nat} (e:h (t.root s)=none):downG more h yv y fr ub t s=([],1,true):=by
 cases t with
 |leaf a=>have b:h s=none:=e;simp only[downG];rw[b]
 |node l r=>simp only[downG];rw[e]
theorem mr {more:Bool} {t:FT} {s i:Nat} (e:h (t.root s)=some i) (hp:y<yv i\/t.hi<=fr\/ub<=t.lo):downG more h yv y fr ub t s=([],1,true):=by
 cases t with
 |leaf a=>
  have c:h s=some i:=e;have b:y<yv i\/a+1<=fr\/ub<=a:=hp;simp only[downG];rw[c];simp only;rw[aO b]
 |node l r=>
  have b:y<yv i\/r.hi<=fr\/ub<=l.lo:=hp;simp only[downG];rw[e];simp only;rw[aO b]
theorem vM {more:Bool} {a s i:Nat} (e:h s=some i) (hp:¬(y<yv i\/a+1<=fr\/ub<=a)):downG more h yv y fr ub (.leaf a) s=(if fr<=i/\i<ub then[i]else[],1,!(decide (fr<=i/\i<ub)&&!more)):=by
 simp only[downG];rw[e];simp only;rw[aM hp];by_cases b:fr<=i/\i<ub
 .rw[aO b,aO b];simp[b]
 .rw[aM b,aM b];simp[b]
theorem BH {t:FT} {s i:Nat} (e:h (t.root s)=some i) (hp:¬(y<yv i\/t.hi<=fr\/ub<=t.lo)) (b:fr<=i/\i<ub):downG false h yv y fr ub t s=([i],1,false):=by
 cases t with
 |leaf a=>
  have c:h s=some i:=e;rw[vM c hp];simp[b]
 |node l r=>
  have d:¬(y<yv i\/r.hi<=fr\/ub<=l.lo):=hp;simp only[downG];rw[e];simp only;rw[aM d];simp[b]
theorem BI {more:Bool} {l r:FT} {s i:Nat} (e:h ((FT.node l r).root s)=some i) (hp:¬(y<yv i\/r.hi<=fr\/ub<=l.lo)) (b:(decide (fr<=i/\i<ub)&&!more)=false):downG more h yv y fr ub (.node l r) s=
   ((if fr<=i/\i<ub then[i]else[])++(downG more h yv y fr ub l s).1++(if(downG more h yv y fr ub l s).2.2 then(downG more h yv y fr ub r (s+l.size)).1 else[]),
    1+(downG more h yv y fr ub l s).2.1+(if(downG more h yv y fr ub l s).2.2 then(downG more h yv y fr ub r (s+l.size)).2.1 else 0),
    (downG more h yv y fr ub l s).2.2&&(downG more h yv y fr ub r (s+l.size)).2.2):=by
 have c:¬((fr<=i/\i<ub)/\more=false):=fun a=>by
  rw[a.2]at b;simp[a.1]at b
 conv=>lhs;simp only[downG]
 rw[e];simp only;rw[aM hp,aM c]
theorem OM {more:Bool} {t:FT} {s i:Nat} (e:h (t.root s)=some i) (hp:¬(y<yv i\/t.hi<=fr\/ub<=t.lo)) (b:fr<=i/\i<ub):[i] <+: (downG more h yv y fr ub t s).1:=by
 cases t with
 |leaf a=>
  have c:h s=some i:=e;rw[vM c hp,aO b];exact List.prefix_rfl
 |node l r=>
  cases more with
  |false=>rw[BH e hp b];exact List.prefix_rfl
  |true=>
   rw[BI e hp aA,aO b,dY];exact List.prefix_append _ _
theorem Fg {t:FT} {s i:Nat} (d:t.wf) (b:gT lt h t s) (c:∀i j,lt i j->yv i<=yv j) (e:h (t.root s)=some i) (hp:y<yv i\/t.hi<=fr\/ub<=t.lo):(held h t s).filter (zm yv y fr ub)=[]:=by
 refine uD.2 fun j a=>?_;have f:=b.span d j a;have g:yv i<=yv j:=by
  rcases b.first e j a with h3|h3
  .rw[h3];exact vz _
  .exact c _ _ h3
 unfold zm;simp only[bN];omega
theorem vN (f:∀i j,lt i j->yv i<=yv j):∀(t:FT) (s:Nat),t.wf->gT lt h t s->(downG true h yv y fr ub t s).1=(held h t s).filter (zm yv y fr ub)/\(downG true h yv y fr ub t s).2.2=true
 |.leaf a,s,d,b=>by
  cases e:h s with
  |none=>rw[ng (t:=.leaf a) e,b.empty e];exact⟨rfl,rfl⟩
  |some i=>
   by_cases hp:y<yv i\/(FT.leaf a).hi<=fr\/ub<=(FT.leaf a).lo
   .rw[mr (t:=.leaf a) e hp,Fg d b f e hp];exact⟨rfl,rfl⟩
   .have w:=b i e;simp only[downG,held];rw[e];have g:¬(y<yv i\/a+1<=fr\/ub<=a):=hp;simp only[aM g,Option.toList];by_cases c:fr<=i/\i<ub
    .rw[aO c];have:zm yv y fr ub i=true:=by unfold zm;simp only[bN];omega
     simp[this]
    .rw[aM c];have:zm yv y fr ub i=false:=by unfold zm;simp only[gY];omega
     simp[this]
 |.node l r,s,d,b=>by
  cases e:h ((FT.node l r).root s)with
  |none=>rw[ng e,b.empty e];exact⟨rfl,rfl⟩
  |some i=>
   by_cases hp:y<yv i\/(FT.node l r).hi<=fr\/ub<=(FT.node l r).lo
   .rw[mr e hp,Fg d b f e hp];exact⟨rfl,rfl⟩
   .obtain⟨u,v,k,m⟩:=b;have⟨n,o⟩:=vN f l s d.1 k;have⟨p,q⟩:=vN f r _ d.2.1 m;have g:¬(y<yv i\/r.hi<=fr\/ub<=l.lo):=hp;simp only[downG,held];rw[e];simp only[aM g,n,o,p,q,Option.toList,lU,lW,Et];by_cases c:fr<=i/\i<ub
    .have:zm yv y fr ub i=true:=by unfold zm;simp only[bN];omega
     simp[this,c]
    .have:zm yv y fr ub i=false:=by unfold zm;simp only[gY];omega
     simp[this,c]
theorem Mh {α:Type} {a b:List α} (h:a≠[]):(a++b).take 1=a.take 1:=by
 cases a with
 |nil=>exact absurd rfl h
 |cons x a=>rfl
theorem yI (g:∀i j,lt i j->yv i<=yv j):∀(t:FT) (s:Nat),t.wf->gT lt h t s->(downG false h yv y fr ub t s).1=((held h t s).filter (zm yv y fr ub)).take 1/\((downG false h yv y fr ub t s).2.2=true↔(held h t s).filter (zm yv y fr ub)=[])
 |.leaf a,s,d,b=>by
  cases e:h s with
  |none=>rw[ng (t:=.leaf a) e,b.empty e];simp
  |some i=>
   by_cases hp:y<yv i\/(FT.leaf a).hi<=fr\/ub<=(FT.leaf a).lo
   .rw[mr (t:=.leaf a) e hp,Fg d b g e hp];simp
   .have A:=b i e;simp only[downG,held];rw[e];have m:¬(y<yv i\/a+1<=fr\/ub<=a):=hp;simp only[aM m,Option.toList];by_cases c:fr<=i/\i<ub
    .rw[aO c];have:zm yv y fr ub i=true:=by unfold zm;simp only[bN];omega
     simp[this]
    .rw[aM c];have:zm yv y fr ub i=false:=by unfold zm;simp only[gY];omega
     simp[this]
 |.node l r,s,d,b=>by
  cases e:h ((FT.node l r).root s)with
  |none=>rw[ng e,b.empty e];simp
  |some i=>
   by_cases hp:y<yv i\/(FT.node l r).hi<=fr\/ub<=(FT.node l r).lo
   .rw[mr e hp,Fg d b g e hp];simp
   .obtain⟨x,z,o,p⟩:=b;have⟨u,n⟩:=yI g l s d.1 o;have⟨v,w⟩:=yI g r _ d.2.1 p;have m:¬(y<yv i\/r.hi<=fr\/ub<=l.lo):=hp;simp only[downG,held];rw[e];simp only[aM m,Option.toList,lU,lW,Et];by_cases c:fr<=i/\i<ub
    .have:zm yv y fr ub i=true:=by unfold zm;simp only[bN];omega
     simp[this,c]
    .have:zm yv y fr ub i=false:=by unfold zm;simp only[gY];omega
     simp only[c,false_and,jO,this,fO,u,v];cases k:(downG false h yv y fr ub l s).2.2 with
     |true=>
      have f:=n.1 k;simp only[gN,Bool.true_and,f,List.take_nil,fO];exact⟨rfl,w⟩
     |false=>
      have f:(held h l s).filter (zm yv y fr ub)≠[]:=fun q=>by rw[n.2 q]at k;cases k
      simp[f];exact(Mh f).symm
theorem vO (more:Bool):∀(t:FT) (s:Nat),(downG more h yv y fr ub t s).1.length<=(downG more h yv y fr ub t s).2.1
 |.leaf a,s=>by
  simp only[downG];split
  .simp
  .split
   .simp
   .split<;>simp
 |.node l r,s=>by
  have b:=vO more l s;have c:=vO more r (s+l.size);simp only[downG];split
  .simp
  .split
   .simp
   .split
    .simp
    .simp only[bQ];split<;>split<;>simp<;>omega
theorem qG (more:Bool):∀(t:FT) (s:Nat),(downG more h yv y fr ub t s).2.1<=t.size
 |.leaf a,s=>by
  simp only[downG];split
  .simp[FT.size]
  .split
   .simp[FT.size]
   .split<;>simp[FT.size]
 |.node l r,s=>by
  have b:=qG more l s;have c:=qG more r (s+l.size);have d:(FT.node l r).size=l.size+r.size+1:=rfl;simp only[downG];split
  .simp;omega
  .split
   .simp;omega
   .split
    .simp;omega
    .simp only;split<;>omega
theorem tL {more:Bool} {m:Nat} (c:m=if more then 2 else 0):∀(t:FT) (s:Nat),t.wf->gT lt h t s->fr<=t.lo->t.hi<=ub->(downG more h yv y fr ub t s).2.1<=m*(downG more h yv y fr ub t s).1.length+1
 |.leaf a,s,b,d,f,g=>by
  simp only[downG];split
  .simp
  .split
   .simp
   .split<;>simp
 |.node l r,s,b,d,f,g=>by
  have k:(FT.node l r).lo=l.lo/\(FT.node l r).hi=r.hi:=⟨rfl,rfl⟩;have q:=FT.eY l b.1;have u:=FT.eY r b.2.1;have v:=b.2.2;cases e:h ((FT.node l r).root s)with
  |none=>rw[ng e];simp
  |some i=>
   have n:=(d.1 i e).1;have j:fr<=i/\i<ub:=aa;simp only[downG];rw[e];simp only;split
   .simp
   .cases more with
    |false=>simp[j]
    |true=>
     have o:=tL c l s b.1 d.2.2.1 aa aa;have p:=tL c r (s+l.size) b.2.1 d.2.2.2 aa aa;simp only[gN]at c;subst c;rw[aM aA];simp only[bQ,ed,fC];split
     .first|omega|(simp only[bQ,ed,fC];omega)
     .first|omega|(simp only[bQ,ed,fC];omega)
theorem tN {more:Bool} {t:FT} {s:Nat} (hp:t.hi<=fr\/ub<=t.lo):downG more h yv y fr ub t s=([],1,true):=by
 cases e:h (t.root s)with
 |none=>exact ng e
 |some i=>exact mr e (.inr hp)
theorem tO {more:Bool} {m:Nat} (e:m=if more then 2 else 0):∀(t:FT) (s:Nat),t.wf->gT lt h t s->fr<=t.lo\/t.hi<=ub->(downG more h yv y fr ub t s).2.1<=m*(downG more h yv y fr ub t s).1.length+2*t.ht+1
 |.leaf a,s,b,c,hh=>by
  simp only[downG];split
  .simp
  .split
   .simp
   .split<;>simp
 |.node l r,s,b,c,hh=>by
  have B:(FT.node l r).lo=l.lo/\(FT.node l r).hi=r.hi:=⟨rfl,rfl⟩;have C:=FT.eY l b.1;have D:=FT.eY r b.2.1;have E:=b.2.2;have f:=tO e l s b.1 c.2.2.1;have g:=tO e r (s+l.size) b.2.1 c.2.2.2;have al:=tL (y:=y) (yv:=yv) (fr:=fr) (ub:=ub) e l s b.1 c.2.2.1;have j:=tL (y:=y) (yv:=yv) (fr:=fr) (ub:=ub) e r (s+l.size) b.2.1 c.2.2.2;have key:(downG more h yv y fr ub l s).2.1+(downG more h yv y fr ub r (s+l.size)).2.1<=m*(downG more h yv y fr ub l s).1.length+m*(downG more h yv y fr ub r (s+l.size)).1.length+2*(max l.ht r.ht)+2/\(downG more h yv y fr ub l s).2.1<=m*(downG more h yv y fr ub l s).1.length+2*(max l.ht r.ht)+1:=by
   rcases hh with hh|hh
   .have f:=f (.inl aa);by_cases q:l.hi<=ub
    .have al:=al aa q;have g:=g (.inl aa);omega
    .rw[tN (t:=r) (.inr aa)];simp only[fC];omega
   .have g:=g (.inr aa);by_cases p:fr<=r.lo
    .have j:=j p aa;have f:=f (.inr aa);omega
    .rw[tN (t:=l) (.inl aa)];simp only[fC];omega
  simp only[downG,FT.ht];generalize downG more h yv y fr ub l s=n at*;generalize downG more h yv y fr ub r (s+l.size)=o at*;have⟨d,x,k⟩:=n;have⟨i,z,w⟩:=o;simp only at key |-;split
  .simp
  .split
   .simp
   .split
    .simp
    .have u:∀A:List Nat,m*(A++d++i).length=m*A.length+m*d.length+m*i.length:=fun A=>by rw[bQ,bQ,jc,jc]
     have v:∀A:List Nat,m*(A++d).length=m*A.length+m*d.length:=fun A=>by rw[bQ,jc]
     cases k with
     |true=>simp only[gN];rw[u];omega
     |false=>simp only[qP,jO,iL];rw[v];omega
theorem vP {more:Bool} {m:Nat} (e:m=if more then 2 else 0):∀(t:FT) (s:Nat),t.wf->gT lt h t s->(downG more h yv y fr ub t s).2.1<=m*(downG more h yv y fr ub t s).1.length+4*t.ht+1
 |.leaf a,s,b,c=>by
  simp only[downG];split
  .simp
  .split
   .simp
   .split<;>simp
 |.node l r,s,b,c=>by
  have z:(FT.node l r).lo=l.lo/\(FT.node l r).hi=r.hi:=⟨rfl,rfl⟩;have D:=FT.eY l b.1;have E:=FT.eY r b.2.1;have F:=b.2.2;have B:=vP e l s b.1 c.2.2.1;have C:=vP e r (s+l.size) b.2.1 c.2.2.2;have g:=tO (y:=y) (yv:=yv) (fr:=fr) (ub:=ub) e l s b.1 c.2.2.1;have i:=tO (y:=y) (yv:=yv) (fr:=fr) (ub:=ub) e r (s+l.size) b.2.1 c.2.2.2;have key:(downG more h yv y fr ub l s).2.1+(downG more h yv y fr ub r (s+l.size)).2.1<=m*(downG more h yv y fr ub l s).1.length+m*(downG more h yv y fr ub r (s+l.size)).1.length+4*(max l.ht r.ht)+2/\(downG more h yv y fr ub l s).2.1<=m*(downG more h yv y fr ub l s).1.length+4*(max l.ht r.ht)+1:=by
   refine⟨?_,aa⟩;by_cases p:ub<=r.lo
   .rw[tN (t:=r) (.inr p)];simp only[fC];omega
   .by_cases o:l.hi<=fr
    .rw[tN (t:=l) (.inl o)];simp only[fC];omega
    .have g:=g (.inr aa);have i:=i (.inl aa);omega
  simp only[downG,FT.ht];generalize downG more h yv y fr ub l s=k at*;generalize downG more h yv y fr ub r (s+l.size)=n at*;have⟨d,w,j⟩:=k;have⟨f,x,v⟩:=n;simp only at key |-;split
  .simp
  .split
   .simp
   .split
    .simp
    .have q:∀A:List Nat,m*(A++d++f).length=m*A.length+m*d.length+m*f.length:=fun A=>by rw[bQ,bQ,jc,jc]
     have u:∀A:List Nat,m*(A++d).length=m*A.length+m*d.length:=fun A=>by rw[bQ,jc]
     cases j with
     |true=>simp only[gN];rw[q];omega
     |false=>simp only[qP,jO,iL];rw[u];omega
end
def pullH (lb:Nat->Nat->Bool):FT->Nat->iI->iI
 |.leaf _,s,h=>gz h s none
 |.node l r,s,h=>match h (l.root s),h (r.root (s+l.size))with
  |none,none=>gz h ((FT.node l r).root s) none
  |some i,none=>pullH lb l s (gz h ((FT.node l r).root s) (some i))
  |none,some j=>pullH lb r (s+l.size) (gz h ((FT.node l r).root s) (some j))
  |some i,some j=>if lb i j then pullH lb l s (gz h ((FT.node l r).root s) (some i))else pullH lb r (s+l.size) (gz h ((FT.node l r).root s) (some j))
structure Ord (lt:Nat->Nat->Prop) (lb:Nat->Nat->Bool) (n:Nat):Prop where
 tr:∀i j k,lt i j->lt j k->lt i k
 CQ:∀i j,i<n->j<n->i≠j->lt i j\/lt j i
 dec:∀i j,lb i j=true↔lt i j
section
variable {lt:Nat->Nat->Prop} {lb:Nat->Nat->Bool} {n:Nat}
theorem jF:∀(t:FT) (s:Nat) (h:iI) (k:Nat),(k<s\/s+t.size<=k)->pullH lb t s h k=h k
 |.leaf a,s,h,k,b=>by
  simp only[FT.size]at b;exact iq aa
 |.node l r,s,h,k,b=>by
  have d:(FT.node l r).size=l.size+r.size+1:=rfl;have c:(FT.node l r).root s=s+(l.size+r.size+1)-1:=rfl;have hu:∀v,gz h ((FT.node l r).root s) v k=h k:=fun v=>iq aa;simp only[pullH];cases h (l.root s)<;>cases h (r.root (s+l.size))<;>simp only
  .exact hu _
  .rw[jF r _ _ k aa,hu]
  .rw[jF l s _ k aa,hu]
  .split
   .rw[jF l s _ k aa,hu]
   .rw[jF r _ _ k aa,hu]
theorem zR {l r:FT} {s i:Nat} {h b:iI} (m:(FT.node l r).wf)
  (c:b ((FT.node l r).root s)=some i) (g:gT lt b l s) (k:gT lt b r (s+l.size)) (f:l.lo<=i/\i<r.hi)
  (d:∀j∈held b l s,lt i j) (e:∀j∈held b r (s+l.size),lt i j):gT lt b (.node l r) s:=
 ⟨fun j a=>by
  rw[c]at a;injection a with a;subst a;exact⟨f,d,e⟩,(fun a=>by rw[c]at a;cases a),g,k⟩
theorem qH (O:Ord lt lb n):∀(t:FT) (s:Nat) (h:iI) (x:Nat),t.wf->t.hi<=n->gT lt h t s->h (t.root s)=some x->(held h t s).Nodup->
  gT lt (pullH lb t s h) t s/\(x::held (pullH lb t s h) t s).Perm (held h t s)
 |.leaf a,s,h,x,c,ac,ag,e,V=>by
  have ah:h s=some x:=e;refine⟨fun i hi=>?_,?_⟩
  .simp only[pullH,fU]at hi;cases hi
  .show(x::((gz h s none) s).toList).Perm (h s).toList;rw[fU,ah];exact nS _
 |.node l r,s,h,x,c,ac,ag,e,V=>by
  have au:(FT.node l r).size=l.size+r.size+1:=rfl;have ar:(FT.node l r).root s=s+(l.size+r.size+1)-1:=rfl;have av:l.root s=s+l.size-1:=rfl;have aC:r.root (s+l.size)=s+l.size+r.size-1:=rfl;have pl:=l.size_pos;have ax:=r.size_pos;have ay:=FT.eY l c.1;have az:=FT.eY r c.2.1;have aB:=c.2.2;have aq:r.hi<=n:=ac;have⟨Z,ab,q,u⟩:=ag;have ak:held h (.node l r) s=x::(held h l s++held h r (s+l.size)):=by simp only[held];rw[e];rfl
  rw[ak]at V |-;have ad:=(mH.1 V).2;rw[pJ]at ad;have⟨ae,af,aw⟩:=ad;have hu:∀v k,k≠(FT.node l r).root s->gz h ((FT.node l r).root s) v k=h k:=fun v k z=>iq z;have U:∀v,gz h ((FT.node l r).root s) v ((FT.node l r).root s)=v:=fun v=>fU _ _ _;have S:∀v,∀k,s<=k->k<s+l.size->gz h ((FT.node l r).root s) v k=h k:=fun v k Z ab=>hu v k aa;have T:∀v,∀k,s+l.size<=k->k<s+l.size+r.size->gz h ((FT.node l r).root s) v k=h k:=fun v k Z ab=>hu v k aa;have X:∀i,h (l.root s)=some i->(∀j∈held h r (s+l.size),lt i j)->
    gT lt (pullH lb l s (gz h ((FT.node l r).root s) (some i))) (.node l r) s/\(x::held (pullH lb l s (gz h ((FT.node l r).root s) (some i))) (.node l r) s).Perm (x::(held h l s++held h r (s+l.size))):=fun i m R=>by
   have A:=U (some i);have o:=S (some i);have p:=T (some i);have I:gz h ((FT.node l r).root s) (some i) (l.root s)=some i:=by rw[hu _ _ aa];exact m
   generalize gz h ((FT.node l r).root s) (some i)=w at*;have P:=bL l s o;have Q:=bL r _ p;have⟨G,d⟩:=qH O l s w i c.1 aa (q.congr o) I (by rw[P];exact ae);have D:=jF (lb:=lb) l s w;generalize pullH lb l s w=y at*;rw[P]at d;have K:∀k,s+l.size<=k->k<s+l.size+r.size->y k=h k:=fun k E F=>by rw[D k (.inr E)];exact p k E F
   have B:y ((FT.node l r).root s)=some i:=by rw[D _ aa];exact A
   have W:(i::held y l s).Nodup:=d.nodup_iff.2 ae;have N:i∈held h l s:=d.mem_iff.1 aA;have al:=q.span c.1 i N;refine⟨zR (h:=h) c B G (u.congr K) aa (fun j b=>?_) (fun j b=>?_),?_⟩
   .rcases q.first m j (d.mem_iff.1 (kX _ b))with h9|h9
    .subst h9;exact absurd b (mH.1 W).1
    .exact h9
   .rw[bL r _ K]at b;exact R j b
   .refine List.Perm.cons x ?_;simp only[held];rw[B,bL r _ K];exact d.append_right _
  have Y:∀i,h (r.root (s+l.size))=some i->(∀j∈held h l s,lt i j)->
    gT lt (pullH lb r (s+l.size) (gz h ((FT.node l r).root s) (some i))) (.node l r) s/\(x::held (pullH lb r (s+l.size) (gz h ((FT.node l r).root s) (some i))) (.node l r) s).Perm (x::(held h l s++held h r (s+l.size))):=fun i m R=>by
   have A:=U (some i);have o:=S (some i);have p:=T (some i);have I:gz h ((FT.node l r).root s) (some i) (r.root (s+l.size))=some i:=by rw[hu _ _ aa];exact m
   generalize gz h ((FT.node l r).root s) (some i)=w at*;have P:=bL l s o;have Q:=bL r _ p;have⟨G,d⟩:=qH O r (s+l.size) w i c.2.1 aa (u.congr p) I (by rw[Q];exact af);have D:=jF (lb:=lb) r (s+l.size) w;generalize pullH lb r (s+l.size) w=y at*;rw[Q]at d;have J:∀k,s<=k->k<s+l.size->y k=h k:=fun k E F=>by rw[D k (.inl F)];exact o k E F
   have B:y ((FT.node l r).root s)=some i:=by rw[D _ aa];exact A
   have W:(i::held y r (s+l.size)).Nodup:=d.nodup_iff.2 af;have N:i∈held h r (s+l.size):=d.mem_iff.1 aA;have al:=u.span c.2.1 i N;refine⟨zR (h:=h) c B (q.congr J) G aa (fun j b=>?_) (fun j b=>?_),?_⟩
   .rw[bL l _ J]at b;exact R j b
   .rcases u.first m j (d.mem_iff.1 (kX _ b))with h9|h9
    .subst h9;exact absurd b (mH.1 W).1
    .exact h9
   .refine List.Perm.cons x ?_;simp only[held];rw[B,bL l _ J];show(i::(held h l s++held y r (s+l.size))).Perm _;exact(List.perm_middle.symm).trans (d.append_left _)
  have am:∀i,h (l.root s)=some i->i<n/\i<l.hi:=fun i m=>by
   have⟨L,H⟩:=o8 m;have:=q.span c.1 i (by rw[H];simp);omega
  have an:∀i,h (r.root (s+l.size))=some i->i<n/\r.lo<=i:=fun i m=>by
   have⟨L,H⟩:=o8 m;have:=u.span c.2.1 i (by rw[H];simp);omega
  simp only[pullH];split
  .rename_i f g;have ao:=q.empty f;have ap:=u.empty g;have A:=U none;have o:=S none;have p:=T none;generalize gz h ((FT.node l r).root s) none=w at*;refine⟨⟨fun j b=>?_,fun _=>?_,q.congr o,u.congr p⟩,?_⟩
   .rw[A]at b;cases b
   .rw[bL l s o,bL r _ p];exact⟨ao,ap⟩
   .refine List.Perm.cons x ?_;simp only[held];rw[A,bL l s o,bL r _ p];exact nS _
  .rename_i i f g;exact X i f (fun j b=>by rw[u.empty g]at b;exact absurd b iA)
  .rename_i j f g;exact Y j g (fun k z=>by rw[q.empty f]at z;exact absurd z iA)
  .rename_i i j f g;split
   .rename_i M;have C:=(O.dec i j).1 M;refine X i f fun k z=>?_;rcases u.first g k z with h9|h9
    .rw[h9];exact C
    .exact O.tr _ _ _ C h9
   .rename_i M;have C:lt j i:=by
     have ai:=am i f;have aj:=an j g;rcases O.CQ i j ai.1 aj.1 aa with h9|h9
     .exact absurd ((O.dec i j).2 h9) M
     .exact h9
    refine Y j g fun k z=>?_;rcases q.first f k z with h9|h9
    .rw[h9];exact C
    .exact O.tr _ _ _ C h9
def dropH (lb:Nat->Nat->Bool):FT->Nat->Nat->iI->iI
 |.leaf a,s,x,h=>pullH lb (.leaf a) s h
 |.node l r,s,x,h=>if h ((FT.node l r).root s)=some x then pullH lb (.node l r) s h else if x<l.hi then dropH lb l s x h else dropH lb r (s+l.size) x h
theorem tQ:∀(t:FT) (s x:Nat) (h:iI) (k:Nat),(k<s\/s+t.size<=k)->dropH lb t s x h k=h k
 |.leaf a,s,x,h,k,b=>jF (.leaf a) s h k b
 |.node l r,s,x,h,k,b=>by
  have c:(FT.node l r).size=l.size+r.size+1:=rfl;simp only[dropH];split
  .exact jF _ s h k b
  .split
   .exact tQ l s x h k aa
   .exact tQ r _ x h k aa
theorem vQ (O:Ord lt lb n):∀(t:FT) (s:Nat) (h:iI) (x:Nat),t.wf->t.hi<=n->gT lt h t s->x∈held h t s->(held h t s).Nodup->
  gT lt (dropH lb t s x h) t s/\(x::held (dropH lb t s x h) t s).Perm (held h t s)
 |.leaf a,s,h,x,b,q,u,z,p=>by
  have e:h s=some x:=by simpa[held]using z
  exact qH O (.leaf a) s h x b q u e p
 |.node l r,s,h,x,b,q,u,z,p=>by
  have V:(FT.node l r).size=l.size+r.size+1:=rfl;have U:(FT.node l r).root s=s+(l.size+r.size+1)-1:=rfl;have pl:=l.size_pos;have X:=r.size_pos;have Y:=FT.eY l b.1;have Z:=FT.eY r b.2.1;have ab:=b.2.2;have T:r.hi<=n:=q;simp only[dropH];split
  .rename_i e;exact qH O _ s h x b q u e p
  .rename_i e;have⟨I,J,A,B⟩:=u;have RQ:=z;simp only[held,bO,Am,e,false_or]at RQ;cases m:h ((FT.node l r).root s)with
   |none=>
    have⟨R,S⟩:=J m;rw[R,S]at RQ;rcases RQ with RQ|RQ<;>exact absurd RQ iA
   |some i=>
    have K:held h (.node l r) s=i::(held h l s++held h r (s+l.size)):=by simp only[held];rw[m];rfl
    rw[K]at p |-;have H:=(mH.1 p).2;rw[pJ]at H;have⟨P,Q,W⟩:=H;have⟨C,D,E⟩:=I i m;split
    .rename_i L;have M:x∈held h l s:=by
      rcases RQ with h9|h9
      .exact h9
      .have:=B.span b.2.1 x h9;omega
     have⟨v,f⟩:=vQ O l s h x b.1 aa A M P;have o:=tQ (lb:=lb) l s x h;generalize dropH lb l s x h=d at*;have y:∀k,s+l.size<=k->k<s+l.size+r.size->d k=h k:=fun k F G=>o k (.inr F);have g:d ((FT.node l r).root s)=some i:=by rw[o _ aa];exact m
     refine⟨zR (h:=h) b g v (B.congr y) C (fun j c=>D j (f.mem_iff.1 (kX _ c))) (fun j c=>by rw[bL r _ y]at c;exact E j c),?_⟩;simp only[held];rw[g,bL r _ y];show(x::i::(held d l s++held h r (s+l.size))).Perm _;exact(List.Perm.swap _ _ _).trans ((f.append_right _).cons i)
    .rename_i L;have N:x∈held h r (s+l.size):=by
      rcases RQ with h9|h9
      .have:=A.span b.1 x h9;omega
      .exact h9
     have⟨v,f⟩:=vQ O r (s+l.size) h x b.2.1 aa B N Q;have o:=tQ (lb:=lb) r (s+l.size) x h;generalize dropH lb r (s+l.size) x h=d at*;have w:∀k,s<=k->k<s+l.size->d k=h k:=fun k F G=>o k (.inl G);have g:d ((FT.node l r).root s)=some i:=by rw[o _ aa];exact m
     refine⟨zR (h:=h) b g (A.congr w) v C (fun j c=>by rw[bL l _ w]at c;exact D j c) (fun j c=>E j (f.mem_iff.1 (kX _ c))),?_⟩;simp only[held];rw[g,bL l _ w];show(x::i::(held h l s++held d r (s+l.size))).Perm _;refine(List.Perm.swap _ _ _).trans (List.Perm.cons i ?_);exact(List.perm_middle.symm).trans (f.append_left _)
theorem yJ:∀(t:FT) (s:Nat) (h:iI) (x:Nat),t.wf->gT lt h t s->t.lo<=x->x<t.hi->
  ((∀k∈t.path s x,h k≠some x)->x∉held h t s)/\
  ∀m k:Nat,(t.path s x)[m]? =some k->h k=some x->(∀i<m,∀k',(t.path s x)[i]? =some k'->h k'≠some x)->∃c b,(c,b)∈t.subs s/\k=c.root b/\dropH lb t s x h=pullH lb c b h
 |.leaf a,s,h,x,n,v,q,u=>by
  refine⟨fun f e=>f s (by simp[FT.path]) (by simpa[held]using e),fun m k g f o=>?_⟩;have J:m=0/\k=s:=by
   cases m with
   |zero=>simp[FT.path]at g;exact⟨rfl,g.symm⟩
   |succ m=>simp[FT.path]at g
  exact⟨.leaf a,s,by simp[FT.subs],by rw[J.2];rfl,rfl⟩
 |.node l r,s,h,x,n,v,q,u=>by
  have Q:=n.2.2;have D:l.lo<=x:=q;have E:x<r.hi:=u;have⟨O,P,w,y⟩:=v;have M:=w.span n.1;have N:=y.span n.2.1;have step:∀(t2:FT) (d:Nat),(FT.node l r).path s x=(FT.node l r).root s::t2.path d x->(∀p∈t2.subs d,p∈(FT.node l r).subs s)->
    (x∈held h (.node l r) s->h ((FT.node l r).root s)≠some x->x∈held h t2 d)->(h ((FT.node l r).root s)≠some x->dropH lb (.node l r) s x h=dropH lb t2 d x h)->
    (((∀k∈t2.path d x,h k≠some x)->x∉held h t2 d)/\∀m k:Nat,(t2.path d x)[m]? =some k->h k=some x->(∀i<m,∀k',(t2.path d x)[i]? =some k'->h k'≠some x)->∃c b,(c,b)∈t2.subs d/\k=c.root b/\dropH lb t2 d x h=pullH lb c b h)->
    ((∀k∈(FT.node l r).path s x,h k≠some x)->x∉held h (.node l r) s)/\
     ∀m k:Nat,((FT.node l r).path s x)[m]? =some k->h k=some x->(∀i<m,∀k',((FT.node l r).path s x)[i]? =some k'->h k'≠some x)->∃c b,(c,b)∈(FT.node l r).subs s/\k=c.root b/\dropH lb (.node l r) s x h=pullH lb c b h:=by
   intro t2 d C L G F ih;rw[C];refine⟨fun f e=>?_,fun m k g f o=>?_⟩
   .exact ih.1 (fun k I=>f k (kX _ I)) (G e (f _ aA))
   .cases m with
    |zero=>
     simp only[fG,jk]at g;subst g;exact⟨.node l r,s,by simp[FT.subs],rfl,by simp only[dropH];rw[aO f]⟩
    |succ m=>
     have K:=o 0 aa ((FT.node l r).root s) aA;have⟨c,b,z,A,B⟩:=ih.2 m k (aP g) f (fun i hi k' H=>o (i+1) aa k' (aP H));exact⟨c,b,L _ z,A,by rw[F K];exact B⟩
  by_cases e:x<l.hi
  .refine step l s (by rw[FT.path,aO e]) (fun p hp=>by simp only[FT.subs,bO];exact .inl (.inl hp)) (fun hh j=>?_) (fun j=>by simp only[dropH];rw[aM j,aO e]) (yJ l s h x n.1 w D e);simp only[held,bO,Am,j,false_or]at hh;rcases hh with hh|hh
   .exact hh
   .have:=N x hh;omega
  .refine step r (s+l.size) (by rw[FT.path,aM e]) (fun p hp=>by simp only[FT.subs,bO];exact .inl (.inr hp)) (fun hh j=>?_) (fun j=>by simp only[dropH];rw[aM j,aM e]) (yJ r _ h x n.2.1 y aa E);simp only[held,bO,Am,j,false_or]at hh;rcases hh with hh|hh
   .have:=M x hh;omega
   .exact hh
end
def zC (R:List Pt) (i j:Nat):Prop:=tX (bU R i) (bU R j)
def CR (R:List Pt) (i j:Nat):Bool:=decide (tX (bU R i) (bU R j))
theorem Jj {R:List Pt} (hu:(ids R).Nodup) {i k:Nat} (hi:i<R.length) (a:k<R.length) (b:i≠k):jI R i≠jI R k:=by
 unfold jI;rw[dE hi,dE a];have hid:=dm.1 hu;rcases Nat.lt_trichotomy i k with h|h|h
 .exact fZ.1 hid i k hi a h
 .exact absurd h b
 .exact fun e=>fZ.1 hid k i a hi h e.symm
theorem Jk {R:List Pt} (hu:(ids R).Nodup):Ord (zC R) (CR R) R.length:=
 ⟨fun i j k h a=>sS h a,fun i j hi c b=>by
  have:=Jj hu hi c b;unfold jI at this;unfold zC tX;omega,fun i j=>by unfold CR zC;simp⟩
def og (R:List Pt) (h:iI):List Nat:=if R.length=0 then[]else held h (dN 0 R.length) 0
theorem nM {R:List Pt} {h:iI} (a:0<R.length):og R h=held h (dN 0 R.length) 0:=by unfold og;rw[aM aa]
structure l9 (R:List Pt) (h:iI):Prop where
 AU:R.Pairwise kH
 ids:(ids R).Nodup
 ok:0<R.length->gT (zC R) h (dN 0 R.length) 0
 jd:(og R h).Nodup
section
variable {R:List Pt} {h:iI} {l:List Pt}
theorem l9.lt (H:l9 R h) {i:Nat} (hi:i∈og R h):i<R.length:=by
 by_cases a:R.length=0
 .unfold og at hi;rw[aO a]at hi;exact absurd hi iA
 .obtain⟨w1,w2,w3⟩:=bK 0 R.length aa;rw[nM aa]at hi;have:=(H.ok aa).span w1 i hi;omega
theorem l9.SL (H:l9 R h):(bS R).Pairwise (·<=·):=dm.2 (H.AU.imp fun h=>by unfold kH at h;omega)
def BJ (R:List Pt):iI:=fillH (dN 0 R.length) 0 (dQ R) fun _=>none
theorem KA (c:R.Pairwise kH) (hu:(ids R).Nodup):l9 R (BJ R)/\(og R (BJ R)).Perm (dQ R):=by
 have b:=qB c hu;have key:0<R.length->gT (zC R) (BJ R) (dN 0 R.length) 0/\(held (BJ R) (dN 0 R.length) 0).Perm (dQ R):=fun a=>by
  have⟨w1,w2,w3⟩:=bK 0 R.length a;exact vL (lt:=zC R) _ 0 (dQ R) _ w1 b.TY b.nodup (fun i hi=>by have:=b.lt hi;omega) (fun _ _ _=>rfl)
 have hp:(og R (BJ R)).Perm (dQ R):=by
  by_cases a:R.length=0
  .have:dQ R=[]:=gU (by rw[jW];exact a);unfold og;rw[aO a,this]
  .rw[nM aa];exact(key aa).2
 exact⟨⟨c,hu,fun a=>(key a).1,hp.nodup_iff.2 b.nodup⟩,hp⟩
theorem Mi (a:R.Pairwise kH) (hu:(ids R).Nodup):((og R (BJ R)).map (bU R)).Perm R:=by
 have e:(dQ R).map (bU R)=kD R:=by
  unfold dQ;rw[vv]
  conv=>rhs;rw[<-List.map_id (kD R)]
  exact Eh fun p hp=>Bo ((jV R p).1 hp)
 exact(((KA a hu).2.map (bU R)).trans (by rw[e])).trans (iY R)
def CS (R:List Pt) (x:Nat) (h:iI):iI:=dropH (CR R) (dN 0 R.length) 0 x h
theorem l9.drop (H:l9 R h) {x:Nat} (c:x∈og R h):l9 R (CS R x h)/\(x::og R (CS R x h)).Perm (og R h):=by
 have g:=H.lt c;have a:0<R.length:=aa;have⟨w1,w2,w3⟩:=bK 0 R.length a;have d:=c;have b:=H.jd;rw[nM a]at d b;have⟨e,f⟩:=vQ (Jk H.ids) (dN 0 R.length) 0 h x w1 aa (H.ok a) d b;have hp:(x::og R (CS R x h)).Perm (og R h):=by rw[nM a,nM a];exact f
 exact⟨⟨H.AU,H.ids,fun _=>e,(mH.1 (hp.nodup_iff.2 H.jd)).2⟩,hp⟩
abbrev yK (R:List Pt) (h:iI) (l:List Pt):Prop:=((og R h).map (bU R)).Perm l
theorem yK.ids (H:l9 R h) (c:yK R h l):(Go.Proofs.YtkjdbndekceffaaGreat.ids l).Nodup:=by
 have a:(((og R h).map (bU R)).map fun p=>p.2.2).Nodup:=by
  rw[vv];refine dm.2 (zV (fun{i k} hi b d=>?_) H.jd);exact Jj H.ids (H.lt hi) (H.lt b) d
 exact(c.map _).nodup_iff.1 a
theorem yK.mem (a:yK R h l) (p:Pt):p∈l↔∃i∈og R h,bU R i=p:=by rw[<-a.mem_iff,cu]
theorem yK.len (a:yK R h l):(og R h).length=l.length:=by have:=a.length_eq;simpa using this
theorem l9.few (H:l9 R h):(og R h).length<=R.length:=yh H.jd fun k a=>H.lt a
theorem yK.drop (H:l9 R h) (a:yK R h l) {x:Nat} (i:x∈og R h):yK R (CS R x h) (l.filter fun q=>decide (q≠bU R x)):=by
 have⟨j,d⟩:=H.drop i;have b:(bU R x::(og R (CS R x h)).map (bU R)).Perm l:=(d.map (bU R)).trans a;have f:l.Nodup:=lL (R:=fun p q:Pt=>p.2.2≠q.2.2) (fun p h=>h rfl) (dm.1 (yK.ids H a));have e:=b.nodup_iff.2 f;have c:=b.filter fun q=>decide (q≠bU R x);rw[zW aA,mF.2 (fun q g=>by
  simp only[bN];rintro rfl;exact(mH.1 e).1 g)]at c
 exact c
def KC (x1 x2 y:Int) (p:Pt):Bool:=decide (x1<=p.1/\p.1<=x2/\p.2.1<=y)
def xe (l:List Pt) (x1 x2 y:Int):List Int:=dR (ids (l.filter (KC x1 x2 y)))
theorem OO (x1 x2 y:Int):(xe l x1 x2 y).length=(l.filter (KC x1 x2 y)).length:=by unfold xe;rw[iB];simp[Go.Proofs.YtkjdbndekceffaaGreat.ids]
def jh (R:List Pt) (x1:Int):Nat:=(aV (bS R) x1).1
def lY (R:List Pt) (x2:Int):Nat:=(aS (bS R) x2).1
def ny (more:Bool) (R:List Pt) (h:iI) (x1 x2 y:Int):List Nat×Nat:=
 if R.length=0\/x2<x1 then([],0)else
 if jh R x1<lY R x2 then((downG more h (lG R) y (jh R x1) (lY R x2) (dN 0 R.length) 0).1,(aV (bS R) x1).2+(aS (bS R) x2).2+(downG more h (lG R) y (jh R x1) (lY R x2) (dN 0 R.length) 0).2.1)
 else([],(aV (bS R) x1).2+(aS (bS R) x2).2)
theorem QT (R:List Pt) (x2:Int):lY R x2<=R.length:=by
 have:=(gu (fun i=>decide (x2<(bS R).getD i 0)) (bS R).length).2;have e:(bS R).length=R.length:=by simp[bS]
 unfold lY aS;omega
theorem KD (H:l9 R h) (x1 x2 y:Int) {i:Nat} (hi:i<R.length):zm (lG R) y (jh R x1) (lY R x2) i=KC x1 x2 y (bU R i):=by
 have c:i<(bS R).length:=by unfold bS;simpa using hi
 have d:(bS R)[i]=(bU R i).1:=by rw[dE hi];simp[bS]
 have a:=sw H.SL x1 c;have b:=sD H.SL x2 c;rw[d]at a b;unfold zm KC jh lY lG;rw[lI,bN,bN,a,b]
theorem OP (i j:Nat):zC R i j->lG R i<=lG R j:=fun h=>by unfold zC tX at h;unfold lG;omega
def yL (R:List Pt) (h:iI) (x1 x2 y:Int):List Nat:=(og R h).filter fun i=>KC x1 x2 y (bU R i)
theorem KE (H:l9 R h) (more:Bool) (x1 x2 y:Int):(ny more R h x1 x2 y).1=if more then yL R h x1 x2 y else(yL R h x1 x2 y).take 1:=by
 have b:(∀i∈og R h,KC x1 x2 y (bU R i)=false)->([]:List Nat)=if more then yL R h x1 x2 y else(yL R h x1 x2 y).take 1:=fun d=>by
  have:yL R h x1 x2 y=[]:=uD.2 fun i hi=>by rw[d i hi];decide
  rw[this];cases more<;>rfl
 unfold ny;split
 .rename_i c;refine b fun i hi=>?_;have g:=H.lt hi;unfold KC;simp only[gY];omega
 .rename_i c;split
  .have a:0<R.length:=aa;have⟨w1,w2,w3⟩:=bK 0 R.length a;have e:yL R h x1 x2 y=(held h (dN 0 R.length) 0).filter (zm (lG R) y (jh R x1) (lY R x2)):=by
    unfold yL;rw[nM a];refine oG fun i hi=>?_;rw[KD H x1 x2 y (H.lt (by rw[nM a];exact hi))]
   cases more with
   |true=>rw[e];exact(vN OP _ 0 w1 (H.ok a)).1
   |false=>rw[e];exact(yI OP _ 0 w1 (H.ok a)).1
  .rename_i f;refine b fun i hi=>?_;rw[<-KD H x1 x2 y (H.lt hi)];unfold zm;simp only[gY];omega
theorem OQ (a:yK R h l) (x1 x2 y:Int):((yL R h x1 x2 y).map (bU R)).Perm (l.filter (KC x1 x2 y)):=by
 have:=a.filter (KC x1 x2 y);rw[xP]at this;exact this
theorem Jl (c:yK R h l) (x1 x2 y:Int):dR ((yL R h x1 x2 y).map (jI R))=xe l x1 x2 y/\(yL R h x1 x2 y).length=(xe l x1 x2 y).length:=by
 have a:=OQ c x1 x2 y;have b:((yL R h x1 x2 y).map (jI R)).Perm (Go.Proofs.YtkjdbndekceffaaGreat.ids (l.filter (KC x1 x2 y))):=by
  have:=a.map fun p=>p.2.2;rw[vv]at this;exact this
 refine⟨?_,?_⟩
 .unfold xe;exact EO (nK _) ((oC _ _).trans b.symm)
 .rw[OO];have:=a.length_eq;simpa using this
theorem DC (H:l9 R h) (g:R.length<=100000) (more:Bool) (x1 x2 y:Int):
  (ny more R h x1 x2 y).1.length<=(ny more R h x1 x2 y).2/\(ny more R h x1 x2 y).2<=(if more then 2 else 0)*(ny more R h x1 x2 y).1.length+6*Lib.bitLen R.length+1:=by
 unfold ny;split
 .simp
 .rename_i j;have a:0<R.length:=aa;have d:(bS R).length=R.length:=by simp[bS]
  have b:=kT (bS R) x1 aa;have c:=kU (bS R) x2 aa;rw[d]at b c;split
  .obtain⟨w1,w2,w3⟩:=bK 0 R.length a;have i:=(bB R.length aa aa).2.2;have k:=vC 0 R.length (Lib.bitLen R.length) aa;have e:=vP (more:=more) (yv:=lG R) (y:=y) (fr:=jh R x1) (ub:=lY R x2) rfl (dN 0 R.length) 0 w1 (H.ok a);have f:=vO (h:=h) (yv:=lG R) (y:=y) (fr:=jh R x1) (ub:=lY R x2) more (dN 0 R.length) 0;simp only;omega
  .simp only[fC];omega
theorem Gv (H:l9 R h) (d:R.length<=20000) (more:Bool) (x1 x2 y:Int):(ny more R h x1 x2 y).1.length<=R.length/\(ny more R h x1 x2 y).2<=100000:=by
 have a:=(DC H aa more x1 x2 y).2;have e:Lib.bitLen R.length<=15:=bA (fA d aa) ai;have b:(ny more R h x1 x2 y).1.length<=R.length:=by
  rw[KE H];have c:(yL R h x1 x2 y).length<=R.length:=bA (gV _ _) H.few;cases more with
  |true=>exact c
  |false=>simp only[qP,jO,eX];omega
 refine⟨b,?_⟩;cases more<;>simp at a<;>omega
end
end
section
open Go.RowKit Go.Sort Go.Shelf Go.Lib Go.Maps
attribute [local irreducible] wpQuiet
def stk (a b:Nat):List (FT×Nat)->List Nat×Nat
 |[]=>([],0)
 |p::st=>((p.1.canon p.2 a b).1++(stk a b st).1,(p.1.canon p.2 a b).2+(stk a b st).2)
def q8:List (FT×Nat)->Nat
 |[]=>0
 |p::st=>p.1.size+q8 st
def BK (st:List (FT×Nat)):List Nat:=(st.map fun p=>p.1.root p.2).reverse
theorem yM (p:FT×Nat) (a:List (FT×Nat)):BK (p::a)=BK a++[p.1.root p.2]:=by simp[BK]
theorem xg (a:List (FT×Nat)):(BK a).length=a.length:=by simp[BK]
theorem KF:∀a:List (FT×Nat),a.length<=q8 a
 |[]=>aB _
 |p::a=>by
  have b:=KF a;have c:=p.1.size_pos;simp only[q8,ed];omega
theorem FT.qI (a b:Nat):∀(t:FT) (s:Nat),(t.canon s a b).2<=t.size/\(t.canon s a b).1.length<=t.size:=by
 intro t
 induction t with
 |leaf x=>
  intro s;rw[FT.canon];split<;>simp[FT.size]
 |node l r c d=>
  intro s;have e:=c s;have f:=d (s+l.size);rw[FT.canon];split
  .simp[FT.size]
  .split
   .simp[FT.size]
   .show _+_+1<=_/\((_:List Nat)++_).length<=_;rw[bQ];simp only[FT.size];omega
def fB (i:Nat):Value:=.int .i64 (i:Nat)
def QU (w:World) (n a b:Nat) (e:Ending) (w':World):Prop:=
 ∃v,e=.returned (.tuple #[v,ae (((dN 0 n).canon 0 a b).2:Nat),ae 0])/\w'.ownsRow w.heap.size 3 1 v ((dN 0 n).canon 0 a b).1.length (((dN 0 n).canon 0 a b).1.map fB)/\Below w.heap.size w w'
theorem QV {w:World} {g off:Nat} {N:List Nd} {i:Nat} {d:Nd} (h:bV oM 7 w (some (af g off)) N) (hi:N[i]? =some d):
  g<w.heap.size/\w.cell? (af g (off+i*7))=some (.int .u8 d.kind)/\w.cell? (af g (off+i*7+1))=some (ae d.l)/\w.cell? (af g (off+i*7+2))=some (ae d.r)/\w.cell? (af g (off+i*7+3))=some (ae d.fr)/\w.cell? (af g (off+i*7+4))=some (ae d.J8)/\w.cell? (af g (off+i*7+5))=some (ae 0)/\w.cell? (af g (off+i*7+6))=some (ae d.item):=by
 have⟨a,hd⟩:=fo.1 hi;rcases h with h|⟨b,o,e,f,j⟩
 .subst h;simp at a
 .cases e;have c:=j i a;rw[hd]at c;exact⟨f,c 0 aa,c 1 aa,c 2 aa,c 3 aa,c 4 aa,c 5 aa,c 6 aa⟩
theorem xh (l:List Nat) (k:Nat):(l++[k]).map fB=l.map fB++[.int .i64 (k:Nat)]:=by simp[fB]
theorem Gw (base fb n a b:Nat) (b7:Value) (cl:n<=40000) (ce:a<b) (aP:b<=n) (w:World) (h:nJ w base fb n b7):
  aK 175 #[aj fb,ae a,ae b] w (QU w n a b):=by
 have bs:fb<w.heap.size:=(aY.1 h.blk).1;have an:=h.blk;have aN:w.cell? (af fb 5)=some (.bool true):=aD an;have aM:w.cell? (af fb 4)=some (ae n):=aD an;have a4:=qw fb w aN;have aV:=cZ n;obtain⟨b6,nc,rfl,-,-,a1⟩:=bV.aG jq ai h.row;have bZ:∃g off,b6=some (af g off):=by
  rcases a1 with h9|⟨g,off,e,_⟩
  .rw[h9]at aV;simp at aV;omega
  .exact⟨g,off,e⟩
 obtain⟨g,off,rfl⟩:=bZ;have a3:=r9 fb n _ ⟨_,_,rfl⟩ w an;have a5:=ag (fun W (aP:Below w.heap.size w W)=>jw fb n aa aa W ((aP.cell (p:=(af fb 5)) bs).trans aN) ((aP.cell (p:=(af fb 4)) bs).trans aM));have bW:=bK 0 n aa;have hS:=fq 0 n aa;have bB:=ag (jU n aa);have bI:=ag a1;have aH:Hid ((dN 0 n).root 0=2*n-2/\(dN 0 n).size=2*n-1):=⟨by unfold FT.root;omega,hS⟩;have aS:=FT.qI a b (dN 0 n) 0;rw[hS]at aS;have d1:decide ((a:Int)<0)=false:=aA;have d2:decide ((a:Int)>(b:Int))=false:=aF;have d3:decide ((b:Int)<(a:Int))=false:=aF;have d4:decide (b<a)=false:=aF;have d5:decide ((b:Int)>(n:Int))=false:=aF;have d6:decide ((n:Int)<(b:Int))=false:=aF;have d7:decide (n<b)=false:=aF;have d8:((a:Int)==(b:Int))=false:=aF;have d9:(a==b)=false:=aF;have d10:decide (a=b)=false:=aF;have cd:(aW n).length<=100000:=aa;have bF:=ag aS;unfold QU;generalize bo:(dN 0 n).canon 0 a b=C at*;have a6:=ag bo;generalize bU:aW n=D at*;clear bU an h a1 bW hS aV bo aS;go_enter func175,ntmps175
 go_wp2_with fail
 with_reducible refine a4.mono ?_
 rintro e w' ⟨rfl,bm⟩;subst w';clear a4
 go_wp2_with fail
 with_reducible refine a3.mono ?_
 rintro e w1 ⟨rfl,am⟩;clear a3 d1 d2 d3 d4 d5 d6 d7 d8 d9 d10 aN aM
 go_wp2_with fail
 refine(a5.o w1 am).mono ?_;rintro e w2 ⟨rfl,bm⟩;subst bm;clear a5
 go_wp2_with fail
 have bw:=Bc w2 w.heap.size [.int .i64 ((2*n-2:Nat):Int)] 3 am.size (by unfold maxLen;simp);simp only[ed,fC,kG]at bw
 go_loopg [10,11,12] (2*n) (fun b5 bz b8 bA wr=>∃(c:List (FT×Nat)) (f:List Nat) (y:Nat),b8=.int .i64 y/\q8 c<=b5/\q8 c<=80000/\Below w.heap.size w wr/\Hid (∀p∈c,FT.At D p.1 p.2)/\Hid (C=(f++(stk a b c).1,y+(stk a b c).2))/\
  Hid (wr.ownsRow w.heap.size 3 1 bz f.length (f.map fB))/\Hid (wr.ownsRow w.heap.size 3 1 bA c.length ((BK c).map fB))/\Hid (∀g,bz.ownBlock=some g->bA.ownBlock≠some g))
 case atStart=>
  refine⟨[(dN 0 n,0)],[],0,rfl,?_,?_,am.trans ((aJ _ w2).alloc am.size _),?_,?_,dA _ _ _ _,?_,?_⟩
  .simp only[q8];have:=aH.o.2;omega
  .simp only[q8];have:=aH.o.2;omega
  .intro p hp;obtain rfl:=ji.1 hp;exact bB.o
  .show C=_;simp[stk,a6.o]
  .simp only[BK,lX,pV,List.reverse_singleton,aH.o.1];exact bw
  .intro g h;cases h
 case round=>
  obtain⟨c,f,y,rfl,bu,ao,L,aw,X,G,P,a8⟩:=hrel;cases c with
  |nil=>
   have aO:=X.o;simp only[stk,iL,dH]at aO;have bE:=ag aO;simp only[fC]at P;obtain⟨U,V,rfl⟩:=fF G.o;obtain⟨cq,cr,rfl⟩:=fF P.o;clear aO X a6;go_wp2;go_ret3;rw[bE.o];exact⟨_,rfl,G.o,L⟩
  |cons p c=>
   obtain⟨t,s⟩:=p;obtain⟨U,V,rfl⟩:=fF G.o;have al:FT.At D t s:=aw.o _ (.head _);obtain⟨M,bL,bc,bd,be,bf,bM,bN⟩:=QV (bI.o.below L) al.get;have cm:=al.lt;rw[FT.Ey]at be;rw[FT.vD]at bf;obtain⟨go,bg,bS,cj,ck,bp,cg⟩:=aQ P.o aA;subst bS;have S:=P.o;rw[yM,xh]at S;simp only[ed]at S bp;have bx:wr.cell? (af go c.length)=some (ae (t.root s:Nat)):=by
    have h9:=S.cellAt c.length aa;rw[nz (by simp[xg])]at h9;simpa[xg]using h9
   have a0:=l6 S (m:=c.length) aa;rw[iN,DY (by simp[xg]),jJ (by simp[xg])]at a0;have R:C=(f++((t.canon s a b).1++(stk a b c).1),y+((t.canon s a b).2+(stk a b c).2)):=X.o;have aC:(t.hi<=a\/b<=t.lo)->Hid (C=(f++(stk a b c).1,(y+1)+(stk a b c).2)):=fun h=>by
    show C=_;rw[R,FT.iE h,fO,uW]
   have Z:¬(t.hi<=a\/b<=t.lo)->(a<=t.lo/\t.hi<=b)->Hid (C=((f++[t.root s])++(stk a b c).1,(y+1)+(stk a b c).2)):=fun h v=>by
    show C=_;rw[R,FT.rU h v,dY,uW]
   have ad:¬(t.hi<=a\/b<=t.lo)->¬(a<=t.lo/\t.hi<=b)->∃l r,t=.node l r/\Hid (C=(f++(stk a b ((l,s)::(r,s+l.size)::c)).1,(y+1)+(stk a b ((l,s)::(r,s+l.size)::c)).2)):=fun h v=>by
    cases t with
    |leaf x=>exact absurd (by simp only[FT.lo,FT.hi]at h |-;omega) v
    |node l r=>
     refine⟨l,r,rfl,?_⟩;show C=_;rw[R,FT.mO h v];simp only[stk,dY];refine Prod.ext rfl ?_;simp only;omega
   have cc:y+1<=100000/\f.length+1<=100000:=by
    have z:=bF.o;have aL:=(FT.qI a b t s);rw[R]at z;have aM:0<(t.canon s a b).2:=by
     cases t with
     |leaf x=>rw[FT.canon];split<;>simp
     |node l r=>rw[FT.canon];split;simp;split<;>simp
    simp only[bQ]at z;omega
   have b2:c.length+2<=100000:=by
    have z:=KF c;have v:t.size+q8 c<=80000:=ao;have aL:=t.size_pos;omega
   have Y:Hid (∀p∈c,FT.At D p.1 p.2):=fun p hp=>aw.o p (.tail _ hp);have E:=ag al;have aE:=ag a0;have ab:=ag (show t.size+q8 c<=_ from bu);have cn:0<t.size:=t.size_pos;obtain⟨m,aX⟩:∃m,m=c.length:=⟨_,rfl⟩;have ac:=ag aX;simp only[ed];rw[<-aX]at bx bp b2 |-;have ch:decide ((0:Int)<((m+1:Nat):Int))=true:=aA;generalize bt:t.root s=k at*;have ca:=ag bt;generalize b3:t.hi=j at*;generalize b4:t.lo=tl at*;generalize(t.top s).kind=av at*;generalize bq:(t.top s).l=ah at*;generalize br:(t.top s).r=ak at*;generalize(t.top s).item=au at*;have O:Hid ((t.top s).l=ah/\(t.top s).r=ak):=⟨bq,br⟩;clear bt b3 b4 bq br aX S a0 R aw X P al bu;have aT:q8 c<=80000:=by have v:t.size+q8 c<=80000:=ao;omega
   have bG:Hid (t.size+q8 c<=80000):=ao;have a2:=L.size;have J:Hid (∀g,(Value.slice U f.length V).ownBlock=some g->g≠go):=fun g e d=>a8.o g e (by rw[d];rfl);have cf:f.length<=100000:=aa;clear ao a8;by_cases z:j<=a\/b<=tl
   .have I:=aC z;clear aC Z ad E O;have F:∀W,W=wr.alloc (.cells #[.int .u8 av,ae ah,ae ak,ae tl,ae j,ae 0,ae au] 163)->Below w.heap.size w W/\W.ownsRow w.heap.size 3 1 (.slice U f.length V) f.length (f.map fB)/\W.ownsRow w.heap.size 3 1 (ax go m bg) c.length ((BK c).map fB):=fun W e=>by
     subst e;exact⟨L.alloc a2 _,G.o.alloc _,by rw[ac.o];exact aE.o.alloc _⟩
    have a7:=ag F;clear F;by_cases v:j<=a
    .have bh:decide ((j:Int)<=(a:Int))=true:=aF;have d:decide (j<=a)=true:=aF;clear z v;go_wp2
     go_roundg (q8 c)
     case measure=>have:=ab.o;omega
     case rel=>
      obtain⟨f1,f2,f3⟩:=a7.o _ rfl;exact⟨c,f,y+1,by go_num,aB _,aT,f1,Y,I,f2,f3,fun g e d=>J.o g e (by injection d with d;exact d.symm)⟩
    .have bh:decide ((j:Int)<=(a:Int))=false:=aF;have d:decide (j<=a)=false:=aF;have aI:decide ((b:Int)<=(tl:Int))=true:=aF;have bO:decide (b<=tl)=true:=aF;clear z v;go_wp2
     go_roundg (q8 c)
     case measure=>have:=ab.o;omega
     case rel=>
      obtain⟨f1,f2,f3⟩:=a7.o _ rfl;exact⟨c,f,y+1,by go_num,aB _,aT,f1,Y,I,f2,f3,fun g e d=>J.o g e (by injection d with d;exact d.symm)⟩
   .have bh:decide ((j:Int)<=(a:Int))=false:=aF;have d:decide (j<=a)=false:=aF;have aI:decide ((b:Int)<=(tl:Int))=false:=aF;have bO:decide (b<=tl)=false:=aF;clear aC;by_cases v:a<=tl/\j<=b
    .have I:=Z z v;have bi:decide ((a:Int)<=(tl:Int))=true:=aF;have bj:decide (a<=tl)=true:=aF;have bk:decide ((j:Int)<=(b:Int))=true:=aF;have bl:decide (j<=b)=true:=aF;clear Z ad E O z v;obtain⟨i,A⟩:∃i,i=wr.alloc (.cells #[.int .u8 av,ae ah,ae ak,ae tl,ae j,ae 0,ae au] 163):=⟨_,rfl⟩;have a9:Hid (i.ownsRow w.heap.size 3 1 (.slice U f.length V) f.length (f.map fB)):=by rw[A];exact G.o.alloc _
     have H:Below wr.heap.size wr i:=by rw[A];exact(aJ _ _).alloc (aB _) _
     have N:=ag H;have b1:wr.heap.size<=i.heap.size:=H.size;clear H
     go_upto_region 19 with fail
     rw[<-A];clear A
     go_wp2_with (at_builtin;refine bX nD w.heap.size a9.o [.int .i64 k] rfl (by simp[Value.oneCell']) rfl _ _ rfl rfl _ rfl dI aa aa ?_;intro b9 w3 aZ M aR)
     go_roundg (q8 c)
     case measure=>have:=ab.o;omega
     case rel=>
      have Q:Below w.heap.size w i:=L.trans (N.o.mono a2);have K:ay (fun q=>(Value.slice U f.length V).ownBlock=some q) wr w3:=((ay.refl _ wr).below N.o).grown M (fun q T=>.inl T);refine⟨c,f++[k],y+1,by go_num,aB _,aT,dB Q a9.o M Q.size (aB _),Y,I,?_,?_,?_⟩
      .show World.ownsRow _ _ _ _ _ _ _;rw[xh,bQ];exact aZ
      .show World.ownsRow _ _ _ _ _ _ _;have h9:=aU aE.o K (fun B e d=>J.o B d (by injection e with e;exact e.symm));rw[ac.o];exact h9
      .intro B e d;have aI:go=B:=by injection d
       rcases gH aR with h9|⟨q,h9,bn⟩
       .exact J.o B (h9▸e) aI.symm
       .rw[h9]at e;injection e with e;omega
    .obtain⟨l,r,bT,I⟩:=ad z v;subst bT;have bY:=E.o.left.lt;have b0:=E.o.right.lt;have bP:ah=((l.root s:Nat):Int):=by rw[<-O.o.1];simp only[FT.top];unfold FT.root;have:=l.size_pos;omega
     have bR:ak=((r.root (s+l.size):Nat):Int):=by rw[<-O.o.2];simp only[FT.top];unfold FT.root;have:=r.size_pos;omega
     have bC:=ag E.o.left;have bD:=ag E.o.right;subst bP bR;have bb:Hid ((FT.node l r).size=l.size+r.size+1):=rfl;obtain⟨kl,ap⟩:∃kl,kl=l.root s:=⟨_,rfl⟩;obtain⟨kr,aq⟩:∃kr,kr=r.root (s+l.size):=⟨_,rfl⟩;rw[<-ap]at bc bY;rw[<-aq]at bd b0;have cb:Hid (kl=l.root s/\kr=r.root (s+l.size)):=⟨ap,aq⟩;have bJ:Hid ((BK ((l,s)::(r,s+l.size)::c)).map fB=(BK c).map fB++[.int .i64 (kr:Nat),.int .i64 (kl:Nat)]):=by
      show _=_;rw[yM,yM,xh,xh,ap,aq,dY];rfl
     clear ap aq Z ad O E z;obtain⟨i,A⟩:∃i,i=wr.alloc (.cells #[.int .u8 av,ae kl,ae kr,ae tl,ae j,ae 0,ae au] 163):=⟨_,rfl⟩;have H:Below wr.heap.size wr i:=by rw[A];exact(aJ _ _).alloc (aB _) _
     have ar:i.heap[wr.heap.size]? =some (.cells #[.int .u8 av,ae kl,ae kr,ae tl,ae j,ae 0,ae au] 163 (0,0)):=by rw[A];exact df _ _
     have co:i.cell? (af wr.heap.size 1)=some (ae kl):=aD ar;have cp:i.cell? (af wr.heap.size 2)=some (ae kr):=aD ar;have ba:Hid (i.ownsRow w.heap.size 3 1 (ax go m bg) m ((BK c).map fB)):=by
      show World.ownsRow _ _ _ _ _ _ _;rw[ac.o];exact az aE.o H
     have N:=ag H;have b1:wr.heap.size<i.heap.size:=(aY.1 ar).1;have bv:bV (fun x:Int=>[ae x]) 1 (i.alloc (.cells #[ae kr,ae kl] 3)) (some (af i.heap.size 0)) [(kr:Int),(kl:Int)]:=bV.lit (enc:=fun x:Int=>[ae x]) (sz:=1) (fun _=>rfl) i 3 [(kr:Int),(kl:Int)] _ rfl;have bH:=ag bv;clear bv H ar;by_cases aL:a<=tl
     all_goals
      first
       |(have bi:decide ((a:Int)<=(tl:Int))=true:=by simp;omega)
       |(have bi:decide ((a:Int)<=(tl:Int))=false:=by simp;omega)
      first
       |(have bj:decide (a<=tl)=true:=by simp;omega)
       |(have bj:decide (a<=tl)=false:=by simp;omega)
      first
       |(have bk:decide ((j:Int)<=(b:Int))=false:=by simp;omega)
       |(have bk:True:=trivial)
      first
       |(have bl:decide (j<=b)=false:=by simp;omega)
       |(have bl:True:=trivial)
      clear v aL
      go_upto_region 16 with fail
      rw[<-A];clear A bL bc bd be bf bM bN bx
      go_wp2_with (at_builtin;refine nE nD (enc:=fun x:Int=>[ae x]) (fun _=>rfl) (fun x u hu=>by simp at hu;subst hu;rfl) w.heap.size (ba.o.alloc _) bH.o rfl _ _ rfl rfl 2 rfl (by unfold maxLen;simp;omega) aF aF ?_;intro b9 w3 aZ M aR)
      go_roundg (q8 ((l,s)::(r,s+l.size)::c))
      case measure=>have h9:=ab.o;have bn:=bb.o;simp only[q8];omega
      case rel=>
       have Q:Below w.heap.size w (i.alloc (.cells #[ae kr,ae kl] 3)):=(L.trans (N.o.mono a2)).alloc aa _;have K:ay (fun q=>q=go) wr w3:=(((ay.refl _ wr).below N.o).alloc _).grown M (fun q T=>.inl (by injection T with T;exact T.symm));refine⟨(l,s)::(r,s+l.size)::c,f,y+1,by go_num,aB _,?_,dB Q (ba.o.alloc _) M Q.size (aB _),?_,I,?_,?_,?_⟩
       .have h9:=bG.o;have bn:=bb.o;simp only[q8];omega
       .intro p hp;rcases ic.1 hp with rfl|hp
        .exact bC.o
        .rcases ic.1 hp with rfl|hp
         .exact bD.o
         .exact Y.o p hp
       .exact aU G.o K (fun B e d=>J.o B e d)
       .show World.ownsRow _ _ _ _ _ _ _;rw[bJ.o,ed,ed,<-ac.o];exact aZ
       .intro B e d;have ci:=(G.o.lt B e).2;rcases aR with h9|h9
        .rw[h9]at d;exact J.o B e (by injection d with d;exact d.symm)
        .rw[h9]at d;injection d with d;simp at d;omega
end
section
open Go Go.RowKit
def Vz (YS:List Nat) (d:Nd):List Nat:=YS.filter fun i=>decide (d.fr<=(i:Int)/\(i:Int)<d.J8)
def lk (N:List Nd) (YS:List Nat) (k:Nat):List Nat:=match N[k]? with|some d=>Vz YS d|none=>[]
section
variable {N:List Nd} {YS:List Nat} {yv:Nat->Int} {y1 y2:Int}
theorem QW (t:FT) (s:Nat):Vz YS (t.top s)=nl YS t:=by
 unfold Vz nl;refine oG fun i _=>?_;rw[FT.Ey,FT.vD,uQ];omega
theorem BL {t:FT} {s:Nat} (h:FT.At N t s):lk N YS (t.root s)=nl YS t:=by
 unfold lk;rw[h.get];exact QW t s
theorem Jm (k:Nat):(lk N YS k).Sublist YS:=by
 unfold lk;split
 .exact Ed
 .exact List.nil_sublist _
theorem yN {a b:Nat} (i:Nat):∀(t:FT) (s:Nat),FT.At N t s->t.wf->(i∈(t.canon s a b).1.flatMap (fun k=>Ez yv y1 y2 (lk N YS k))↔i∈nl YS t/\a<=i/\i<b/\y1<=yv i/\yv i<=y2):=by
 have j:∀t:FT,i∈nl YS t->t.lo<=i/\i<t.hi:=fun t hi=>by simpa using(bD.1 hi).2
 have one:∀(t:FT) (s:Nat),FT.At N t s->a<=t.lo->t.hi<=b->(i∈[t.root s].flatMap (fun k=>Ez yv y1 y2 (lk N YS k))↔i∈nl YS t/\a<=i/\i<b/\y1<=yv i/\yv i<=y2):=fun t s h d e=>by
  rw[lV,List.flatMap_nil,iL,BL h];unfold Ez;rw[bD,bN];constructor
  .rintro⟨c,f⟩;have:=j t c;exact⟨c,aa,aa,f⟩
  .rintro⟨c,_,_,f⟩;exact⟨c,f⟩
 intro t
 induction t with
 |leaf x=>
  intro s h g;by_cases h0:(FT.leaf x).hi<=a\/b<=(FT.leaf x).lo
  .rw[FT.iE h0];refine⟨fun h=>absurd h aA,fun⟨d,e,c,_⟩=>?_⟩;have:=j _ d;rcases h0 with h0|h0<;>omega
  .rw[FT.canon,aM h0];refine one _ s h ?_ ?_
   .simp only[FT.hi,FT.lo]at h0 |-;omega
   .simp only[FT.hi,FT.lo]at h0 |-;omega
 |node l r m n=>
  intro s h g;by_cases h0:(FT.node l r).hi<=a\/b<=(FT.node l r).lo
  .rw[FT.iE h0];refine⟨fun h=>absurd h aA,fun⟨d,e,c,_⟩=>?_⟩;have:=j _ d;rcases h0 with h0|h0<;>omega
  .by_cases d:a<=(FT.node l r).lo/\(FT.node l r).hi<=b
   .rw[FT.rU h0 d];exact one _ s h d.1 d.2
   .rw[FT.mO h0 d];show i∈((_:List Nat)++_).flatMap _↔_;rw[gZ,bO,m s h.left g.1,n _ h.right g.2.1,sQ YS l r g,oI YS l r g,bD,bD,bN,oF,gY];constructor
    .rintro(⟨⟨e,_⟩,c⟩|⟨⟨e,_⟩,c⟩)<;>exact⟨e,c⟩
    .rintro⟨e,c⟩;by_cases f:i<l.hi
     .exact .inl ⟨⟨e,f⟩,c⟩
     .exact .inr ⟨⟨e,f⟩,c⟩
theorem Gx {a b:Nat} (j:YS.Nodup):∀(t:FT) (s:Nat),FT.At N t s->t.wf->((t.canon s a b).1.flatMap (fun k=>Ez yv y1 y2 (lk N YS k))).Nodup:=by
 have one:∀(t:FT) (s:Nat),FT.At N t s->([t.root s].flatMap (fun k=>Ez yv y1 y2 (lk N YS k))).Nodup:=fun t s h=>by
  rw[lV,List.flatMap_nil,iL];exact lS _ (j.sublist (Jm _))
 intro t
 induction t with
 |leaf x=>
  intro s h c;rw[FT.canon];split
  .simp
  .exact one _ s h
 |node l r m n=>
  intro s h c;rw[FT.canon];split
  .simp
  .split
   .exact one _ s h
   .show(((_:List Nat)++_).flatMap _).Nodup;rw[gZ];refine pJ.2 ⟨m s h.left c.1,n _ h.right c.2.1,fun i hi k g e=>?_⟩;subst e;have d:=((yN i l s h.left c.1).1 hi).1;have f:=((yN i r _ h.right c.2.1).1 g).1;have o:l.lo<=i/\i<l.hi:=by simpa using(bD.1 d).2
    have p:r.lo<=i/\i<r.hi:=by simpa using(bD.1 f).2
    have:=c.2.2;omega
end
theorem FT.OT {N:List Nd} {a b:Nat}:∀(t:FT) (s:Nat),FT.At N t s->∀k∈(t.canon s a b).1,k<N.length:=by
 intro t
 induction t with
 |leaf x=>
  intro s h k hk;rw[FT.canon]at hk;split at hk
  .cases hk
  .obtain rfl:=ji.1 hk;exact h.lt
 |node l r c d=>
  intro s h k hk;rw[FT.canon]at hk;split at hk
  .cases hk
  .split at hk
   .obtain rfl:=ji.1 hk;exact h.lt
   .rcases bO.1 hk with hk|hk
    .exact c s h.left k hk
    .exact d _ h.right k hk
end
end Go.Proofs.YtkjdbndekceffaaGreat
set_option autoImplicit false
namespace Go.Proofs.YtkjdbndekceffaaGreat
open Tryz
section
open Go
abbrev Qf:=Nat->Nat
def swp (f:Qf) (i j:Nat):Qf:=fun k=>if k=i then f j else if k=j then f i else f k
def par (j:Nat):Nat:=(j-1)/2
structure LO (lb:Nat->Nat->Bool):Prop where
 Wp:∀a b,lb a b=true->lb b a=false
 tr:∀a b c,lb b a=false->lb c b=false->lb c a=false
def HO (lb:Nat->Nat->Bool) (f:Qf) (n:Nat):Prop:=∀j,0<j->j<n->lb (f j) (f (par j))=false
section
variable {lb:Nat->Nat->Bool} (O:LO lb)
include O
end
end
section
open Go Go.RowKit
def lowO (R:List Pt):Option Nat->Option Nat->Option Nat
 |none,b=>b
 |some i,none=>some i
 |some i,some k=>if CR R k i then some k else some i
def lC (R:List Pt) (S:Nat->Prop):Option Nat->Prop
 |none=>∀j,¬S j
 |some i=>S i/\∀j,S j->j=i\/zC R i j
section
variable {R:List Pt} {S T:Nat->Prop} {a b:Option Nat}
theorem QX (i:Nat):¬zC R i i:=wz _
theorem yO {i j k:Nat} (h:zC R i j) (a:zC R j k):zC R i k:=sS h a
theorem lC.uniq (c:lC R S a) (d:lC R S b):a=b:=by
 cases a with
 |none=>
  cases b with
  |none=>rfl
  |some k=>exact absurd d.1 (c k)
 |some i=>
  cases b with
  |none=>exact absurd c.1 (d i)
  |some k=>
   rcases c.2 k d.1 with h|h
   .rw[h]
   .rcases d.2 i c.1 with h2|h2
    .rw[h2]
    .exact absurd (yO h h2) (QX _)
theorem lC.congr (h:∀j,S j↔T j) (b:lC R S a):lC R T a:=by
 cases a with
 |none=>exact fun j c=>b j ((h j).2 c)
 |some i=>exact⟨(h i).1 b.1,fun j c=>b.2 j ((h j).2 c)⟩
theorem Gy {n:Nat} (O:Ord (zC R) (CR R) n) (hS:∀j,S j->j<n) (l:∀j,T j->j<n) (c:lC R S a) (d:lC R T b):lC R (fun j=>S j\/T j) (lowO R a b):=by
 cases a with
 |none=>
  refine d.congr fun j=>⟨.inr,fun h=>h.resolve_left (c j)⟩
 |some i=>
  cases b with
  |none=>exact c.congr (T:=fun j=>S j\/T j) fun j=>⟨.inl,fun h=>h.resolve_right (d j)⟩
  |some k=>
   show lC R _ (if CR R k i then some k else some i);by_cases h:CR R k i=true
   .rw[aO h];have g:=(O.dec k i).1 h;refine⟨.inr d.1,fun j hj=>?_⟩;rcases hj with hj|hj
    .rcases c.2 j hj with h9|h9
     .rw[h9];exact .inr g
     .exact .inr (yO g h9)
    .exact d.2 j hj
   .rw[aM h];have f:k=i\/zC R i k:=by
     by_cases e:k=i
     .exact .inl e
     .rcases O.CQ k i (l k d.1) (hS i c.1) e with h9|h9
      .exact absurd ((O.dec k i).2 h9) h
      .exact .inr h9
    refine⟨.inl c.1,fun j hj=>?_⟩;rcases hj with hj|hj
    .exact c.2 j hj
    .rcases d.2 j hj with h9|h9
     .rw[h9];exact f
     .rcases f with h8|h8
      .rw[<-h8];exact .inr h9
      .exact .inr (yO h8 h9)
theorem Gz {L:List Nat} (h:L.Pairwise (zC R)):lC R (fun j=>j∈L) L.head?:=by
 cases L with
 |nil=>exact fun j a=>absurd a iA
 |cons i L=>
  refine⟨nQ,fun j a=>?_⟩;rcases ic.1 a with h9|h9
  .exact .inl h9
  .exact .inr ((lT.1 h).1 j h9)
end
def kW (N:List Nd) (YS:List Nat) (k:Nat):Option Nat:=(lk N YS k).head?
def Tm (YS:List Nat) (a b:Nat):List Nat:=YS.filter fun i=>decide (a<=i/\i<b)
section
variable {R:List Pt} {gone:List Bool} {YS:List Nat} {N:List Nd}
theorem cz.Wd (a:cz R gone YS) (k:Nat):(lk N YS k).Pairwise (zC R):=List.Pairwise.sublist (Jm k) a.TY
theorem tT (a:cz R gone YS) (k:Nat):lC R (fun j=>j∈lk N YS k) (kW N YS k):=Gz (a.Wd k)
theorem DD (a:cz R gone YS) {k j:Nat} (h:j∈lk N YS k):j<R.length:=a.lt ((Jm k).subset h)
theorem BM (a:cz R gone YS) {k i:Nat} (h:kW N YS k=some i):i<R.length:=by
 have:=tT (N:=N) a k;rw[h]at this;exact DD a this.1
theorem QY (YS:List Nat) {l r:FT} (a:(FT.node l r).wf):(nl YS l++nl YS r).Perm (nl YS (.node l r)):=by
 rw[sQ YS l r a,oI YS l r a];exact List.filter_append_perm _ _
theorem GA (a:cz R gone YS) {l r:FT} {s:Nat} (b:FT.At N (.node l r) s) (d:(FT.node l r).wf):
  kW N YS ((FT.node l r).root s)=lowO R (kW N YS (l.root s)) (kW N YS (r.root (s+l.size))):=by
 have c:=Gy (Jk a.ids) (fun j h=>DD a h) (fun j h=>DD a h) (tT (N:=N) a (l.root s)) (tT (N:=N) a (r.root (s+l.size)));refine lC.uniq (tT a _) (c.congr fun j=>?_);rw[BL b,BL b.left,BL b.right,<-(QY YS d).mem_iff,bO]
theorem BN (e:cz R gone YS) {a s:Nat} (f:FT.At N (.leaf a) s):kW N YS s=if a∈YS then some a else none:=by
 have c:∀j,j∈lk N YS s↔j=a/\a∈YS:=fun j=>by
  have:lk N YS s=nl YS (.leaf a):=BL f;rw[this];unfold nl;rw[bD,bN];simp only[FT.lo,FT.hi];constructor
  .rintro⟨d,g⟩;obtain rfl:j=a:=aa;exact⟨rfl,d⟩
  .rintro⟨rfl,h⟩;exact⟨h,aa⟩
 refine lC.uniq (tT e s) ?_;split
 .rename_i h;exact⟨(c a).2 ⟨rfl,h⟩,fun j b=>.inl ((c j).1 b).1⟩
 .rename_i h;exact fun j b=>h ((c j).1 b).2
theorem KG (L:List Nat):Ez (fun _=>0) 0 0 L=L:=by unfold Ez;exact mF.2 fun i _=>aA
theorem Jn {a b:Nat} (i:Nat) (t:FT) (s:Nat) (c:FT.At N t s) (d:t.wf):i∈(t.canon s a b).1.flatMap (lk N YS)↔i∈nl YS t/\a<=i/\i<b:=by
 have h:=yN (yv:=fun _=>0) (y1:=0) (y2:=0) (YS:=YS) (N:=N) (a:=a) (b:=b) i t s c d;simp only[KG]at h;rw[h];simp
theorem Mj (d:cz R gone YS) (c:0<R.length) (a b:Nat):(((dN 0 R.length).canon 0 a b).1.flatMap (lk (aW R.length) YS)).Perm (Tm YS a b):=by
 have⟨w1,w2,w3⟩:=bK 0 R.length c;have f:=jU R.length c;have e:=Gx (yv:=fun _=>0) (y1:=0) (y2:=0) (N:=aW R.length) (a:=a) (b:=b) d.nodup (dN 0 R.length) 0 f w1;simp only[KG]at e;refine(y5 e (d.nodup.sublist Ed)).2 fun i=>?_;rw[Jn i _ 0 f w1,d.top c,bD,bN]
def sH (R:List Pt) (N:List Nd) (YS:List Nat) (ks:List Nat):Option Nat:=ks.foldl (fun o k=>lowO R o (kW N YS k)) none
theorem Mk (a:List Nat) (k:Nat):sH R N YS (a++[k])=lowO R (sH R N YS a) (kW N YS k):=by unfold sH;rw[List.foldl_append];rfl
theorem GD (a:cz R gone YS) (b:List Nat):∀(o:Option Nat) (S:Nat->Prop),(∀j,S j->j<R.length)->lC R S o->lC R (fun j=>S j\/j∈b.flatMap (lk N YS)) (b.foldl (fun o k=>lowO R o (kW N YS k)) o):=by
 induction b with
 |nil=>intro o S hS h;exact h.congr fun j=>aA
 |cons k b ih=>
  intro o S hS h;have c:=Gy (Jk a.ids) hS (fun j h=>DD a h) h (tT (N:=N) a k);have d:=ih _ _ (fun j e=>e.elim (hS j) (DD a)) c;rw[Av];refine d.congr fun j=>?_;rw[lV,bO,or_assoc]
theorem KH (c:cz R gone YS) (a b:Nat):(Tm YS a b).Pairwise (zC R):=lS _ c.TY
theorem Jo (c:cz R gone YS) (d:0<R.length) (a b:Nat):sH R (aW R.length) YS ((dN 0 R.length).canon 0 a b).1=(Tm YS a b).head?:=by
 have e:=GD (N:=aW R.length) c ((dN 0 R.length).canon 0 a b).1 none (fun _=>False) (fun _ h=>h.elim) (fun _ h=>h);refine lC.uniq (e.congr fun j=>?_) (Gz (KH c a b));rw[(Mj c d a b).mem_iff];simp
end
def zD (x1 x2:Int) (p:Pt):Bool:=decide (x1<=p.1/\p.1<=x2)
def Nu (l:List Pt) (x1 x2:Int):List Pt:=kD (l.filter (zD x1 x2))
theorem QZ (l:List Pt) (x1 x2:Int):(Nu l x1 x2).length<=l.length:=by
 unfold Nu;rw[(iY _).length_eq];exact gV _ _
section
variable {R:List Pt} {gone:List Bool} {YS:List Nat} {l:List Pt}
theorem Q0 (b:cz R gone YS) (f:su R YS l) (x1 x2:Int):(Tm YS (jh R x1) (lY R x2)).map (bU R)=Nu l x1 x2:=by
 have e:∀i,i∈YS->(jh R x1<=i/\i<lY R x2↔zD x1 x2 (bU R i)=true):=fun i hi=>by
  have d:=b.lt hi;have g:i<(bS R).length:=by unfold bS;simpa using d
  have h:(bS R)[i]=(bU R i).1:=by rw[dE d];simp[bS]
  have c:=sw b.SL x1 g;have a:=sD b.SL x2 g;rw[h]at c a;unfold jh lY zD;rw[bN,c,a]
 have hu:(ids (l.filter (zD x1 x2))).Nodup:=f.jd.sublist (List.filter_sublist.map _);refine Ko hu (dm.2 (KH b _ _)) fun p=>?_;rw[cu,bD,f.mem];constructor
 .rintro⟨i,hi,rfl⟩;unfold Tm at hi;rw[bD,bN]at hi;exact⟨⟨i,hi.1,rfl⟩,(e i hi.1).1 hi.2⟩
 .rintro⟨⟨i,hi,rfl⟩,a⟩;refine⟨i,?_,rfl⟩;unfold Tm;rw[bD,bN];exact⟨hi,(e i hi).2 a⟩
theorem OU (l:List Pt) {x1 x2:Int} (h:x2<x1):Nu l x1 x2=[]:=by
 unfold Nu;rw[uD.2 (fun p _=>by unfold zD;simp only[bN];omega)];exact gU (iY []).length_eq
end
end
section
open Go.RowKit Go.Sort Go.Shelf Go.Lib Go.Maps
attribute [local irreducible] wpQuiet
attribute [local go_sem] Oper.eT
def oh:Option Nat->Int
 |none=>-1
 |some i=>i
theorem OV (i:Nat):oh (some i)=(i:Int):=rfl
theorem Q3 {o:Option Nat} {i:Nat}:oh o=(i:Int)↔o=some i:=by
 cases o with
 |none=>simp only[oh];constructor<;>intro h<;>first|omega|cases h
 |some j=>simp only[oh,jk];omega
def H5 (h:iI) (n:Nat):List Value:=(List.range n).map fun k=>.int .i64 (oh (h k))
theorem KI (h:iI) {n k:Nat} (a:k<n):(H5 h n)[k]? =some (.int .i64 (oh (h k))):=by simp[H5,a]
theorem KJ (h:iI) {n k:Nat} (c:k<n) (v:Option Nat):(H5 h n).set k (.int .i64 (oh v))=H5 (gz h k v) n:=by
 apply rF (by simp[H5]);intro i a b;simp only[H5,List.getElem_set,fM,xI];by_cases e:k=i
 .subst e;rw[aO rfl,fU]
 .rw[aM e,iq (iO e)]
theorem Ml {h h':iI} {n:Nat} (e:∀k,k<n->h' k=h k):H5 h' n=H5 h n:=by
 unfold H5;exact Eh fun k a=>by rw[e k (uV.1 a)]
theorem gT.sub {lt:Nat->Nat->Prop} {h:iI}:∀{t:FT} {s:Nat},gT lt h t s->∀p∈t.subs s,gT lt h p.1 p.2
 |.leaf a,s,b,p,hp=>by
  have:p=(.leaf a,s):=by simpa[FT.subs]using hp
  subst this;exact b
 |.node l r,s,b,p,hp=>by
  simp only[FT.subs,bO,ji]at hp;rcases hp with(hp|hp)|hp
  .exact gT.sub b.2.2.1 p hp
  .exact gT.sub b.2.2.2 p hp
  .subst hp;exact b
theorem l9.at_ {R:List Pt} {h:iI} (H:l9 R h) {t:FT} {s:Nat} (c:FT.At (aW R.length) t s):gT (zC R) h t s/\t.wf/\t.hi<=R.length:=by
 have a:=kV c;have⟨w1,w2,w3⟩:=bK 0 R.length a;have b:=FT.at_mem (fI a▸c);exact⟨(H.ok a).sub _ b,FT.qx _ 0 w1 _ b,bA (FT.zO _ 0 w1 (t,s) b) aa⟩
theorem l9.pl {R:List Pt} {h:iI} (H:l9 R h) {k i:Nat} (f:k<(aW R.length).length) (e:h k=some i):i<R.length:=by
 have⟨t,s,d,g⟩:=tH f;have⟨b,c,j⟩:=H.at_ d;rw[<-g]at e;have⟨L,a⟩:=o8 e;have:=b.span c i (by rw[a];simp);omega
structure ni where
 rv:Value
 xv:Value
 nv:Value
 hv:Value
 fv:Value
abbrev Mm (rv xv:Value) (fb:Nat) (nv hv:Value) (n:Int):Obj:=.cells #[rv,xv,aj fb,nv,hv,ae n] 155 (0,0)
structure di (w:World) (lo hi tb fb:Nat) (R:List Pt) (h:iI) (cnt:Int) (V:ni):Prop where
 blk:w.heap[tb]? =some (Mm V.rv V.xv fb V.nv V.hv cnt)
 fu:lo<=tb/\tb<hi/\lo<=fb/\fb<hi/\hi<=w.heap.size
 row:w.ownsRow lo 29 3 V.rv R.length (R.flatMap dw)
 xs:w.ownsRow lo 2 1 V.xv R.length ((bS R).map (Value.int .i64))
 iF:nJ w lo fb R.length V.fv
 jd:w.ownsRow lo 163 7 V.nv (aW R.length).length ((aW R.length).flatMap oM)
 og:w.ownsRow lo 3 1 V.hv (aW R.length).length (H5 h (aW R.length).length)
 top:∀v,v=V.rv\/v=V.xv\/v=V.nv\/v=V.hv\/v=V.fv->∀g,v.ownBlock=some g->g<hi
section
variable {w w':World} {lo hi tb fb:Nat} {R:List Pt} {h:iI} {cnt:Int} {V:ni}
theorem di.kept {S:Nat->Prop} (H:di w lo hi tb fb R h cnt V) (K:ay S w w') (hS:∀k,lo<=k->k<hi->¬S k):di w' lo hi tb fb R h cnt V:=by
 have ht:=H.top;have a:∀{e:TypeId} {sz:Nat} {v:Value} {n:Nat} {xs:List Value},w.ownsRow lo e sz v n xs->(∀g,v.ownBlock=some g->g<hi)->w'.ownsRow lo e sz v n xs:=fun a b=>aU a K fun g e=>hS g (a.lt g e).1 (b g e);exact⟨bz K H.blk (hS tb H.fu.1 H.fu.2.1),⟨H.fu.1,H.fu.2.1,H.fu.2.2.1,H.fu.2.2.2.1,bA H.fu.2.2.2.2 K.size⟩,
  a H.row (ht _ aA),a H.xs (ht _ aA),
  ⟨bz K H.iF.blk (hS fb H.fu.2.2.1 H.fu.2.2.2.1),a H.iF.row (ht _ aA)⟩,a H.jd (ht _ aA),a H.og (ht _ aA),H.top⟩
theorem di.below {B:Nat} (H:di w lo hi tb fb R h cnt V) (a:Below B w w') (e:hi<=B):di w' lo hi tb fb R h cnt V:=
 H.kept (S:=fun k=>hi<=k) ⟨a.os,a.tape,a.output,a.size,fun k f g=>a.block k aa⟩ fun k b c d=>aa
theorem di.FD (H:di w lo hi tb fb R h cnt V):tb<w.heap.size:=bT H.fu.2.1 H.fu.2.2.2.2
theorem di.nodes (H:di w lo hi tb fb R h cnt V) (l:0<R.length):∃g off c,V.nv=.slice (some (af g off)) (aW R.length).length c/\bV oM 7 w (some (af g off)) (aW R.length):=by
 have m:=cZ R.length;have⟨g,c,e,_⟩:=aQ H.jd aa;obtain⟨a,i,b,-,-,d⟩:=bV.aG jq ai H.jd;rw[e]at b;injection b with f j k;rw[<-f]at d;exact⟨g,0,c,e,d⟩
theorem di.holds (H:di w lo hi tb fb R h cnt V) (r:0<R.length):∃g c,V.hv=ax g (aW R.length).length c/\lo<=g/\g<hi/\g≠tb/\g≠fb/\g<w.heap.size/\(∀k,k<(aW R.length).length->w.cell? (af g k)=some (ae (oh (h k)))/\w.frozen? (af g k)=false)/\
  (∀a,V.rv.ownBlock=some a->a≠g)/\(∀a,V.xv.ownBlock=some a->a≠g)/\(∀a,V.nv.ownBlock=some a->a≠g)/\∀a,V.fv.ownBlock=some a->a≠g:=by
 have x:=cZ R.length;have⟨g,c,e,y,u,s,t⟩:=aQ H.og aa;have b:=H.og;rw[e]at b;have p:(ax g (aW R.length).length c).ownBlock=some g:=rfl;have f:∀{j:TypeId} {sz n:Nat} {v:Value} {xs:List Value},w.ownsRow lo j sz v n xs->j≠3->∀a,v.ownBlock=some a->a≠g:=fun q o a d l=>bu q b o a d (l▸p);refine⟨g,c,e,(b.lt g rfl).1,H.top V.hv aA g (by rw[e];rfl),fun i=>bg b H.blk ai g rfl i.symm,fun i=>bg b H.iF.blk ai g rfl i.symm,(b.lt g rfl).2,fun k m=>⟨?_,b.frozenAt k⟩,f H.row ai,f H.xs ai,f H.jd ai,f H.iF.row ai⟩;have d:=b.cellAt k aa;rw[KI h m]at d;exact d
theorem di.nN (H:di w lo hi tb fb R h cnt V) {g n c:Nat} (i:V.hv=ax g n c) {k:Nat} (j:k<(aW R.length).length) (v:Option Nat):
  di (w.setCell (af g k) (.int .i64 (oh v))) lo hi tb fb R (gz h k v) cnt V:=by
 have K:ay (fun k=>k=g) w (w.setCell (af g k) (.int .i64 (oh v))):=(ay.refl (fun k=>k=g) w).set (a:=(af g k)) _ (.inl rfl);have e:=H.og;rw[i]at e;have l:n=(aW R.length).length:=by
  rcases e.2 with⟨d,-⟩|⟨p,m,o,d,-⟩
  .cases d
  .injection d with _ d _
 subst l;have⟨cs,fr,b⟩:=qF e;have f:=(e.stored k (.int .i64 (oh v))).1;rw[KJ h j v]at f;refine⟨EY H.blk K b ai,aP H.fu,fe H.row K b ai,fe H.xs K b ai,yG H.iF K b ai ai,fe H.jd K b ai,?_,H.top⟩;rw[i];exact f
theorem di.BB (H:di w lo hi tb fb R h cnt V) (m:Int):di (w.setCell (af tb 5) (.int .i64 m)) lo hi tb fb R h m V:=by
 have K:ay (fun k=>k=tb) w (w.setCell (af tb 5) (.int .i64 m)):=(ay.refl (fun k=>k=tb) w).set (a:=(af tb 5)) _ (.inl rfl);have b:=H.blk;exact⟨dC w tb 5 _ _ _ H.blk,aP H.fu,fe H.row K b ai,fe H.xs K b ai,yG H.iF K b ai ai,fe H.jd K b ai,fe H.og K b ai,H.top⟩
end
abbrev yP (fr ub:Nat) (y:Int) (F:Nat) (cb:Array Value) (c:Nat):Obj:=.cells #[ae fr,ae ub,ae y,.func (.func F) #[] cb,ae c] 250 (0,0)
structure Q4 (F:Nat) (cb:Array Value) (more:Bool) (R:List Pt) (w0:World) (FL:List Nat) (S:World->List Nat->(Nat->Prop)->Prop):Prop where
 enters:∀args w,(callFunc F args).run prog w=.ok (.enter F args) w
 base:∀W acc D,S W acc D->Below w0.heap.size w0 W
 lt:∀W acc D,S W acc D->∀k,D k->w0.heap.size<=k/\k<W.heap.size
 kP:∀W W' acc D E,S W acc D->ay E W W'->(∀k,E k->w0.heap.size<=k/\¬D k)->S W' acc D
 told:∀W acc D i,S W acc D->i<R.length->acc++[i] <+: FL->
  aK F (#[iV (bU R i).1 (bU R i).2.1 (bU R i).2.2]++cb) W fun e w'=>e=.returned (.bool more)/\∃D',S w' (acc++[i]) D'/\(∀k,D' k->D k\/W.heap.size<=k)/\ay D W w'
def Mo (S:World->List Nat->(Nat->Prop)->Prop) (W:World) (D:Nat->Prop) (ab fr ub:Nat) (y:Int) (F:Nat) (cb:Array Value) (c:Nat) (acc:List Nat) (r:List Nat×Nat×Bool) (e:Ending) (w':World):Prop:=
 e=.returned (.bool r.2.2)/\∃D',S w' (acc++r.1) D'/\(∀k,D' k->D k\/W.heap.size<=k)/\ay (fun k=>D k\/k=ab) W w'/\w'.heap[ab]? =some (yP fr ub y F cb (c+r.2.1))
theorem Jp {P:Program} {ops:Array Oper} {o:Oper} {a:Act} {K:Act->World->Prop} {Q:Exit->Act->World->Prop} {E0:Prop} {f:FuncId} {w:World} {vals:Array Value} {R:Ending->World->Prop} (i:∀args w,(callFunc f args).run P w=.ok (.enter f args) w) (n:Region.wanted o (yielded ops a.tmps)=true) (g:Operand) (args:Array Operand) (p:Array TypeId) (l:o.op=.call {callee:=.value g,args:=args,argTypes:=p})
  (cb:Array Value) (j:a.eval g=.func (.func f) #[] cb) (c:vals=(args.toList.map a.eval).toArray++cb)
  (C:Calls P f vals w R) (h:∀e w',R e w'->∃v,e=.returned v/\K (a.put o.dst v) w'):
  if Region.wanted o (yielded ops a.tmps)=true then Oper.wp P o a w K Q else E0:=by
 rw[aO n];unfold Oper.wp;have b:args.map a.eval++cb=vals:=by rw[c,<-En]
 have d:(execOp a.eval o).run P w=.ok (.enter f vals) w:=by
  simp[execOp,l,resolve,invoke,j,b,Deferred.ofValue,i]
 rw[d,Oper.upon_enter];refine C.mono fun e w' m=>?_;obtain⟨v,rfl,k⟩:=h e w' m;exact k
theorem BO (F:Nat) (cb:Array Value) (more:Bool) (R:List Pt) (h:iI) (cnt:Int) (V:ni) (lo hi tb fb b:Nat) (w0:World) (S:World->List Nat->(Nat->Prop)->Prop) (y:Int) (fr ub:Nat) (N:List Nat)
  (aq:Q4 F cb more R w0 N S) (br:di w0 lo hi tb fb R h cnt V) (dZ:R.length<=20000) (d0:w0.heap.size<=b)
  (t:FT) (s:Nat) (W:World) (f:List Nat) (D:Nat->Prop) (c:Nat) (bt:FT.At (aW R.length) t s) (a0:t.wf) (c3:t.hi<=R.length) (cd:gT (zC R) h t s) (hS:S W f D) (b2:¬D b) (aV:W.heap[b]? =some (yP fr ub y F cb c)) (cX:c+t.size<=1000000)
  (b4:f++(downG more h (lG R) y fr ub t s).1 <+: N)
  (c9:∀l r,t=.node l r->(∀W f D c,S W f D->¬D b->W.heap[b]? =some (yP fr ub y F cb c)->c+l.size<=1000000->f++(downG more h (lG R) y fr ub l s).1 <+: N->
    aK 174 #[aj tb,ae (l.root s:Nat),aj b] W (Mo S W D b fr ub y F cb c f (downG more h (lG R) y fr ub l s)))/\
    ∀W f D c,S W f D->¬D b->W.heap[b]? =some (yP fr ub y F cb c)->c+r.size<=1000000->f++(downG more h (lG R) y fr ub r (s+l.size)).1 <+: N->
    aK 174 #[aj tb,ae (r.root (s+l.size):Nat),aj b] W (Mo S W D b fr ub y F cb c f (downG more h (lG R) y fr ub r (s+l.size)))):
  aK 174 #[aj tb,ae (t.root s:Nat),aj b] W (Mo S W D b fr ub y F cb c f (downG more h (lG R) y fr ub t s)):=by
 have b1:0<R.length:=by have:=t.eY a0;omega
 have eb:=t.size_pos;have d3:=aq.base W f D hS;have cQ:=aq.lt W f D hS;have cm:=ag cQ;clear cQ;have eq:b<W.heap.size:=(aY.1 aV).1;have dg:W.cell? (af b 4)=some (ae c):=aD aV;have eo:W.frozen? (af b 4)=false:=aD aV;have er:c+1<=1000000:=aa;obtain⟨w1,aT⟩:∃w1,w1=W.setCell (af b 4) (.int .i64 ((c+1:Nat):Int)):=⟨_,rfl⟩;have bQ:ay (fun k=>k=b) W w1:=by rw[aT];exact(ay.refl (fun k=>k=b) W).set (a:=(af b 4)) _ (.inl rfl)
 have ar:w1.heap[b]? =some (yP fr ub y F cb (c+1)):=by rw[aT];exact dC W b 4 _ _ _ aV
 have b7:S w1 f D:=aq.kP W w1 f D _ hS bQ (fun k Q=>by subst Q;exact⟨d0,b2⟩);have cW:=aq.base w1 f D b7;have ao:=br.below cW br.fu.2.2.2.2;obtain⟨dW,off,cn,env,dm⟩:=ao.nodes b1;obtain⟨dV,ch,cF,-,-,-,-,es,cY,-⟩:=ao.holds b1;obtain⟨dk,dl,cH,-,-,dn⟩:=bV.aG bf ai ao.row;have aU:=ao.blk;rw[env,cF,cH]at aU;have c2:=bt.get;have b8:=bt.lt;obtain⟨et,n0,bw,bx,a2,a3,cc,bA⟩:=mR dm c2;rw[FT.Ey]at a2;rw[FT.vD]at a3;have bm:=(cY _ b8).1;have ec:tb<w1.heap.size:=ao.FD;have bT:w1.cell? (af tb 0)=some (.slice dk R.length dl):=aD aU;have bW:w1.cell? (af tb 3)=some (.slice (some (af dW off)) (aW R.length).length cn):=aD aU;have bX:w1.cell? (af tb 4)=some (ax dV (aW R.length).length ch):=aD aU;have dp:w1.cell? (af b 0)=some (ae fr):=aD ar;have dq:w1.cell? (af b 1)=some (ae ub):=aD ar;have dr:w1.cell? (af b 2)=some (ae y):=aD ar;have ds:w1.cell? (af b 3)=some (.func (.func F) #[] cb):=aD ar;have c4:=t.eY a0;have dX:(aW R.length).length<=40000:=by rw[cZ];omega
 have d9:=t.size_pos;obtain⟨m,bZ⟩:∃m,m=t.hi:=⟨_,rfl⟩;obtain⟨tl,b0⟩:∃tl,tl=t.lo:=⟨_,rfl⟩;rw[<-bZ]at a3 c3 c4;rw[<-b0]at a2 c4;obtain⟨K,u⟩:∃K,K=t.root s:=⟨_,rfl⟩;obtain⟨d,hd⟩:∃d,d=t.top s:=⟨_,rfl⟩;obtain⟨o,bu⟩:∃o,o=h (t.root s):=⟨_,rfl⟩;rw[<-hd]at n0 bw bx bA;rw[<-bu]at bm;rw[<-u]at n0 bw bx a2 a3 cc bA b8 bm;obtain⟨r,H⟩:∃r,r=downG more h (lG R) y fr ub t s:=⟨_,rfl⟩;have aL:Hid (m=t.hi/\tl=t.lo/\K=t.root s/\d=t.top s/\o=h (t.root s)/\r=downG more h (lG R) y fr ub t s):=⟨bZ,b0,u,hd,bu,H⟩;rw[<-H]at b4 |-;rw[<-u];have co:=ag b4;have P:=ag aq;have cw:=ag b7;have ep:=ag br;have cv:=ag dn;have ct:=ag c9;have dD:=ag cd;have cp:=ag bQ;have cg:=ag ar;have dJ:=ag a0;have dy:=ag bt;have dz:=ag cX;have bH:=ag b2;have dd:w1.heap.size=W.heap.size:=by rw[aT];simp
 have cy:=ag dd;obtain⟨M,b6⟩:∃M,M=(aW R.length).length:=⟨_,rfl⟩;obtain⟨a4,b9⟩:∃a4,a4=R.length:=⟨_,rfl⟩;rw[<-b6]at bW bX b8 dX;rw[<-b9]at bT dZ c3 b1;have dB:Hid (M=(aW R.length).length/\a4=R.length):=⟨b6,b9⟩;have X:b<w1.heap.size:=aa;have da:∀i,o=some i->i<a4/\tl<=i/\i<m:=fun i cG=>by
  rw[bu]at cG;obtain⟨L,dR⟩:=o8 cG;have:=cd.span a0 i (by rw[dR];simp);omega
 have cu:=ag da;clear da bZ b0 u hd bu H b4 aq b7 br dn c9 cd bQ ar a0 bt cX b2 dd b6 b9 aU c2 env cF cH cY dm hS d3 ao cW d9 eb aV;go_enter func174,ntmps174
 go_upto_region 2 with fail
 rw[show W.setCell (af b 4) (.int .i64 ((c:Int)+1))=w1 by rw[aT];rfl];clear aT dg eo;obtain⟨w2,bo⟩:∃w2,w2=(w1.alloc (.cells #[.int .u8 d.kind,ae d.l,ae d.r,ae tl,ae m,ae 0,ae d.item] 163)).drew:=⟨_,rfl⟩;have v:Below w1.heap.size w1 w2:=by rw[bo];exact((aJ _ _).alloc (aB _) _).drew
 have I:w2.heap[w1.heap.size]? =some (.cells #[.int .u8 d.kind,ae d.l,ae d.r,ae tl,ae m,ae 0,ae d.item] 163 (0,0)):=by rw[bo];exact df w1 _
 have ci:=ag v;have bj:=ag I;have bL:Hid (S w2 f D):=P.o.kP w1 w2 f D (fun _=>False) cw.o ((ay.refl _ w1).below v) (fun k h=>h.elim);clear v I;have bp:=ah bW;have bq:=ah bX;have ed:=ah n0;have ee:=ah bw;have ef:=ah bx;have eg:=ah a2;have eh:=ah a3;have ei:=ah cc;have ej:=ah bA;have ek:=ah bm;refine au (fun W=>∃p:aR w1,W=p.W) [16] [(0,false),(1,false),(2,false),(3,true),(4,false),(5,false),(6,true),(7,false),(8,false),(9,false),(10,true),(11,false),(12,false),(13,true)] ⟨⟨_,(aJ _ _).drew⟩,rfl⟩ 3 ?_;refine aH 14 rfl fun K u=>?_;go_simp;refine u _ _ (fun _ _=>⟨⟨_,(aJ _ w1).alloc (aB _) _|>.drew⟩,rfl⟩) ?_;clear u K;refine aH 15 rfl fun K u=>?_;go_simp;refine u _ _ (fun _ _=>⟨⟨_,(aJ _ w1).alloc (aB _) _|>.drew⟩,rfl⟩) ?_;clear u K;refine aI [16] ?_;rw[<-bo];clear bp bq ed ee ef eg eh ei ej ek bo
 go_upto_region 3 with fail
 have v:=ci.o;have a1:w1.heap.size<w2.heap.size:=(aY.1 bj.o).1;have I:=bj.o;have bk:=(v.cell (p:=(af tb 0)) ec).trans bT;have t0:=(v.cell (p:=(af b 0)) X).trans dp;have t1:=(v.cell (p:=(af b 1)) X).trans dq;have t2:=(v.cell (p:=(af b 2)) X).trans dr;have t3:=(v.cell (p:=(af b 3)) X).trans ds;have C:w2.cell? (af w1.heap.size 0)=some (.int .u8 d.kind):=aD I;have x1:w2.cell? (af w1.heap.size 1)=some (ae d.l):=aD I;have x2:w2.cell? (af w1.heap.size 2)=some (ae d.r):=aD I;have eF:w2.cell? (af w1.heap.size 3)=some (ae tl):=aD I;have eG:w2.cell? (af w1.heap.size 4)=some (ae m):=aD I;have bE:Hid (w2.heap[b]? =some (yP fr ub y F cb (c+1))):=(v.block b X).trans cg.o;have bJ:Hid (ay (fun k=>D k\/k=b) W w2):=(cp.o.mono fun k h=>.inr h).below v;have aS:Hid (bV dw 3 w2 dk R):=cv.o.below v;have bD:Hid (∀(a5:World) (n:Nat),Below w2.heap.size w2 a5->r=([],1,true)->Mo S W D b fr ub y F cb c f r (.returned (.bool true)) a5):=fun a5 n G e=>by
  rw[e];show Mo S W D b fr ub y F cb c f ([],1,true) _ _;refine⟨rfl,D,?_,fun k h=>.inl h,bJ.o.below G,(G.block b (vo X a1)).trans bE.o⟩;show S a5 (f++[]) D;rw[iL];exact P.o.kP w2 a5 f D (fun _=>False) bL.o ((ay.refl _ w2).below G) (fun k h=>h.elim)
 clear v I bT bW bX dp dq dr ds n0 bw bx a2 a3 cc bA bm;cases o with
 |none=>
  have H:r=([],1,true):=by
   obtain⟨-,-,-,-,w,x⟩:=aL.o;rw[x];exact ng w.symm
  have aE:Hid (∀n,Mo S W D b fr ub y F cb c f r (.returned (.bool true)) (w2.drewN n)):=fun n=>bD.o _ n (Below.bn _ _) H;clear H;simp only[oh]
  go_quiet (fail)
  go_wp2;go_ret;exact aE.o _
 |some i=>
  obtain⟨d6,eu,ev⟩:=cu.o i rfl;have aX:i<R.length:=by rw[<-dB.o.2];exact d6
  obtain⟨bB,bC,dS,ew,bv⟩:=aS.o.get aa;have ab:=bv i aX 0 aa;have ac:=bv i aX 1 aa;have ad:=bv i aX 2 aa;simp only[dw,fG,dx,dH]at ab ac ad;rw[<-dE aX]at ab ac ad;subst dS;have de:lG R i=(bU R i).2.1:=rfl;have cA:Hid (∀W f D,S W f D->f++[i] <+: N->aK F (#[iV (bU R i).1 (bU R i).2.1 (bU R i).2.2]++cb) W fun e w'=>e=.returned (.bool more)/\∃cf,S w' (f++[i]) cf/\(∀k,cf k->D k\/W.heap.size<=k)/\ay D W w'):=fun W f D J cJ=>P.o.told W f D i J aX cJ;have bP:=ag de;clear bv de;generalize bU R i=p at*;obtain⟨dj,A,dh⟩:=p;simp only at ab ac ad;simp only[OV];have dO:((i:Int)==-1)=false:=by first|(simp;done)|(simp;omega)
  have dP:decide ((i:Int)=-1)=false:=by first|(simp;done)|(simp;omega)
  by_cases hp:y<A\/m<=fr\/ub<=tl
  .have H:r=([],1,true):=by
    obtain⟨aw,az,-,-,w,x⟩:=aL.o;rw[x];refine mr w.symm ?_;have:=bP.o;simp only at this;rw[this,<-aw,<-az];exact hp
   have aE:Hid (∀n,Mo S W D b fr ub y F cb c f r (.returned (.bool true)) (w2.drewN n)):=fun n=>bD.o _ n (Below.bn _ _) H;clear H;by_cases J:y<A
   .have d1:decide (A>y)=true:=aF;have d2:decide (y<A)=true:=aF;clear hp
    go_quiet (fail)
    go_wp2;go_ret;exact aE.o _
   .have d1:decide (A>y)=false:=aF;have d2:decide (y<A)=false:=aF;by_cases cJ:m<=fr
    .have f1:decide ((m:Int)<=(fr:Int))=true:=aF;have f2:decide (m<=fr)=true:=aF;clear hp
     go_quiet (fail)
     go_wp2;go_ret;exact aE.o _
    .have f1:decide ((m:Int)<=(fr:Int))=false:=aF;have f2:decide (m<=fr)=false:=aF;have f3:decide ((tl:Int)>=(ub:Int))=true:=aF;have f4:decide ((ub:Int)<=(tl:Int))=true:=aF;have f5:decide (ub<=tl)=true:=aF;clear hp
     go_quiet (fail)
     go_wp2;go_ret;exact aE.o _
  .have d1:decide (A>y)=false:=aF;have d2:decide (y<A)=false:=aF;have f1:decide ((m:Int)<=(fr:Int))=false:=aF;have f2:decide (m<=fr)=false:=aF;have f3:decide ((tl:Int)>=(ub:Int))=false:=aF;have f4:decide ((ub:Int)<=(tl:Int))=false:=aF;have f5:decide (ub<=tl)=false:=aF;have bK:=ag hp;clear hp bD
   go_quiet (fail)
   obtain⟨w3,q⟩:∃w3,w3=w2.drewN nq:=⟨_,rfl⟩;have a7:Hid (Below w2.heap.size w2 w3):=by rw[q];exact Below.bn _ _
   have bk:w3.cell? (af tb 0)=some (.slice (some (af bB bC)) a4 dl):=by rw[q];exact bk
   have t0:w3.cell? (af b 0)=some (ae fr):=by rw[q];exact t0
   have t1:w3.cell? (af b 1)=some (ae ub):=by rw[q];exact t1
   have t3:w3.cell? (af b 3)=some (.func (.func F) #[] cb):=by rw[q];exact t3
   have C:w3.cell? (af w1.heap.size 0)=some (.int .u8 d.kind):=by rw[q];exact C
   have x1:w3.cell? (af w1.heap.size 1)=some (ae d.l):=by rw[q];exact x1
   have x2:w3.cell? (af w1.heap.size 2)=some (ae d.r):=by rw[q];exact x2
   have ab:w3.cell? (af bB (bC+i*3))=some (ae dj):=by rw[q];exact ab
   have ac:w3.cell? (af bB (bC+i*3+1))=some (ae A):=by rw[q];exact ac
   have ad:w3.cell? (af bB (bC+i*3+2))=some (ak dh):=by rw[q];exact ad
   have bM:Hid (S w3 f D):=P.o.kP w2 w3 f D (fun _=>False) bL.o ((ay.refl _ w2).below a7.o) (fun k h=>h.elim);have ba:Hid (ay (fun k=>D k\/k=b) W w3):=bJ.o.below a7.o;have bF:Hid (w3.heap[b]? =some (yP fr ub y F cb (c+1))):=(a7.o.block b (vo X a1)).trans bE.o;have Y:w1.heap.size<w3.heap.size:=by rw[q];exact a1
   go_upto_region 5 with fail
   rw[<-q];clear q;obtain⟨T,cE⟩:∃T:List Nat,T=(if fr<=i/\i<ub then[i]else[]):=⟨_,rfl⟩;have aN:=ag cE;clear cE;obtain⟨g,ca⟩:∃g,g=w1.heap.size:=⟨_,rfl⟩;have bc:=ag ca;rw[<-ca]at C x1 x2 Y a1 bj |-;clear ca
   go_cut [93]from 65 (fun em al=>∃(bl:Bool) (E:Nat->Prop),em=.bool bl/\Hid (bl=(decide (fr<=i/\i<ub)&&!more))/\Hid (S al (f++T) E)/\Hid (∀k,E k->D k\/W.heap.size<=k)/\Hid (ay (fun k=>D k\/k=b) W al)/\Hid (al.heap[b]? =some (yP fr ub y F cb (c+1)))/\Hid (¬E b)/\
    al.cell? (af g 0)=some (.int .u8 d.kind)/\al.cell? (af g 1)=some (ae d.l)/\al.cell? (af g 2)=some (ae d.r)/\Hid (¬E g/\g<al.heap.size))
   case first=>
    by_cases av:fr<=i/\i<ub
    .have g1:decide ((i:Int)>=(fr:Int))=true:=aF;have cI:decide ((fr:Int)<=(i:Int))=true:=aF;have bp:decide (fr<=i)=true:=aF;have bq:decide ((i:Int)<(ub:Int))=true:=aF;have dU:decide (i<ub)=true:=aF;have ez:=ah bk;have eA:=ah t0;have eB:=ah t1;have eC:=ah t3;have dg:=ah ab;have eD:=ah ac;have eE:=ah ad;refine au (fun W=>∃p:aR w3,W=p.W) [26,27,28] [(0,false),(1,false),(2,false),(3,false),(4,true),(5,false),(6,false),(7,false),(8,false),(9,false),(10,false),(11,true),(12,false),(13,false),(14,false),(15,false),(16,false),(17,false),(18,true),(19,false),(20,false),(21,false),(22,true),(23,false),(24,false),(25,true)] ⟨⟨_,(aJ _ _).drew⟩,rfl⟩ 3 ?_;refine aH 26 rfl fun K u=>?_;have cz:S w3.drew f D:=P.o.kP w3 w3.drew f D (fun _=>False) bM.o (ay.refl _ w3).drew (fun k h=>h.elim);have cs:f++[i] <+: N:=by
      obtain⟨aw,az,-,-,w,x⟩:=aL.o;have J:=OM (more:=more) (yv:=lG R) (y:=y) (fr:=fr) (ub:=ub) w.symm (by rw[bP.o,<-aw,<-az];exact bK.o) av;rw[<-x]at J;exact((List.prefix_append_right_inj f).2 J).trans co.o
     refine Jp P.o.enters (by first|rfl|(go_simp;done)) (.tmp 83) _ _ rfl cb rfl (vals:=#[iV dj A dh]++cb) rfl (cA.o w3.drew f D cz cs) ?_;rintro e w4 ⟨rfl,aC,cT,bs,cR⟩;refine⟨_,rfl,u _ _ (fun _ h=>absurd aA h) ?_⟩;clear u K;refine aI [27,28] ?_;have cP:¬D b:=bH.o;have ap:¬D g:=fun j=>by have:=cm.o g j;have:=cy.o;have:=bc.o;omega
     have ex:b<w3.heap.size:=vo (by have:=bc.o;omega) Y;have U:ay D w3 w4:=(ay.refl D w3).drew.trans cR;have en:=((bY U Y ap).1 0).trans C;have y1:=((bY U Y ap).1 1).trans x1;have y2:=((bY U Y ap).1 2).trans x2;have ey:=U.size;have be:Hid (S w4 (f++T) aC):=by rw[aN.o,aO av];exact cT
     have dG:Hid (∀k,aC k->D k\/W.heap.size<=k):=fun k j=>(bs k j).imp id fun h8=>by
      have cK:w3.heap.size<=k:=h8;have:=ba.o.size;omega
     have bg:Hid (ay (fun k=>D k\/k=b) W w4):=ba.o.trans (U.mono fun k h=>.inl h);have bh:Hid (w4.heap[b]? =some (yP fr ub y F cb (c+1))):=bz U bF.o cP;have aQ:Hid (¬aC b/\¬aC g/\g<w4.heap.size):=⟨fun j=>by
      rcases bs b j with h8|h8
      .exact cP h8
      .have cK:w3.heap.size<=b:=h8;omega,fun j=>by
      rcases bs g j with h8|h8
      .exact ap h8
      .have cK:w3.heap.size<=g:=h8;omega,aa⟩
     have bi:Hid ((!more)=(decide (fr<=i/\i<ub)&&!more)):=by show _=_;simp[av]
     clear cR cT bs U cz cs;go_wp2;go_meet;exact⟨_,aC,rfl,bi,be,dG,bg,bh,aQ.o.1,en,y1,y2,aQ.o.2⟩
    .have dT:(decide ((i:Int)>=(fr:Int))=true/\decide ((i:Int)<(ub:Int))=false)\/decide ((i:Int)>=(fr:Int))=false:=aF;have ap:¬D g:=fun j=>by have:=cm.o g j;have:=cy.o;have:=bc.o;omega
     have be:Hid (∀n,S (w3.drewN n) (f++T) D):=fun n=>by
      rw[aN.o,aM av,iL];exact P.o.kP w3 _ f D (fun _=>False) bM.o ((ay.refl _ w3).below (Below.bn _ _)) (fun k h=>h.elim)
     have bg:Hid (∀n,ay (fun k=>D k\/k=b) W (w3.drewN n)):=fun n=>ba.o.below (Below.bn _ _);have bh:Hid (∀n,(w3.drewN n).heap[b]? =some (yP fr ub y F cb (c+1))):=fun n=>bF.o;have aQ:Hid (¬D g/\g<w3.heap.size):=⟨ap,Y⟩;have bi:Hid (false=(decide (fr<=i/\i<ub)&&!more)):=by show _=_;simp[av]
     have am:Hid (∀n o,(w3.drewN n).cell? (af g o)=w3.cell? (af g o)):=fun n o=>rfl;clear av;rcases dT with⟨g1,cI⟩|g1
     .have bp:decide ((fr:Int)<=(i:Int))=true:=aP g1;have bq:decide (fr<=i)=true:=aP g1;have dU:decide (i<ub)=false:=aP cI
      go_quiet (fail)
      go_wp2;go_meet;exact⟨_,D,rfl,bi,be.o _,fun k h=>.inl h,bg.o _,bh.o _,bH.o,(am.o _ _).trans C,(am.o _ _).trans x1,(am.o _ _).trans x2,aQ.o⟩
     .have bp:decide ((fr:Int)<=(i:Int))=false:=aP g1;have bq:decide (fr<=i)=false:=aP g1
      go_quiet (fail)
      go_wp2;go_meet;exact⟨_,D,rfl,bi,be.o _,fun k h=>.inl h,bg.o _,bh.o _,bH.o,(am.o _ _).trans C,(am.o _ _).trans x1,(am.o _ _).trans x2,aQ.o⟩
   case rest=>
    obtain⟨bl,E,rfl,ck,bO,a9,bb,a8,cr,C,x1,x2,cq⟩:=hcut;have c6:=bK.o;obtain⟨aw,az,el,Z,w,x⟩:=aL.o;have c8:¬(y<lG R i\/t.hi<=fr\/ub<=t.lo):=by rw[bP.o,<-aw,<-az];exact c6
    have bd:=ag c8;have d8:=cq.o.2;have d7:g≠b:=by have:=bc.o;omega
    clear c6 aw az el c8 bK ba bF bM a7 ci bj bL aS bJ bE cA cg cp cw cv dO dP d1 d2 f1 f2 f3 f4 f5 bk t0 t1 t3 ab ac ad Y a1;cases bl with
    |true=>
     have G:=ck.o;simp only[Bool.true_eq,mI,bN,oF]at G;have z:r=([i],1,false):=by rw[x,G.2];exact BH w.symm bd.o G.1
     have O:Hid (Mo S W D b fr ub y F cb c f r (.returned (.bool false)) wc):=by
      rw[z];have J:=bO.o;rw[aN.o,aO G.1]at J;exact⟨rfl,E,J,a9.o,bb.o,a8.o⟩
     clear z G Z w x;go_wp2;go_ret;exact O.o
    |false=>
     have cl:=ag ck.o.symm;cases t with
     |leaf a=>
      have Q:d.kind=1:=by rw[Z];rfl
      have z:r=(T,1,true):=by
       have dQ:h s=some i:=w.symm;rw[x,vM dQ bd.o,cl.o,aN.o];rfl
      have O:Hid (Mo S W D b fr ub y F cb c f r (.returned (.bool true)) wc):=by
       rw[z];exact⟨rfl,E,bO.o,a9.o,bb.o,a8.o⟩
      rw[Q]at C;clear z Q Z w x x1 x2;go_wp2;go_ret;exact O.o
     |node l B=>
      have Q:d.kind=2:=by rw[Z];rfl
      have c0:d.l=((l.root s:Nat):Int):=by rw[Z];show((s+l.size:Nat):Int)-1=_;unfold FT.root;have:=l.size_pos;omega
      have c1:d.r=((B.root (s+l.size):Nat):Int):=by rw[Z];show((s+l.size+B.size:Nat):Int)-1=_;unfold FT.root;have:=B.size_pos;omega
      have z:=BI (more:=more) (yv:=lG R) (y:=y) (fr:=fr) (ub:=ub) w.symm bd.o cl.o;rw[<-x,<-aN.o]at z;have db:=qG (h:=h) (yv:=lG R) (y:=y) (fr:=fr) (ub:=ub) more l s;have dc:=qG (h:=h) (yv:=lG R) (y:=y) (fr:=fr) (ub:=ub) more B (s+l.size);have d5:=dz.o;have ea:(FT.node l B).size=l.size+B.size+1:=rfl;obtain⟨bR,bS⟩:=ct.o l B rfl;rw[Q]at C;rw[c0]at x1;rw[c1]at x2;have aZ:=co.o;rw[z]at aZ;generalize downG more h (lG R) y fr ub l s=dM at*;generalize downG more h (lG R) y fr ub B (s+l.size)=dN at*;obtain⟨cB,an,cC⟩:=dM;obtain⟨dK,cD,dL⟩:=dN;simp only at z db dc aZ bR bS;have c7:(f++T)++cB <+: N:=by
       refine List.IsPrefix.trans ?_ aZ;exact⟨if cC then dK else[],by simp only[dY]⟩
      have dt:=ag (bR wc (f++T) E (c+1) bO.o cr.o a8.o aa c7);have dI:=ag bS;have aS:=ag z;have dF:=ag aZ;have d4:c+1+l.size<=1000000/\c+1+an+B.size<=1000000:=aa;clear bR bS z aZ c7 Q c0 c1 Z w x db dc d5 ea ct aL dD dJ dy bd cu;generalize l.root s=kl at*;generalize B.root (s+l.size)=kr at*
      go_wp2_with fail
      refine dt.o.mono ?_;rintro e ce ⟨rfl,a6,cU,b3,b5,cL⟩;have cN:¬a6 b:=fun j=>by
       rcases b3 b j with h8|h8
       .exact cr.o h8
       .have:=(aY.1 a8.o).1;omega
      have c5:¬(E g\/g=b):=fun j=>j.elim cq.o.1 d7;have x2:=((bY b5 d8 c5).1 2).trans x2;have cx:=ag cU;have bG:Hid (∀k,a6 k->D k\/W.heap.size<=k):=fun k j=>by
       rcases b3 k j with h8|h8
       .exact a9.o k h8
       .have:=bb.o.size;exact .inr aa
      have bI:Hid (ay (fun k=>D k\/k=b) W ce):=((bb.o.mono (S':=fun k=>(D k\/k=b)\/W.heap.size<=k) (fun k h=>.inl h)).trans (b5.mono fun k j=>by
       rcases j with h8|h8
       .exact(a9.o k h8).imp .inl id
       .exact .inl (.inr h8))).strip
      have cj:=ag cL;have dA:=ag cN;clear cU b3 b5 cL cN c5 C x1;cases cC with
      |false=>
       have O:Hid (Mo S W D b fr ub y F cb c f r (.returned (.bool false)) ce):=by
        rw[aS.o];simp only[qP,jO,iL,Bool.false_and,dH];refine⟨rfl,a6,?_,bG.o,bI.o,?_⟩
        .have:=cx.o;rwa [dY]at this
        .have:=cj.o;rw[show c+(1+an)=c+1+an by omega];exact this
       go_wp2;go_ret;exact O.o
      |true=>
       have du:=ag (dI.o ce (f++T++cB) a6 (c+1+an) cx.o dA.o cj.o d4.2 (by
        have:=dF.o;simp only[gN]at this;simpa only[dY]using this))
       go_wp2_with fail
       refine du.o.mono ?_;rintro e w6 ⟨rfl,dv,cV,cO,cS,cM⟩;have O:Hid (Mo S W D b fr ub y F cb c f r (.returned (.bool dL)) w6):=by
        rw[aS.o];simp only[gN,Bool.true_and];refine⟨rfl,dv,?_,fun k j=>?_,?_,?_⟩
        .simpa only[dY]using cV
        .rcases cO k j with h8|h8
         .exact bG.o k h8
         .have:=bI.o.size;exact .inr aa
        .exact((bI.o.mono (S':=fun k=>(D k\/k=b)\/W.heap.size<=k) (fun k h=>.inl h)).trans (cS.mono fun k j=>by
          rcases j with h8|h8
          .exact(bG.o k h8).imp .inl id
          .exact .inl (.inr h8))).strip
        .rw[show c+(1+an+cD)=c+1+an+cD by omega];exact cM
       clear cV cO cS cM;go_wp2;go_ret;exact O.o
theorem Mq (F:Nat) (cb:Array Value) (more:Bool) (R:List Pt) (h:iI) (cnt:Int) (V:ni) (lo hi tb fb d:Nat) (w0:World) (S:World->List Nat->(Nat->Prop)->Prop) (y:Int) (fr ub:Nat) (n:List Nat)
  (u:Q4 F cb more R w0 n S) (p:di w0 lo hi tb fb R h cnt V) (q:R.length<=20000) (v:w0.heap.size<=d):
  ∀(t:FT) (s:Nat) (W:World) (b:List Nat) (D:Nat->Prop) (c:Nat),FT.At (aW R.length) t s->t.wf->t.hi<=R.length->gT (zC R) h t s->S W b D->¬D d->W.heap[d]? =some (yP fr ub y F cb c)->c+t.size<=1000000->
  b++(downG more h (lG R) y fr ub t s).1 <+: n->
  aK 174 #[aj tb,ae (t.root s:Nat),aj d] W (Mo S W D d fr ub y F cb c b (downG more h (lG R) y fr ub t s)):=by
 intro t
 induction t with
 |leaf a=>exact fun s W b D c k j o m hS f g i hF=>BO F cb more R h cnt V lo hi tb fb d w0 S y fr ub n u p q v _ s W b D c k j o m hS f g i hF (fun l r e=>by cases e)
 |node l r w x=>
  intro s W b D c k j o m hS f g i hF;refine BO F cb more R h cnt V lo hi tb fb d w0 S y fr ub n u p q v _ s W b D c k j o m hS f g i hF fun l' C e=>?_;cases e;have z:=FT.eY r j.2.1;have A:=j.2.2;have B:(FT.node l r).hi=r.hi:=rfl;exact⟨fun W b D c hS f g i hF=>w s W b D c k.left j.1 aa m.2.2.1 hS f g i hF,fun W b D c hS f g i hF=>x _ W b D c k.right j.2.1 aa m.2.2.2 hS f g i hF⟩
def Tn (ob:Nat) (R:List Pt) (w0:World) (W:World) (acc:List Nat) (D:Nat->Prop):Prop:=
 Below w0.heap.size w0 W/\∃v,W.heap[ob]? =some (.cells #[v] 35 (0,0))/\W.ownsRow w0.heap.size 27 1 v acc.length ((acc.map (jI R)).map (Value.int .u32))/\D=fun k=>k=ob\/v.ownBlock=some k
theorem Jq:gF 109:=dh func109 aN rfl
theorem Jr (R:List Pt) (ob:Nat) (w0:World) (F:List Nat) (ax:F.length<=1000000) (T:w0.heap.size<=ob):
  Q4 109 #[aj ob] true R w0 F (Tn ob R w0) where
 enters:=Jq
 base:=fun W d D h=>h.1
 lt:=fun W d D h k hk=>by
  obtain⟨l,v,b,c,rfl⟩:=h;rcases hk with rfl|hk
  .exact⟨T,(aY.1 b).1⟩
  .exact c.lt k hk
 kP:=fun W W' d D ar h x w=>by
  obtain⟨l,v,b,c,rfl⟩:=h;exact⟨l.trans (x.toBelow l.size (fun k hk=>(w k hk).1)),v,(x.block ob (aY.1 b).1 (fun h9=>(w ob h9).2 (.inl rfl))).trans b,aU c x (fun g e h9=>(w g h9).2 (.inr e)),rfl⟩
 told:=fun W d D i h hi hF=>by
  obtain⟨l,v,b,c,rfl⟩:=h;have P:=hF.length_le;rw[bQ,zX]at P;have ap:(bU R i).2.2=jI R i:=rfl;have Z:Hid ((((d++[i]).map (jI R)).map (Value.int .u32))=((d.map (jI R)).map (Value.int .u32))++[.int .u32 (bU R i).2.2]):=by
   show _=_;rw[bP,bP];rfl
  have J:Hid ((d++[i]).length=d.length+1):=by show _=_;simp
  generalize bU R i=p at*;obtain⟨B,C,q⟩:=p;obtain⟨va,f,rfl⟩:=fF c;have U:ob<W.heap.size:=(aY.1 b).1;obtain⟨n,Q⟩:∃n,n=d.length:=⟨_,rfl⟩;rw[<-Q]at b c P J |-;obtain⟨w1,r⟩:∃w1,w1=W.alloc (.cells #[ae B,ae C,ak q] 29):=⟨_,rfl⟩;have m:Below W.heap.size W w1:=by rw[r];exact(aJ _ _).alloc (aB _) _
  have X:w1.heap[W.heap.size]? =some (.cells #[ae B,ae C,ak q] 29 (0,0)):=by rw[r];exact df W _
  have y:=(m.block ob U).trans b;have au:w1.cell? (af ob 0)=some (.slice va n f):=aD y;have av:w1.cell? (af W.heap.size 2)=some (ak q):=aD X;have ad:Hid (w1.ownsRow w0.heap.size 27 1 (.slice va n f) n ((d.map (jI R)).map (Value.int .u32))):=az c m;have ab:=ag y;have H:=ag m;have G:=ag l;have an:w0.heap.size<=w1.heap.size:=bA l.size m.size;have aq:ob<w1.heap.size:=bT U m.size;have al:=ag c.lt;have V:∀j,(Value.slice va n f).ownBlock=some j->ob≠j:=bg c b ai;have K:=ag V;clear hF l b c X y m V Q ap;show aK 109 #[iV B C q,aj ob] W _;go_enter func109,ntmps109
  go_upto_region 1 with fail
  rw[<-r];clear r
  go_upto_region 1 with fail
  have am:Hid (∀(E:Value) (w2:World),w1.grownBy w2 (Value.slice va n f).ownBlock->w2.heap[ob]? =some (.cells #[.slice va n f] 35 (0,0))/\ay (fun k=>k=ob\/(Value.slice va n f).ownBlock=some k) W w2):=fun E w2 s=>by
   have M:ay (fun k=>(Value.slice va n f).ownBlock=some k) w1 w2:=(ay.refl _ _).grown s (fun k hk=>.inl hk);exact⟨(M.block ob aq (fun h=>K.o ob h rfl)).trans ab.o,((ay.refl _ W).below H.o).trans (M.mono fun k h=>.inr h)⟩
  go_wp2_with (at_builtin;refine bX uj w0.heap.size ad.o [.int .u32 q] rfl (by simp[Value.oneCell']) rfl _ _ rfl rfl _ rfl dI aa an ?_;intro E w2 A s O;have h9:=am.o E w2 s;have ac:=ag h9.1;have Y:=ag h9.2;have z:=h9.1;have aA:(w2.frozen? (af ob 0)=false):=(aD z);have aw:(w2.cell? (af ob 0)=some (.slice va n f)):=(aD z);have I:=ag O;have ah:=ag A;obtain⟨t,u,rfl⟩:=fF A;clear h9 z A O s)
  go_ret;have L:=(Y.o.set (a:=(af ob 0)) (.slice t (n+1) u) (.inl (.inl rfl)));have ao:∀j,(Value.slice t (n+1) u).ownBlock=some j->j≠ob:=fun j e=>by
   rcases I.o with h9|h9
   .exact fun N=>K.o j (h9▸e) N.symm
   .rw[h9]at e;injection e with e;intro N;simp at e;omega
  refine⟨rfl,_,⟨G.o.trans (L.toBelow G.o.size (fun k h=>?_)),.slice t (n+1) u,dC _ ob 0 _ _ _ ac.o,?_,rfl⟩,fun k h=>?_,L⟩
  .rcases h with rfl|h
   .exact T
   .exact(al.o k h).1
  .have h9:=aU (S:=fun k=>k=ob) ah.o ((ay.refl (fun k=>k=ob) w2).set (a:=(af ob 0)) (.slice t (n+1) u) (.inl rfl)) ao;rw[J.o,Z.o];exact h9
  .rcases h with rfl|h
   .exact .inl (.inl rfl)
   .rcases I.o with h9|h9
    .exact .inl (.inr (h9▸h))
    .rw[h9]at h;injection h with h;have:=H.o.size;simp at h;right;omega
theorem Q5 {more:Bool} {R:List Pt} {h:iI} {x1 x2 y:Int} (a:R.length=0\/x2<x1):ny more R h x1 x2 y=([],0):=by unfold ny;rw[aO a]
theorem Js (F:Nat) (cb:Array Value) (more:Bool) (R:List Pt) (h:iI) (cnt:Int) (V:ni) (lo hi tb fb:Nat) (w0 W:World) (S:World->List Nat->(Nat->Prop)->Prop) (D:Nat->Prop) (x1 x2 y:Int)
  (z:di w0 lo hi tb fb R h cnt V) (I:l9 R h) (ao:R.length<=20000) (s:Q4 F cb more R w0 (ny more R h x1 x2 y).1 S) (hS:S W [] D):
  aK 108 #[aj tb,ae x1,ae x2,ae y,.func (.func F) #[] cb] W (EM S W D (ny more R h x1 x2 y)):=by
 have J:=s.base W [] D hS;have l:=z.below J z.fu.2.2.2.2;have aw:=l.FD;have q:=l.blk;obtain⟨a5,a6,U⟩:=fF l.row;obtain⟨ab,ac,X,-,-,K⟩:=Rd.aG l.xs;rw[U,X]at q;have w:(bS R).length=R.length:=by unfold bS;rw[bR]
 rw[w]at q;have aL:W.cell? (af tb 0)=some (.slice a5 R.length a6):=aD q;have Q:W.cell? (af tb 1)=some (.slice ab R.length ac):=aD q;have T:W.cell? (af tb 2)=some (aj fb):=aD q;have P:Hid (∀W',Below W.heap.size W W'->S W' [] D):=fun W' A=>s.kP W W' [] D (fun _=>False) hS ((ay.refl _ W).below A) (fun k h=>h.elim);by_cases v:R.length=0\/x2<x1
 .rw[Q5 v];have ak:Hid (EM S W D ([],0) (.returned (ae 0)) W):=⟨rfl,D,hS,fun k h=>.inl h,ay.refl _ _⟩;clear z I s hS l q J P K U X Q T;generalize R.length=n at*;by_cases b:n=0
  .have d0:((n:Int)==0)=true:=by simp[b]
   have d1:(n==0)=true:=by simp[b]
   have d2:decide (n=0)=true:=by simp[b]
   clear b v w;go_enter func108,ntmps108;go_wp2;go_ret;exact ak.o
  .have d0:((n:Int)==0)=false:=by simp[b]
   have d1:(n==0)=false:=by simp[b]
   have d2:decide (n=0)=false:=by simp[b]
   have f1:decide (x1>x2)=true:=aF;have f2:decide (x2<x1)=true:=aF;clear b v w;go_enter func108,ntmps108;go_wp2;go_ret;exact ak.o
 .have b:0<R.length:=aa;have L:=ag (fun W' (A:Below W.heap.size W W')=>EK ab (bS R) ac x1 W' (K.below A) aa);have M:=ag (fun W' (A:Below W.heap.size W W')=>EL ab (bS R) ac x2 W' (K.below A) aa);have a3:=gu (fun i=>decide (x1<=(bS R).getD i 0)) (bS R).length;have a4:=gu (fun i=>decide (x2<(bS R).getD i 0)) (bS R).length;have bf:(aV (bS R) x1).2<=20000:=by unfold aV;omega
  have bg:(aS (bS R) x2).2<=20000:=by unfold aS;omega
  obtain⟨ax,a7,a8⟩:=bK 0 R.length b;have aX:=fq 0 R.length b;have B:Hid (∀a W' c,S W' [] D->¬D a->w0.heap.size<=a->W'.heap[a]? =some (yP (jh R x1) (lY R x2) y F cb c)->c<=40000->jh R x1<lY R x2->
    aK 174 #[aj tb,ae ((2*R.length-2:Nat):Int),aj a] W' (Mo S W' D a (jh R x1) (lY R x2) y F cb c [] (downG more h (lG R) y (jh R x1) (lY R x2) (dN 0 R.length) 0))):=fun a W' c aW aU u aZ bc r=>by
   have d:=Mq F cb more R h cnt V lo hi tb fb a w0 S y (jh R x1) (lY R x2) _ s z ao u (dN 0 R.length) 0 W' [] D c (jU _ b) ax aa (I.ok b) aW aU aZ aa (by
    unfold ny;rw[aM v,aO r];exact List.prefix_rfl)
   rw[show(dN 0 R.length).root 0=2*R.length-2 by unfold FT.root;omega]at d;exact d
  have bd:=(Gv I ao more x1 x2 y).2;have x:Hid (ny more R h x1 x2 y=if jh R x1<lY R x2 then((downG more h (lG R) y (jh R x1) (lY R x2) (dN 0 R.length) 0).1,(aV (bS R) x1).2+(aS (bS R) x2).2+(downG more h (lG R) y (jh R x1) (lY R x2) (dN 0 R.length) 0).2.1)else([],(aV (bS R) x1).2+(aS (bS R) x2).2)):=by
   show ny more R h x1 x2 y=_
   conv=>lhs;unfold ny
   rw[aM v]
  have O:Hid (jh R x1=(aV (bS R) x1).1/\lY R x2=(aS (bS R) x2).1):=⟨rfl,rfl⟩;rw[<-O.o.1,w]at L;rw[<-O.o.2,w]at M;have C:=ag l;have aE:=ag (s.lt W [] D hS);have bb:=J.size;have f1:decide (x1>x2)=false:=aF;have f2:decide (x2<x1)=false:=aF;obtain⟨dg,au⟩:∃dg,dg=downG more h (lG R) y (jh R x1) (lY R x2) (dN 0 R.length) 0:=⟨_,rfl⟩;rw[<-au]at B x;clear z I s hS l q J K U X v a3 a4 ax a7 a8 aX w au;generalize jh R x1=fr at*;generalize lY R x2=tu at*;generalize a0:(aV (bS R) x1).2=f at*;generalize a1:(aS (bS R) x2).2=g at*;generalize ny more R h x1 x2 y=ask at*;clear a0 a1 O;have aH:Hid (nJ W lo fb R.length V.fv):=C.o.iF;have aI:Hid (fb<W.heap.size):=bT C.o.fu.2.2.2.1 C.o.fu.2.2.2.2;clear C;generalize R.length=n at*;have d0:((n:Int)==0)=false:=aF;have d1:(n==0)=false:=aF;have d2:decide (n=0)=false:=aF;go_enter func108,ntmps108
  go_wp2_with fail
  refine(L.o W (aJ _ _)).mono ?_;rintro e w1 ⟨rfl,Y⟩;have aN:=(Y.cell (p:=(af tb 1)) aw).trans Q;have E:=ag Y;clear Y
  go_wp2_with fail
  refine(M.o w1 E.o).mono ?_;rintro e w2 ⟨rfl,aq⟩;have G:Hid (Below W.heap.size W w2):=E.o.trans (aq.mono E.o.size);clear aq aN L M E
  go_upto_region 6 with fail
  obtain⟨w3,H⟩:∃w3,w3=w2.alloc (.cells #[ae fr,ae tu,ae y,.func (.func F) #[] cb,ae ((f+g:Nat):Int)] 250):=⟨_,rfl⟩;have ar:Below w2.heap.size w2 w3:=by rw[H];exact(aJ _ _).alloc (aB _) _
  obtain⟨a,u⟩:∃a,a=w2.heap.size:=⟨_,rfl⟩;have t:w3.heap[a]? =some (yP fr tu y F cb (f+g)):=by rw[H,u];exact df w2 _
  have j:Hid (Below W.heap.size W w3):=G.o.trans (ar.mono G.o.size);have a9:W.heap.size<=a:=by rw[u];exact G.o.size
  rw[show w2.alloc (.cells #[ae fr,ae tu,ae y,.func (.func F) #[] cb,ae ((f:Int)+(g:Int))] 250)=w3 by rw[H];rfl,<-u];have ai:=ag t;have be:=(j.o.cell (p:=(af tb 2)) aw).trans T;have ba:a<w3.heap.size:=(aY.1 t).1;have aC:Hid (¬D a):=fun d=>by have:=(aE.o a d).2;omega
  clear H ar t u G aL Q T;by_cases r:fr<tu
  .have aQ:decide ((fr:Int)<(tu:Int))=true:=aF;have aR:decide (fr<tu)=true:=aF;have m:=x.o;rw[aO r]at m;have aA:=ag m;have av:=aH.o.blk;have Z:=(j.o.block fb aI.o).trans av;have ah:=ag (jw fb n b aa w3 (aD Z) (aD Z));have ad:=ag (B.o a w3 (f+g) (P.o w3 j.o) aC.o aa ai.o aa r);clear m r Z av B x
   go_wp2_with fail
   refine ah.o.mono ?_;rintro e w' ⟨rfl,aP⟩;subst aP
   go_wp2_with fail
   refine ad.o.mono ?_;rintro e w4 ⟨rfl,az,ap,am,an,al⟩;have a2:w4.cell? (af a 4)=some (ae ((f+g+dg.2.1:Nat):Int)):=aD al;have N:Hid (EM S W D ask (.returned (ae ((f+g+dg.2.1:Nat):Int))) w4):=by
    rw[aA.o];refine⟨rfl,az,ap,fun k d=>(am k d).imp id fun aT=>by have:=j.o.size;omega,?_⟩;exact(((ay.refl (fun k=>D k\/W.heap.size<=k) W).below j.o).trans (an.mono fun k d=>d.imp id fun aT=>aa)).strip
   clear ap am an al ad ah;go_wp2;go_ret;exact N.o
  .have aQ:decide ((fr:Int)<(tu:Int))=false:=aF;have aR:decide (fr<tu)=false:=aF;have m:=x.o;rw[aM r]at m;have N:Hid (EM S W D ask (.returned (ae ((f+g:Nat):Int))) w3):=by
    rw[m];exact⟨rfl,D,P.o w3 j.o,fun k h=>.inl h,(ay.refl _ W).below j.o⟩
   have t:=ai.o;have a2:w3.cell? (af a 4)=some (ae ((f+g:Nat):Int)):=aD t;clear m r t B x;go_wp2;go_ret;exact N.o
def VA (w:World) (R:List Pt) (r:List Nat×Nat) (e:Ending) (w':World):Prop:=
 ∃v,e=.returned (.tuple #[v,ae (r.2:Nat)])/\w'.ownsRow w.heap.size 27 1 v r.1.length ((dR (r.1.map (jI R))).map (Value.int .u32))/\Below w.heap.size w w'
theorem Jt {w:World} {lo hi tb fb:Nat} {R:List Pt} {h:iI} {cnt:Int} {V:ni} (x:di w lo hi tb fb R h cnt V) (j:l9 R h) (i:R.length<=20000) (x1 x2 y:Int):
  aK 41 #[aj tb,ae x1,ae x2,ae y] w (VA w R (ny true R h x1 x2 y)):=by
 obtain⟨w1,c⟩:∃w1,w1=w.alloc (.cells #[aL] 35):=⟨_,rfl⟩;have z:Below w.heap.size w w1:=by rw[c];exact(aJ _ _).alloc (aB _) _
 have B:w1.heap[w.heap.size]? =some (.cells #[aL] 35 (0,0)):=by rw[c];exact df w _
 have hS:Tn w.heap.size R w w1 [] (fun k=>k=w.heap.size\/(aL).ownBlock=some k):=⟨z,aL,B,dA _ _ _ _,rfl⟩;have⟨M,L⟩:=Gv j i true x1 x2 y;have m:=Js 109 #[aj w.heap.size] true R h cnt V lo hi tb fb w w1 (Tn w.heap.size R w) _ x1 x2 y x j i
  (Jr R w.heap.size w _ aa (aB _)) hS
 generalize ny true R h x1 x2 y=r at*;have p:=ag m;have N:r.1.length<=40000:=aa;go_enter func41,ntmps41
 go_wp2_with fail
 rw[<-c];refine p.o.mono ?_;rintro e w2 ⟨rfl,H,⟨A,v,a,b,rfl⟩,J,K⟩;have s:=ag b;have d:=ag A;have I:=ag a;have F:w2.cell? (af w.heap.size 0)=some v:=aD a;have E:∀f,v.ownBlock=some f->w.heap.size≠f:=bg b a ai;have u:=ag E;have C:=(aY.1 a).1;have n:=ag (zH (l:=r.1.map (jI R)) b aa);obtain⟨va,G,rfl⟩:=fF b
 go_wp2_with fail
 refine n.o.mono ?_;rintro e w3 ⟨rfl,D,g⟩;have t:=ag D;have O:w3.cell? (af w.heap.size 0)=some (.slice va r.1.length G):=((bY g C (fun h=>u.o _ h rfl)).1 0).trans F;have q:Hid (Below w.heap.size w w3):=d.o.trans (g.toBelow d.o.size (fun k h=>(s.o.lt k h).1));go_wp2;go_ret2;exact⟨_,rfl,t.o,q.o⟩
theorem OW (p q:Pt) (w:World):aK 71 #[iV p.1 p.2.1 p.2.2,iV q.1 q.2.1 q.2.2] w (fV w (ae (nX p q))):=
 (SN p q w).mono fun e w' ⟨a,b⟩=>⟨a,b.below (aB _)⟩
def CU (lb:Nat->Nat->Bool) (h:iI):FT->Nat->Int
 |.leaf _,_=>-1
 |.node l r,s=>match h (l.root s),h (r.root (s+l.size))with
  |none,none=>-1
  |some _,none=>(l.root s:Nat)
  |none,some _=>(r.root (s+l.size):Nat)
  |some i,some j=>if lb i j then(l.root s:Nat)else(r.root (s+l.size):Nat)
theorem GG {w:World} {lo hi tb fb:Nat} {cnt:Int} {R:List Pt} {h:iI} {V:ni} (H:di w lo hi tb fb R h cnt V) (be:R.length<=20000) {t:FT} {s:Nat} (D:FT.At (aW R.length) t s) (F:∀k i,k<(aW R.length).length->h k=some i->i<R.length):
  aK 195 #[aj tb,ae (t.root s:Nat)] w (fV w (ae (CU (CR R) h t s))):=by
 have aU:=D.lt;have bd:(aW R.length).length<=40000:=by rw[cZ];omega
 have an:0<R.length:=by have:=cZ R.length;omega
 obtain⟨ba,off,cn,env,a3⟩:=H.nodes an;obtain⟨J,ch,aH,-,-,-,-,ap,aQ,-⟩:=H.holds an;obtain⟨a1,a2,aL,-,-,a4⟩:=bV.aG bf ai H.row;have E:=H.blk;rw[env,aH,aL]at E;have aw:=H.FD;obtain⟨bJ,n0,bo,bp,bq,br,bs,bt⟩:=mR a3 D.get;have al:w.cell? (af tb 0)=some (.slice a1 R.length a2):=aD E;have a8:w.cell? (af tb 3)=some (.slice (some (af ba off)) (aW R.length).length cn):=aD E;have am:w.cell? (af tb 4)=some (ax J (aW R.length).length ch):=aD E;have ac:=ag aQ;have a7:=ag a4;have ad:=ag F;obtain⟨M,ao⟩:∃M,M=(aW R.length).length:=⟨_,rfl⟩;obtain⟨z,ar⟩:∃z,z=R.length:=⟨_,rfl⟩;obtain⟨K,aP⟩:∃K,K=t.root s:=⟨_,rfl⟩;rw[<-ao]at a8 am bd aU;rw[<-ar]at al be an;rw[<-aP]at n0 bo bp bq br bs bt aU |-;have ak:Hid (M=(aW R.length).length/\z=R.length):=⟨ao,ar⟩;obtain⟨w1,v⟩:∃w1,w1=w.alloc (.cells #[.int .u8 (t.top s).kind,ae (t.top s).l,ae (t.top s).r,ae (t.top s).fr,ae (t.top s).J8,ae 0,ae (t.top s).item] 163):=⟨_,rfl⟩;have L:Below w.heap.size w w1:=by rw[v];exact(aJ _ _).alloc (aB _) _
 have G:w1.heap[w.heap.size]? =some (.cells #[.int .u8 (t.top s).kind,ae (t.top s).l,ae (t.top s).r,ae (t.top s).fr,ae (t.top s).J8,ae 0,ae (t.top s).item] 163 (0,0)):=by rw[v];exact df w _
 have bP:w1.cell? (af w.heap.size 0)=some (.int .u8 (t.top s).kind):=aD G;have x1:w1.cell? (af w.heap.size 1)=some (ae (t.top s).l):=aD G;have x2:w1.cell? (af w.heap.size 2)=some (ae (t.top s).r):=aD G;have A:=ag L;have S:=(L.cell (p:=(af tb 0)) aw).trans al;have ay:=(L.cell (p:=(af tb 4)) aw).trans am;have y:w.heap.size<w1.heap.size:=(aY.1 G).1;have aZ:tb<w1.heap.size:=vo aw y;have bH:J<w1.heap.size:=vo ap y;clear aQ a4 F ao ar E env aH aL a3 L G aP;cases t with
 |leaf a=>
  have d1:(((FT.leaf a).top s).kind !=(2:Int))=true:=rfl;clear x1 x2 S ay al am;generalize(FT.leaf a).top s=d at*;go_enter func195,ntmps195
  go_upto_region 2 with fail
  rw[<-v];clear v;go_wp2;go_ret;exact⟨rfl,A.o⟩
 |node l r=>
  have d1:(((FT.node l r).top s).kind !=(2:Int))=false:=rfl;have aq:=D.left.lt;have av:=D.right.lt;have aS:((FT.node l r).top s).l=((l.root s:Nat):Int):=by show((s+l.size:Nat):Int)-1=_;unfold FT.root;have:=l.size_pos;omega
  have aT:((FT.node l r).top s).r=((r.root (s+l.size):Nat):Int):=by show((s+l.size+r.size:Nat):Int)-1=_;unfold FT.root;have:=r.size_pos;omega
  rw[aS]at x1;rw[aT]at x2;have B:=(A.o.cell (p:=(af J (l.root s))) ap).trans (ac.o _ aq).1;have C:=(A.o.cell (p:=(af J (r.root (s+l.size)))) ap).trans (ac.o _ av).1;have aF:Hid (∀g f,h (l.root s)=g->h (r.root (s+l.size))=f->CU (CR R) h (.node l r) s=match g,f with|none,none=>-1|some _,none=>(l.root s:Nat)|none,some _=>(r.root (s+l.size):Nat)|some i,some j=>if CR R i j then(l.root s:Nat)else(r.root (s+l.size):Nat)):=fun g f bb bc=>by subst bb bc;rfl
  have aV:=aq;have aX:=av;rw[<-ak.o.1]at aq av;obtain⟨g,O⟩:∃g,g=h (l.root s):=⟨_,rfl⟩;obtain⟨f,P⟩:∃f,f=h (r.root (s+l.size)):=⟨_,rfl⟩;have I:=ag (aF.o g f O.symm P.symm);have aA:Hid (∀i,g=some i->i<R.length):=fun i e=>ad.o _ i aV (O▸e);have aC:Hid (∀i,f=some i->i<R.length):=fun i e=>ad.o _ i aX (P▸e);rw[<-O]at B;rw[<-P]at C;clear aS aT aF O P ad ac D aV aX;generalize CU (CR R) h (.node l r) s=res at*;generalize(FT.node l r).top s=d at*;generalize l.root s=kl at*;generalize r.root (s+l.size)=kr at*;have bB:=ah ay;have bC:=ah x1;have bD:=ah x2;have bE:=ah B;have bF:=ah C;go_enter func195,ntmps195
  go_upto_region 2 with fail
  rw[<-v];clear v
  go_upto_region 4 with fail
  refine au (fun W=>∃p:aR w1,W=p.W) [17] [(0,false),(1,false),(2,false),(3,true),(4,false),(5,true),(6,false),(7,true),(8,false),(9,false),(10,false),(11,true),(12,false),(13,true),(14,false),(15,true),(16,false)] ⟨⟨_,(aJ _ _).drew⟩,rfl⟩ 1 ?_;refine aI [17] ?_;have m:Hid (Below w.heap.size w w1.drew):=A.o.drew;have S:w1.drew.cell? (af tb 0)=some (.slice a1 z a2):=S;have x1:w1.drew.cell? (af w.heap.size 1)=some (ae kl):=x1;have x2:w1.drew.cell? (af w.heap.size 2)=some (ae kr):=x2;have y:w.heap.size<w1.drew.heap.size:=y;have aZ:tb<w1.drew.heap.size:=aZ;clear bB bC bD bE bF ay B C A;generalize w1.drew=w2 at*;cases g with
  |none=>
   cases f with
   |none=>
    simp only[oh];have c:=I.o;simp only at c;subst c;go_wp2;go_ret;exact⟨rfl,m.o⟩
   |some j=>
    simp only[oh];have c:=I.o;simp only at c;subst c;have B:((j:Int)==-1)=false:=by first|(simp;done)|(simp;omega)
    have C:decide ((j:Int)=-1)=false:=by first|(simp;done)|(simp;omega)
    have ab:Hid (∀n,Below w.heap.size w (w2.drewN n)):=fun n=>m.o.trans ((Below.bn _ n).mono m.o.size)
    go_upto_region 7 with fail
    go_quiet (fail)
    go_wp2;go_ret;exact⟨rfl,ab.o _⟩
  |some i=>
   have B:((i:Int)==-1)=false:=by first|(simp;done)|(simp;omega)
   have C:decide ((i:Int)=-1)=false:=by first|(simp;done)|(simp;omega)
   have bG:((i:Int)!=-1)=true:=by first|(simp;done)|(simp;omega)
   cases f with
   |none=>
    simp only[oh];have c:=I.o;simp only at c;subst c;have ab:Hid (∀n,Below w.heap.size w (w2.drewN n)):=fun n=>m.o.trans ((Below.bn _ n).mono m.o.size)
    go_upto_region 7 with fail
    go_quiet (fail)
    go_wp2;go_ret;exact⟨rfl,ab.o _⟩
   |some j=>
    have f1:((j:Int)==-1)=false:=by first|(simp;done)|(simp;omega)
    have f2:decide ((j:Int)=-1)=false:=by first|(simp;done)|(simp;omega)
    simp only[oh];have hi:=aA.o i rfl;have x:=aC.o j rfl;obtain⟨bN,bO,a9,bM,u⟩:=(a7.o.below m.o).get aa;have T:=u i hi 0 aa;have U:=u i hi 1 aa;have X:=u i hi 2 aa;have Y:=u j x 0 aa;have v1:=u j x 1 aa;have Z:=u j x 2 aa;simp only[dw,fG,dx,dH]at T U X Y v1 Z;rw[<-dE hi]at T U X;rw[<-dE x]at Y v1 Z;subst a9;have aE:Hid (CR R i j=decide (nX (bU R i) (bU R j)<0)):=by
     show _=_;unfold CR;rw[uQ,qA]
    have bK:i<z:=by rw[ak.o.2];exact hi
    have bL:j<z:=by rw[ak.o.2];exact x
    have c:=I.o;simp only at c;rw[aE.o]at c;clear u hi x aE aA aC;generalize bU R i=p at*;generalize bU R j=q at*;have a5:=ag (fun W=>OW p q W);generalize nX p q=Q at*;obtain⟨bv,bw,bu⟩:=p;obtain⟨bz,bA,bx⟩:=q;simp only at T U X Y v1 Z;have a6:Hid (∀b:aR w2,aK 71 #[iV bv bw bu,iV bz bA bx] b.W fun e w'=>e=.returned (ae Q)/\Below b.W.heap.size b.W w'):=fun b=>a5.o b.W;have bg:=ah S;have bh:=ah T;have bi:=ah U;have bj:=ah X;have bk:=ah Y;have bl:=ah v1;have bm:=ah Z
    go_upto_region 7 with fail
    refine bI aN aN ?_
    repeat(quiet_step ((go_at_call 71;exact dK (a6.o _))))
    refine jN ?_;intro w4 a0;have N:Below w2.heap.size w2 w4:=by obtain⟨b,rfl⟩:=a0;exact b.h
    have x1:=(N.cell (p:=(af w.heap.size 1)) y).trans x1;have x2:=(N.cell (p:=(af w.heap.size 2)) y).trans x2;have az:Hid (Below w.heap.size w w4):=m.o.trans (N.mono m.o.size);clear a0 N bg bh bi bj bk bl bm;by_cases F:Q<0
    .have d1:decide (Q<0)=true:=by simp[F]
     rw[d1,aO rfl]at c;subst c;go_wp2;go_ret;exact⟨rfl,az.o⟩
    .have d1:decide (Q<0)=false:=by simp[F]
     rw[d1,aM ai]at c;subst c;go_wp2;go_ret;exact⟨rfl,az.o⟩
theorem Mr {lb:Nat->Nat->Bool} {N:List Nd} {t:FT} {s:Nat} {h:iI} (d:FT.At N t s):
  (CU lb h t s=-1/\pullH lb t s h=gz h (t.root s) none)\/
  ∃t2 e i,CU lb h t s=((t2.root e:Nat):Int)/\FT.At N t2 e/\t2.size<t.size/\h (t2.root e)=some i/\pullH lb t s h=pullH lb t2 e (gz h (t.root s) (some i)):=by
 cases t with
 |leaf a=>exact .inl ⟨rfl,rfl⟩
 |node l r=>
  have g:(FT.node l r).size=l.size+r.size+1:=rfl;have pl:=l.size_pos;have k:=r.size_pos;cases c:h (l.root s)with
  |none=>
   cases b:h (r.root (s+l.size))with
   |none=>left;simp only[CU,pullH];rw[c,b];exact⟨rfl,rfl⟩
   |some j=>right;refine⟨r,s+l.size,j,?_,d.right,aa,b,?_⟩<;>simp only[CU,pullH]<;>rw[c,b]
  |some i=>
   cases b:h (r.root (s+l.size))with
   |none=>right;refine⟨l,s,i,?_,d.left,aa,c,?_⟩<;>simp only[CU,pullH]<;>rw[c,b]
   |some j=>
    right;cases f:lb i j with
    |true=>refine⟨l,s,i,?_,d.left,aa,c,?_⟩<;>simp only[CU,pullH]<;>rw[c,b]<;>simp[f]
    |false=>refine⟨r,s+l.size,j,?_,d.right,aa,b,?_⟩<;>simp only[CU,pullH]<;>rw[c,b]<;>simp[f]
theorem Ju:gF 194:=dh func194 aN rfl
theorem Jv {w:World} {lo hi tb fb:Nat} {R:List Pt} {h:iI} {cnt:Int} {V:ni} (H:di w lo hi tb fb R h cnt V) (tc ac x k:Nat) (t:w.cell? (af tc 0)=some (aj tb)) (r:w.cell? (af ac 0)=some (ae x)) (j:k<(aW R.length).length) (q:R.length<=20000):
  aK 194 #[ae k,aj tc,aj ac] w (fV w (.bool (decide (h k=some x)))):=by
 have i:0<R.length:=by have:=cZ R.length;omega
 have p:(aW R.length).length<=40000:=by rw[cZ];omega
 obtain⟨g,ch,d,-,-,-,-,s,e,-⟩:=H.holds i;have b:=H.blk;rw[d]at b;have l:w.cell? (af tb 4)=some (ax g (aW R.length).length ch):=aD b;have m:=(e k j).1;have f:decide (h k=some x)=decide (oh (h k)=(x:Int)):=by rw[uQ,Q3]
 rw[f];have c:Hid (∀n,Below w.heap.size w (w.drewN n)):=fun n=>Below.bn _ _;clear e b d H f;generalize(aW R.length).length=M at*;generalize oh (h k)=v at*;go_enter func194,ntmps194
 go_upto_region 1 with fail
 by_cases a:v=x
 .have d1:(v==(x:Int))=true:=by simp[a]
  have d2:decide (v=(x:Int))=true:=by simp[a]
  clear a
  go_quiet (fail)
  go_wp2;go_ret;rw[d2];exact⟨rfl,c.o _⟩
 .have d1:(v==(x:Int))=false:=by simp[a]
  have d2:decide (v=(x:Int))=false:=by simp[a]
  clear a
  go_quiet (fail)
  go_wp2;go_ret;rw[d2];exact⟨rfl,c.o _⟩
def UD (w:World) (h:iI) (x:Nat) (P:List Nat) (e:Ending) (w':World):Prop:=
 ∃r:Int,e=.returned (ae r)/\Below w.heap.size w w'/\((r=-1/\∀k∈P,h k≠some x)\/∃j k:Nat,r=j/\P[j]? =some k/\h k=some x/\∀i<j,∀k',P[i]? =some k'->h k'≠some x)
theorem OX {w:World} {lo hi tb fb:Nat} {R:List Pt} {h:iI} {cnt:Int} {V:ni} (H:di w lo hi tb fb R h cnt V) (K:R.length<=20000) (tc ac x:Nat) (u:w.cell? (af tc 0)=some (aj tb)) (m:w.cell? (af ac 0)=some (ae x))
  (P:List Nat) (hP:∀k∈P,k<(aW R.length).length) (F:Option Addr) (N:Nat) (hp:Rd fB w F P) (L:P.length<=40000):
  aK 193 #[.slice F P.length N,.func (.func 194) #[] #[aj tc,aj ac]] w (UD w h x P):=by
 have E:=gX w _ u;have B:=gX w _ m;simp only at E B;have G:Hid (∀W k,Below w.heap.size w W->k∈P->aK 194 #[ae k,aj tc,aj ac] W (fV W (.bool (decide (h k=some x))))):=fun W k q s=>
  Jv (H.below q H.fu.2.2.2.2) tc ac x k ((q.cell (p:=(af tc 0)) E).trans u) ((q.cell (p:=(af ac 0)) B).trans m) (hP k s) K
 have J:=ag hp;have S:=Ju;clear H hp hP u m;unfold UD;obtain⟨n,t⟩:∃n,n=P.length:=⟨_,rfl⟩;have z:=ag t;rw[<-t]at L |-;clear t;go_enter func193,ntmps193;go_wp2
 go_loopg [8] n (fun M O wr=>∃j:Nat,O=.int .i64 j/\j<=n/\n-j<=M/\Hid (Below w.heap.size w wr)/\Hid (∀i<j,∀k',P[i]? =some k'->h k'≠some x))
 case atStart=>exact⟨0,rfl,bH _,aa,aJ _ _,fun i hi=>absurd hi (jL _)⟩
 case round=>
  obtain⟨j,rfl,U,X,a,g⟩:=hrel;by_cases Y:j<n
  .have f:j<P.length:=by have:=z.o;omega
   obtain⟨b,off,A,T,C⟩:=(J.o.below a.o).get aa;have Q:=C j f;simp only[fB]at Q;have d:=ag (G.o wr P[j] a.o (bG f));have y:Hid (P[j]? =some P[j]):=bZ f;have v:=ag A;clear C A;generalize P[j]=k at*;obtain rfl:=v.o;clear v f;by_cases c:h k=some x
   .have hd:decide (h k=some x)=true:=by simp[c]
    rw[hd]at d;have l:=ag c;clear hd c
    go_wp2_with (go_at_fn 194;refine d.o.mono ?_;rintro e w' ⟨rfl,r⟩)
    go_ret;exact⟨_,rfl,a.o.trans (r.mono a.o.size),.inr ⟨j,k,rfl,y.o,l.o,g.o⟩⟩
   .have hd:decide (h k=some x)=false:=by simp[c]
    rw[hd]at d;have l:=ag c;clear hd c
    go_wp2_with (go_at_fn 194;refine d.o.mono ?_;rintro e w' ⟨rfl,r⟩)
    go_roundg (n-(j+1))
    case measure=>omega
    case rel=>
     refine⟨j+1,by go_num,aa,aB _,a.o.trans (r.mono a.o.size),fun i hi k' D=>?_⟩;by_cases e:i=j
     .subst e;have:=y.o;rw[D]at this;injection this with this;rw[this];exact l.o
     .exact g.o i aa k' D
  .obtain rfl:j=n:=aa;have I:Hid (∀k∈P,h k≠some x):=fun k s=>by
    obtain⟨i,hi,rfl⟩:=jb s;exact g.o i (by have:=z.o;omega) _ (bZ hi)
   go_wp2;go_ret;exact⟨_,rfl,a.o,.inl ⟨rfl,I.o⟩⟩
theorem GI:gF 191:=dh func191 aN rfl
theorem OY:gF 192:=dh func192 aN rfl
def BP (w:World) (tb:Nat) (px py pi:Int):World:=(w.alloc (.cells #[aj tb] 87)).alloc (.cells #[ae px,ae py,ak pi] 29)
theorem GJ (w:World) (tb:Nat) (b c a:Int):Below w.heap.size w (BP w tb b c a)/\(BP w tb b c a).heap[w.heap.size]? =some (.cells #[aj tb] 87 (0,0))/\(BP w tb b c a).heap[w.heap.size+1]? =some (.cells #[ae b,ae c,ak a] 29 (0,0))/\(BP w tb b c a).heap.size=w.heap.size+2:=
 ⟨((aJ _ _).alloc (aB _) _).alloc aA _,IA w _ _,Ew w _ _,by simp[BP]⟩
theorem BQ {h:iI}:∀{t:FT} {s:Nat},∀p∈t.subs s,∀i∈held h p.1 p.2,i∈held h t s
 |.leaf a,s,p,hp,i,hi=>by
  have:p=(.leaf a,s):=by simpa[FT.subs]using hp
  subst this;exact hi
 |.node l r,s,p,hp,i,hi=>by
  simp only[FT.subs,bO,ji]at hp;simp only[held,bO];rcases hp with(hp|hp)|hp
  .exact .inr (.inl (BQ p hp i hi))
  .exact .inr (.inr (BQ p hp i hi))
  .subst hp;simpa only[held,bO]using hi
def Jw (w:World) (lo hi tb fb:Nat) (R:List Pt) (h:iI) (cnt:Int) (V:ni) (x:Nat) (e:Ending) (w':World):Prop:=
 (x∉og R h/\e=.returned (.bool false)/\Below w.heap.size w w')\/(x∈og R h/\e=.returned (.bool true)/\di w' lo hi tb fb R (CS R x h) (cnt-1) V/\ay (fun k=>lo<=k/\k<hi) w w')
theorem Fh {w:World} {lo hi tb fb:Nat} {R:List Pt} {h:iI} {cnt:Int} {V:ni} (Y:di w lo hi tb fb R h cnt V) (bu:l9 R h) (dg:R.length<=20000) (dR:0<=cnt) (dS:cnt<=20000) {x:Nat} (a0:x<R.length) (p:Pt) (hp:R[x]=p):
  aK 126 #[aj tb,iV p.1 p.2.1 p.2.2] w (Jw w lo hi tb fb R h cnt V x):=by
 have O:=Y.blk;have dv:=Y.FD;have b8:=Y.fu;obtain⟨a6,a7,bP,-,-,b5⟩:=bV.aG bf ai Y.row;rw[bP]at O;have CB:=ag (fun W (O:Below w.heap.size w W)=>OA a6 R R.length a7 p W rfl aa (b5.below O) bu.AU);have bw:=E5 bu.AU a0;rw[hp]at bw;rw[bw.1,bw.2]at CB;have c4:=ag b5;have cI:bU R x=p:=by rw[dE a0];exact hp
 have c2:=ag cI;have bi:=ag a0;have dI:=ag bP;obtain⟨an,ao,am⟩:=p;obtain⟨bv,b7,aV,cJ⟩:=GJ w tb an ao am;obtain⟨w1,bl⟩:∃w1,w1=BP w tb an ao am:=⟨_,rfl⟩;rw[<-bl]at bv b7 aV cJ;unfold BP at bl;have cF:=(bv.block tb dv).trans O;have aL:w1.cell? (af tb 0)=some (.slice a6 R.length a7):=aD cF;have t0:w1.cell? (af w.heap.size 0)=some (aj tb):=aD b7;have a1:w1.cell? (af (w.heap.size+1) 0)=some (ae an):=aD aV;have a2:w1.cell? (af (w.heap.size+1) 1)=some (ae ao):=aD aV;have a3:w1.cell? (af (w.heap.size+1) 2)=some (ak am):=aD aV;have al:0<R.length:=aa;have cL:=a0;obtain⟨n,b4⟩:∃n,n=R.length:=⟨_,rfl⟩;rw[<-b4]at dg aL CB al cL;have l:=ag b4;have ba:=ag bv;have ck:=ag Y;have cs:=ag bu;have cK:tb<w1.heap.size:=aa;have ca:w.heap.size<w1.heap.size:=aa;have bA:w.heap.size+1<w1.heap.size:=aa;clear Y b5 O bP b4 bv b7 aV cF cJ bw hp a0 bu cI;have d0:((n:Int)==0)=false:=aF;have d1:(n==0)=false:=aF;have d2:decide (n=0)=false:=aF;obtain⟨tc,b9⟩:∃tc,tc=w.heap.size:=⟨_,rfl⟩;have cr:=ag b9;go_enter func126,ntmps126
 go_upto_region 1 with fail
 rw[<-bl];clear bl;rw[<-b9]at t0 a1 a2 a3 ca bA |-;clear b9
 go_upto_region 3 with fail
 have cl:Hid (∀b:aR w1,aK 191 #[.slice a6 n a7,iV an ao am,.func (.func 94) #[] #[]] b.W fun e w'=>e=.returned (.tuple #[ae (x:Nat),.bool true])/\Below b.W.heap.size b.W w'):=fun b=>CB.o b.W (ba.o.trans (b.h.mono ba.o.size));clear CB
 go_cut [5,6]from 5 (fun dD dF cQ=>∃z:Nat,dD=aj z/\dF=.bool true/\Hid (Below w1.heap.size w1 cQ)/\Hid (cQ.heap[z]? =some (.cells #[ae (x:Nat)] 3 (0,0))))
 case first=>
  have bp:=ah aL;have br:=ah t0;have bs:=ah a1;have dM:=ah a2;have dO:=ah a3;refine au (fun W=>∃p:aR w1,W=p.W) [11] [(0,true),(1,false),(2,false),(3,true),(4,true)] ⟨⟨_,(aJ _ _).drew⟩,rfl⟩ 7 ?_;have C:Below w1.heap.size w1 w1.drew:=(aJ _ _).drew;refine iQ 5 9 rfl rfl (fun K c=>?_) (fun K c=>?_)
  .refine aZ GI rfl _ _ rfl (vals:=#[.slice a6 n a7,iV an ao am,.func (.func 94) #[] #[]]) rfl (cl.o ⟨w1.drew,C⟩) ?_;rintro e w3 ⟨rfl,A⟩;have f:Below w1.heap.size w1 w3:=C.trans A;refine⟨_,rfl,c _ _ (fun _ _=>⟨⟨_,f⟩,rfl⟩) ?_⟩;clear c K;refine bq [(6,false),(7,false),(8,false)] ⟨⟨_,f⟩,rfl⟩ rfl ?_;have av:Hid (Below w1.heap.size w1 (w3.alloc (.cells #[ae (x:Nat)] 3))):=f.alloc f.size _;have bM:=ag (df w3 (.cells #[ae (x:Nat)] 3));refine aH 9 rfl fun K c=>?_;go_simp;refine c _ _ (fun _ _=>⟨⟨_,f.alloc f.size _⟩,rfl⟩) ?_;clear c K;refine aH 10 rfl fun K c=>?_;go_simp;refine c _ _ (fun _ _=>⟨⟨_,av.o⟩,rfl⟩) ?_;clear c K;refine aI [11] ?_;clear f A;go_wp2;go_meet;exact⟨_,rfl,rfl,av.o,bM.o⟩
  .obtain⟨w2,bm⟩:∃w2,w2=(w1.alloc (.cells #[ae 0] 3)).drew:=⟨_,rfl⟩;have aO:Below w1.heap.size w1 w2:=by rw[bm];exact((aJ _ _).alloc (aB _) _).drew
   have cc:w2.heap[w1.heap.size]? =some (.cells #[ae 0] 3 (0,0)):=by rw[bm];exact df w1 _
   go_simp;rw[<-bm];clear bm;refine c _ _ (fun _ _=>⟨⟨_,aO⟩,rfl⟩) ?_;clear c K;refine aH 5 rfl fun K c=>?_;refine aZ GI rfl _ _ rfl (vals:=#[.slice a6 n a7,iV an ao am,.func (.func 94) #[] #[]]) rfl (cl.o ⟨w2,aO⟩) ?_;rintro e w3 ⟨rfl,A⟩;have f:Below w1.heap.size w1 w3:=aO.trans (A.mono aO.size);have bE:=(A.block _ (aY.1 cc).1).trans cc;refine⟨_,rfl,c _ _ (fun _ _=>⟨⟨_,f⟩,rfl⟩) ?_⟩;clear c K;refine bq [(6,false),(7,false),(8,false)] ⟨⟨_,f⟩,rfl⟩ rfl ?_;have ap:w3.cell? (af w1.heap.size 0)=some (ae 0):=aD bE;have aq:w3.frozen? (af w1.heap.size 0)=false:=aD bE;have av:Hid (Below w1.heap.size w1 (w3.setCell (af w1.heap.size 0) (.int .i64 (x:Nat)))):=⟨f.os,f.tape,f.output,aP f.size,fun b O=>(aC (show w1.heap.size≠b by omega)).trans (f.block b O)⟩;have bM:Hid ((w3.setCell (af w1.heap.size 0) (.int .i64 (x:Nat))).heap[w1.heap.size]? =some (.cells #[ae (x:Nat)] 3 (0,0))):=dC w3 _ 0 _ _ _ bE;refine aH 10 rfl fun K c=>?_;go_simp;refine c _ _ (fun _ _=>⟨⟨_,av.o⟩,rfl⟩) ?_;clear c K;refine aI [11] ?_;clear f A aO cc bE ap aq;go_wp2;go_meet;exact⟨_,rfl,rfl,av.o,bM.o⟩
 case rest=>
  obtain⟨z,rfl,rfl,cV,cU⟩:=hcut;have bR:=cU.o;have D:=cV.o;have ar:Hid (Below w.heap.size w wc):=ba.o.trans (D.mono ba.o.size);have J:wc.cell? (af z 0)=some (ae (x:Nat)):=aD bR;have Z:z<wc.heap.size:=(aY.1 bR).1;have aL:=(D.cell (p:=(af tb 0)) cK).trans aL;have t0:=(D.cell (p:=(af tc 0)) ca).trans t0;have a1:=(D.cell (p:=(af (tc+1) 0)) bA).trans a1;have a2:=(D.cell (p:=(af (tc+1) 1)) bA).trans a2;have a3:=(D.cell (p:=(af (tc+1) 2)) bA).trans a3;have y:tc<wc.heap.size:=bT ca D.size;have bg:Hid (di wc lo hi tb fb R h cnt V):=ck.o.below ar.o b8.2.2.2.2;have cD:=bg.o.blk;have bj:wc.cell? (af tb 2)=some (aj fb):=aD cD;obtain⟨b,off,c9,dj,v⟩:=(c4.o.below ar.o).get (by have:=l.o;omega);have cd:=v x bi.o 0 aa;have ce:=v x bi.o 1 aa;have cf:=v x bi.o 2 aa;rw[<-dE bi.o,c2.o]at cd ce cf;simp only[dw,fG,dx,dH]at cd ce cf;subst c9;have dW:tb<wc.heap.size:=bT cK D.size;clear v bR D cD ck
  go_upto_region 4 with fail
  go_quiet (fail)
  obtain⟨w3,G⟩:∃w3,w3=wc.drewN nq:=⟨_,rfl⟩;have A:Below wc.heap.size wc w3:=by rw[G];exact Below.bn _ _
  have J:w3.cell? (af z 0)=some (ae (x:Nat)):=by rw[G];exact J
  have t0:w3.cell? (af tc 0)=some (aj tb):=by rw[G];exact t0
  have bj:w3.cell? (af tb 2)=some (aj fb):=by rw[G];exact bj
  have aE:Hid (di w3 lo hi tb fb R h cnt V):=bg.o.below A bg.o.fu.2.2.2.2;have bb:Hid (Below w.heap.size w w3):=ar.o.trans (A.mono ar.o.size);have Z:z<w3.heap.size:=by rw[G];exact Z
  have y:tc<w3.heap.size:=by rw[G];exact y
  go_upto_region 6 with fail
  rw[<-G];clear G A bg ar cd ce cf a1 a2 a3 aL dj;have C:Below w3.heap.size w3 w3.drew:=(aJ _ _).drew;have cj:=ag (vG lo fb n x V.fv aa cL w3.drew (by rw[l.o];exact(aE.o.below C aE.o.fu.2.2.2.2).iF));have bp:=ah t0;have br:=ah bj;have bs:=ah J;refine au (fun W=>∃p:aR w3,W=p.W) [5,6,7,8,9,10] [(0,true),(1,false),(2,false),(3,true),(4,true)] ⟨⟨_,(aJ _ _).drew⟩,rfl⟩ 6 ?_;refine aH 5 rfl fun K c=>?_;refine aZ OY rfl _ _ rfl (vals:=#[aj fb,ae (x:Nat)]) rfl cj.o ?_;rintro e w4 ⟨pv,rfl,bC,cC⟩;have H:Below w3.heap.size w3 w4:=C.trans cC;refine⟨_,rfl,c _ _ (fun _ h=>absurd aA h) ?_⟩;clear c K;refine bq [(6,false),(7,false),(8,false)] ⟨⟨_,H⟩,rfl⟩ rfl ?_;refine aI [9,10] ?_;have bd:Hid (di w4 lo hi tb fb R h cnt V):=aE.o.below H aE.o.fu.2.2.2.2;have bH:Hid (Below w.heap.size w w4):=bb.o.trans (H.mono bb.o.size);have t0:=(H.cell (p:=(af tc 0)) y).trans t0;have J:=(H.cell (p:=(af z 0)) Z).trans J;have y:tc<w4.heap.size:=bT y H.size;have Z:z<w4.heap.size:=bT Z H.size;obtain⟨P,aN⟩:∃P,P=(dN 0 n).path 0 x:=⟨_,rfl⟩;rw[<-aN]at bC;have dQ:P.length<=n+1:=by
   have cx:=FT.oH (dN 0 n) 0 x;have bQ:=vC 0 n n (vg (Eg));rw[aN];omega
  obtain⟨cb,dq,dm⟩:=bK 0 n al;have bt:=jU n al;rw[fI al]at bt;have cB:∀k∈P,k<(aW R.length).length:=fun k ac=>by
   rw[aN]at ac;obtain⟨⟨t,s⟩,dz,dy,-,-⟩:=FT.mW (dN 0 n) 0 x cb aa aa k ac;have dh:FT.At (aW n) t s:=by rw[fI al];exact FT.kS _ 0 bt _ dz
   have:=dh.lt;simp only at dy;rw[<-l.o];omega
  have bB:=yJ (lt:=zC R) (lb:=CR R) (dN 0 n) 0 h x cb (by have:=cs.o.ok (by have:=l.o;omega);rw[<-l.o]at this;exact this) aa aa;rw[<-aN]at bB;have b0:og R h=held h (dN 0 n) 0:=by rw[nM (by have:=l.o;omega),l.o]
  have co:Hid (((∀k∈P,h k≠some x)->x∉og R h)/\∀m k:Nat,P[m]? =some k->h k=some x->(∀i<m,∀k',P[i]? =some k'->h k'≠some x)->∃E I,FT.At (aW R.length) E I/\k=E.root I/\CS R x h=pullH (CR R) E I h/\x∈og R h):=by
   refine⟨fun cy=>by rw[b0];exact bB.1 cy,fun m k cx bQ de=>?_⟩;obtain⟨E,I,a4,a5,bF⟩:=bB.2 m k cx bQ de;refine⟨E,I,?_,a5,?_,?_⟩
   .rw[<-l.o,fI al];exact FT.kS _ 0 bt _ a4
   .unfold CS;rw[<-l.o];exact bF
   .rw[b0];refine BQ _ a4 x ?_;obtain⟨L,c8⟩:=o8 (t:=E) (s:=I) (h:=h) (by rw[<-a5];exact bQ);rw[c8];simp
  obtain⟨cN,cO,rfl,-,-,b6⟩:=Rd.aG (enc:=fB) bC;have cq:Hid (w4.ownsRow w3.heap.size 3 1 (.slice cN P.length cO) P.length (P.map fB)):=bJ bC (aB _);have dU:w.heap.size<=w3.heap.size:=bb.o.size;have c5:=ag b6;have ci:=ag (OX bd.o (by have:=l.o;omega) tc z x t0 J P cB cN cO b6 aa);clear bB b0 cB aN cb dq dm bt bC b6 H cC C bp br bs cj aE bb bj
  go_wp2_with fail
  refine ci.o.mono ?_;rintro e F ⟨dZ,rfl,ab,dk⟩;have be:Hid (di F lo hi tb fb R h cnt V):=bd.o.below ab bd.o.fu.2.2.2.2;have bI:Hid (Below w.heap.size w F):=bH.o.trans (ab.mono bH.o.size);have t0:=(ab.cell (p:=(af tc 0)) y).trans t0;have y:tc<F.heap.size:=bT y ab.size;have bN:=ag (az cq.o ab);clear ab ci bd bH c5 J Z;rcases dk with⟨rfl,cH⟩|⟨j,k,rfl,bx,b3,cE⟩
  .have T:Hid (Jw w lo hi tb fb R h cnt V x (.returned (.bool false)) F):=.inl ⟨co.o.1 cH,rfl,bI.o⟩;clear cH;go_wp2;go_ret;exact T.o
  .obtain⟨E,I,a4,a5,bF,cP⟩:=co.o.2 j k bx b3 cE;have dn:j<P.length:=(fo.1 bx).1;have cA:P[j]=k:=(fo.1 bx).2;have cT:=ag a4;have cZ:=ag a5;have c1:=ag bF;have cW:=ag cP;have bS:=be.o.blk;have c7:F.cell? (af tb 5)=some (ae cnt):=aD bS;have dG:F.frozen? (af tb 5)=false:=aD bS;have dL:decide ((j:Int)<0)=false:=aA;have dV:=be.o.FD;have cG:j<P.length:=dn;have c3:=ag cA;clear cA bS a4 a5 bF cP bx b3 cE
   go_upto_region 11 with fail
   obtain⟨w6,bo⟩:∃w6,w6=F.setCell (af tb 5) (.int .i64 (cnt-1)):=⟨_,rfl⟩;have c0:Hid (di w6 lo hi tb fb R h (cnt-1) V):=by rw[bo];exact be.o.BB (cnt-1)
   have aT:ay (fun k=>k=tb) F w6:=by rw[bo];exact(ay.refl (fun k=>k=tb) F).set (a:=(af tb 5)) _ (.inl rfl)
   have cY:Hid (ay (fun k=>lo<=k/\k<hi) w w6):=((ay.refl _ w).below bI.o).trans (aT.mono fun k h=>by subst h;exact⟨b8.1,b8.2.1⟩);have du:tc≠tb:=by have:=cr.o;omega
   have t0:=((bY aT y du).1 0).trans t0;have y:tc<w6.heap.size:=bT y aT.size;have bD:=aU bN.o aT (fun g e cy=>by have:=(bN.o.lt g e).1;omega);obtain⟨dP,dK,cw,-,-⟩:=aQ bD aa;rw[cw]at bD;injection cw with da db dc;have cR:=bD.cellAt j aa;rw[iy,bZ cG,c3.o]at cR;simp only[fP,fB]at cR;rw[<-bo];subst da;clear bo c7 dG aT bD db dc be bI bN cq cG
   go_wp2_with fail
   go_loopg [10] E.size (fun dA dB wr=>∃(t:FT) (s:Nat) (u:iI),dB=.int .i64 (t.root s:Nat)/\t.size<=dA/\Hid (FT.At (aW R.length) t s)/\Hid (di wr lo hi tb fb R u (cnt-1) V)/\Hid (pullH (CR R) t s u=CS R x h)/\Hid (∀k i,k<(aW R.length).length->u k=some i->i<R.length)/\Hid (ay (fun k=>lo<=k/\k<hi) w wr)/\wr.cell? (af tc 0)=some (aj tb))
   case atStart=>exact⟨E,I,h,by rw[cZ.o],aB _,cT,c0,c1.o.symm,fun k i ac e=>cs.o.pl ac e,cY,t0⟩
   case round=>
    obtain⟨t,s,u,rfl,b3,bG,U,bO,bc,cm,a8⟩:=hrel;have S:=ag (GG U.o (by have:=l.o;omega) bG.o bc.o);have ds:=Mr (lb:=CR R) (h:=u) bG.o;have ad:=bG.o.lt;have dY:=U.o.FD;have aX:tc<wr.heap.size:=gX wr _ a8;rcases ds with⟨aM,X⟩|⟨t2,cg,i,aM,X,ct,cu,cv⟩
    .rw[aM]at S;have bh:=ag X;clear aM X
     go_wp2_with fail
     refine S.o.mono ?_;rintro e d ⟨rfl,B⟩;have r:Hid (di d lo hi tb fb R u (cnt-1) V):=U.o.below B U.o.fu.2.2.2.2;have aw:Hid (ay (fun k=>lo<=k/\k<hi) w d):=cm.o.below B;have t7:=(B.cell (p:=(af tc 0)) aX).trans a8;obtain⟨q,ch,N,bW,bX,-,-,dl,v,-⟩:=r.o.holds (by have:=l.o;omega);obtain⟨ap,aq⟩:=v _ ad;have Q:=r.o.blk;rw[N]at Q;have bk:d.cell? (af tb 4)=some (ax q (aW R.length).length ch):=aD Q;have T:Hid (Jw w lo hi tb fb R h cnt V x (.returned (.bool true)) (d.setCell (af q (t.root s)) (.int .i64 (-1)))):=by
      refine .inr ⟨cW.o,rfl,?_,aw.o.set (a:=(af q (t.root s))) _ (.inl ⟨bW,bX⟩)⟩;have:=r.o.nN N ad none;rw[<-bh.o,bO.o]at this;exact this
     clear B Q v N r aw S a8 aX;generalize t.root s=kr at*;generalize(aW R.length).length=M at*;go_wp2;go_ret;exact T.o
    .rw[aM]at S;have bh:=ag cv;have cS:=ag X;have c6:=ag ct;have bL:=ag cu;have bz:=X.lt;clear aM X ct cu cv
     go_wp2_with fail
     refine S.o.mono ?_;rintro e d ⟨rfl,B⟩;have r:Hid (di d lo hi tb fb R u (cnt-1) V):=U.o.below B U.o.fu.2.2.2.2;have aw:Hid (ay (fun k=>lo<=k/\k<hi) w d):=cm.o.below B;have t7:=(B.cell (p:=(af tc 0)) aX).trans a8;have dt:tc<d.heap.size:=bT aX B.size;obtain⟨q,ch,N,bW,bX,-,-,dl,v,-⟩:=r.o.holds (by have:=l.o;omega);obtain⟨ap,aq⟩:=v _ ad;obtain⟨y1,-⟩:=v _ bz;rw[bL.o]at y1;simp only[oh]at y1;have Q:=r.o.blk;rw[N]at Q;have bk:d.cell? (af tb 4)=some (ax q (aW R.length).length ch):=aD Q;have dX:=r.o.FD;have dT:=bc.o _ i bz bL.o;have T:Hid (∀a9,a9=d.drew.setCell (af q (t.root s)) (.int .i64 (i:Nat))->di a9 lo hi tb fb R (gz u (t.root s) (some i)) (cnt-1) V/\ay (fun k=>lo<=k/\k<hi) w a9/\a9.cell? (af tc 0)=some (aj tb)):=fun a9 dd=>by
      subst dd;have C:Below d.heap.size d d.drew:=(aJ _ _).drew;have dr:=r.o.below C r.o.fu.2.2.2.2;refine⟨dr.nN N ad (some i),(aw.o.below C).set (a:=(af q (t.root s))) _ (.inl ⟨bW,bX⟩),?_⟩;have dp:ay (fun k=>k=q) d.drew (d.drew.setCell (af q (t.root s)) (.int .i64 (i:Nat))):=(ay.refl (fun k=>k=q) _).set (a:=(af q (t.root s))) _ (.inl rfl);exact((bY dp (show tc<d.drew.heap.size from dt) (by have:=cr.o;omega)).1 0).trans t7
     have cn:Hid (∀k j,k<(aW R.length).length->gz u (t.root s) (some i) k=some j->j<R.length):=fun k j ac aS=>by
      by_cases e:k=t.root s
      .subst e;rw[fU]at aS;injection aS with aS;omega
      .rw[iq e]at aS;exact bc.o k j ac aS
     have cp:Hid (pullH (CR R) t2 cg (gz u (t.root s) (some i))=CS R x h):=by
      show _=_;rw[<-bh.o];exact bO.o
     clear B Q v N r aw S a8 aX bh bL bc bO;obtain⟨kr,b2⟩:∃kr,kr=t.root s:=⟨_,rfl⟩;obtain⟨cM,b1⟩:∃cM,cM=t2.root cg:=⟨_,rfl⟩;obtain⟨M,cz⟩:∃M,M=(aW R.length).length:=⟨_,rfl⟩;rw[<-b2]at ap aq ad T cp cn |-;rw[<-b1]at y1 bz |-;rw[<-cz]at bk ad bz;have cX:=ag b1;have dJ:=ag b2;clear b2 b1 cz;have bp:=ah t7;have br:=ah bk;have bs:=ah y1
     go_upto_region 16 with fail
     refine au (fun W=>∃p:aR d,W=p.W) [12,13] [(0,true),(1,false),(2,false),(3,true),(4,false),(5,true),(6,false),(7,false),(8,true),(9,false),(10,false),(11,true)] ⟨⟨_,(aJ _ _).drew⟩,rfl⟩ 2 ?_;refine aI [12,13] ?_;have ap:d.drew.cell? (af q kr)=some (ae (oh (u kr))):=ap;have aq:d.drew.frozen? (af q kr)=false:=aq;clear bp br bs y1 t7 bk;generalize d.drew=d3 at*;go_wp2
     go_roundg (t2.size)
     case measure=>have:=c6.o;omega
     case rel=>
      obtain⟨f1,f2,f3⟩:=T.o _ rfl;exact⟨t2,cg,_,by rw[cX.o],aB _,cS,f1,cp,cn,f2,f3⟩
theorem Ms {P:Program} {ops:Array Oper} {rest:List Oper} {op:Oper} {a:Act} {Q:Exit->Act->World->Prop} {α:Type} {enc:α->Value} {t e:TypeId} {bytes:Nat} (g:eG P t e 1 bytes) {W:World} {ad:Option Addr} {l:List α} {c n:Nat} (p:Rd enc W ad l) (r:l.length=n) (k:n<=c) (lo hi:Nat) (i:lo<=hi) (j:hi<=n)
  (m:op.guard=none) (x:Operand) (d b:Option Operand) (s:op.op=.slice t x d b none) (u:a.eval x=.slice ad n c)
  (q:(d.map a.eval).getD (.int .i64 0)=.int .i64 lo) (o:(b.map a.eval).getD (.int .i64 n)=.int .i64 hi)
  (h:∀f,bV (fun x=>[enc x]) 1 W f ((l.take hi).drop lo)->wpList P ops Q rest (a.put op.dst (.slice f (hi-lo) (c-lo))) W):wpList P ops Q (op::rest) a W:=by
 subst r;exact Lt g p.Vl k lo hi i j m x d b s u q o h
theorem Rd.We {α:Type} {enc:α->Value} {w:World} {a:Option Addr} {l:List α} (h:bV (fun x=>[enc x]) 1 w a l):Rd enc w a l:=by
 rcases h with h|⟨b,off,rfl,c,d⟩
 .exact .inl h
 .exact .inr ⟨b,off,rfl,c,fun i hi=>by simpa using d i hi 0 aa⟩
def Ua (a:Option Addr) (v:Value):Prop:=∀ad,a=some ad->v.ownBlock≠some ad.block
def BR (W:World) (lo hi tb fb:Nat) (R:List Pt) (h':iI) (cnt:Int) (V:ni) (e:Ending) (w':World):Prop:=
 e=.returned (.tuple #[])/\di w' lo hi tb fb R h' cnt V/\ay (fun k=>V.hv.ownBlock=some k) W w'
theorem qY (p:Nat->Bool) (L:List Nat) {i:Nat} (h:i<L.length):(L.take (i+1)).filter p=(L.take i).filter p++(if p L[i]then[L[i]]else[]):=by
 rw[ig h,lU];congr 1;rw[lW];split<;>rfl
theorem BS {lo hi tb fb:Nat} {R:List Pt} {cnt:Int} {V:ni} (dw:R.length<=20000) (t:FT) (s:Nat) (bl:FT.At (aW R.length) t s) (bB:t.wf) (dD:t.hi<=R.length) (L:List Nat) (W:World) (h:iI) (x:Option Addr) (P:Nat)
  (H:di W lo hi tb fb R h cnt V) (hp:Rd fB W x L) (cp:L.length<=20000) (bq:L.length<=P) (cv:Ua x V.hv) (cd:∀i∈L,i<=1000000)
  (bz:∀l r,t=.node l r->(∀(L:List Nat) (W:World) (h:iI) (x:Option Addr) (P:Nat),di W lo hi tb fb R h cnt V->Rd fB W x L->L.length<=20000->L.length<=P->Ua x V.hv->(∀i∈L,i<=1000000)->
    aK 101 #[aj tb,ae (l.root s:Nat),.slice x L.length P] W (BR W lo hi tb fb R (fillH l s L h) cnt V))/\
    ∀(L:List Nat) (W:World) (h:iI) (x:Option Addr) (P:Nat),di W lo hi tb fb R h cnt V->Rd fB W x L->L.length<=20000->L.length<=P->Ua x V.hv->(∀i∈L,i<=1000000)->
    aK 101 #[aj tb,ae (r.root (s+l.size):Nat),.slice x L.length P] W (BR W lo hi tb fb R (fillH r (s+l.size) L h) cnt V)):
  aK 101 #[aj tb,ae (t.root s:Nat),.slice x L.length P] W (BR W lo hi tb fb R (fillH t s L h) cnt V):=by
 have a4:=bl.lt;have bi:0<R.length:=by have:=t.eY bB;omega
 cases L with
 |nil=>
  rw[yH];have cN:Hid (BR W lo hi tb fb R h cnt V (.returned (.tuple #[])) W):=⟨rfl,H,ay.refl _ _⟩;clear H hp bz;simp only[fC];go_enter func101,ntmps101;go_wp2
  go_end0
  exact cN.o
 |cons i L=>
  obtain⟨a1,off,cn,env,aN⟩:=H.nodes bi;obtain⟨f,ch,Z,dy,dz,-,-,c4,aC,-⟩:=H.holds bi;obtain⟨a7,a8⟩:=aC _ a4;have bm:=H.blk;rw[env,Z]at bm;have bg:W.cell? (af tb 4)=some (ax f (aW R.length).length ch):=aD bm;obtain⟨b,o,ar,ce,bw⟩:=hp.get aA;have aO:=bw 0 aA;simp only[nA,fB,dH]at aO;have da:b≠f:=fun e=>by
   have:=cv _ ar;rw[Z]at this;exact this (by rw[e];rfl)
  obtain⟨w1,av⟩:∃w1,w1=W.drew.setCell (af f (t.root s)) (.int .i64 (i:Nat)):=⟨_,rfl⟩;have a3:ay (fun k=>k=f) W w1:=by rw[av];exact((ay.refl (fun k=>k=f) W).drew).set (a:=(af f (t.root s))) _ (.inl rfl)
  have am:Hid (di w1 lo hi tb fb R (gz h (t.root s) (some i)) cnt V):=by
   rw[av];exact(H.below (aJ W.heap.size W).drew H.fu.2.2.2.2).nN Z a4 (some i)
  have bR:Hid (ay (fun k=>V.hv.ownBlock=some k) W w1):=a3.mono fun k e=>by subst e;rw[Z];rfl
  have cw:Rd fB w1 (some (af b o)) (i::L):=.inr ⟨b,o,rfl,bT ce a3.size,fun j cl=>((bY a3 ce da).1 _).trans (bw j cl)⟩;have cL:=ag cw;have ba:=ag cd;have bf:=ag bz;have aP:=ag bl;have bc:=ag Z;have cO:=ag bB;have c3:(aW R.length).length<=40000:=by rw[cZ];omega
  simp only[ed]at cp bq |-;have d0:(((L.length+1:Nat):Int)==0)=false:=by first|(simp;done)|(simp;omega)
  subst ar;clear aC bm env Z H hp bw cv cd bz a3 cw bl aN bB;obtain⟨n,bu⟩:∃n,n=L.length:=⟨_,rfl⟩;have an:=ag bu;rw[<-bu]at cp bq d0 |-;obtain⟨K,bj⟩:∃K,K=t.root s:=⟨_,rfl⟩;have cE:=ag bj;obtain⟨M,bk⟩:∃M,M=(aW R.length).length:=⟨_,rfl⟩;have bU:=ag bk;rw[<-bj]at a7 a8 a4 av |-;rw[<-bk]at bg a4 c3;clear bu bj bk;have c0:=ah bg;have c1:=ah aO;go_enter func101,ntmps101
  go_upto_region 1 with fail
  refine au (fun W'=>∃p:aR W,W'=p.W) [8,9] [(0,false),(1,false),(2,false),(3,true),(4,false),(5,false),(6,false),(7,true)] ⟨⟨_,(aJ _ _).drew⟩,rfl⟩ 2 ?_;refine aI [8,9] ?_;have a7:W.drew.cell? (af f K)=some (ae (oh (h K))):=a7;have a8:W.drew.frozen? (af f K)=false:=a8;clear c0 c1 bg aO
  go_upto_region 2 with fail
  rw[show(W.setCell (af f K) (.int .i64 (i:Nat))).drew=w1 by rw[av];rfl];clear av a7 a8;obtain⟨a1,off,cn,env,aN⟩:=am.o.nodes bi;have bo:=am.o.blk;rw[env]at bo;have b3:w1.cell? (af tb 3)=some (.slice (some (af a1 off)) M cn):=by simp[World.cell?,bo];exact bU.o.symm
  obtain⟨c5,n0,bC,bE,bF,bI,cC,bJ⟩:=mR aN aP.o.get;rw[<-cE.o]at n0 bC bE bF bI cC bJ;have dc:=am.o.FD;have bZ:=ag aN;obtain⟨d,hd⟩:∃d,d=t.top s:=⟨_,rfl⟩;rw[<-hd]at n0 bC bE bF bI bJ;have aQ:=ag hd;clear hd;obtain⟨w2,a0⟩:∃w2,w2=w1.alloc (.cells #[.int .u8 d.kind,ae d.l,ae d.r,ae d.fr,ae d.J8,ae 0,ae d.item] 163):=⟨_,rfl⟩;have ab:Below w1.heap.size w1 w2:=by rw[a0];exact(aJ _ _).alloc (aB _) _
  have aL:w2.heap[w1.heap.size]? =some (.cells #[.int .u8 d.kind,ae d.l,ae d.r,ae d.fr,ae d.J8,ae 0,ae d.item] 163 (0,0)):=by rw[a0];exact df w1 _
  have aO:w2.cell? (af w1.heap.size 0)=some (.int .u8 d.kind):=aD aL;have x1:w2.cell? (af w1.heap.size 1)=some (ae d.l):=aD aL;have x2:w2.cell? (af w1.heap.size 2)=some (ae d.r):=aD aL;have aM:=(ab.cell (p:=(af tb 3)) dc).trans b3;have al:w1.heap.size<w2.heap.size:=(aY.1 aL).1;have bO:=ag ab;have aT:Hid (di w2 lo hi tb fb R (gz h (t.root s) (some i)) cnt V):=am.o.below ab am.o.fu.2.2.2.2;have bS:Hid (ay (fun k=>V.hv.ownBlock=some k) W w2):=bR.o.below ab;have cM:Hid (Rd fB w2 (some (af b o)) (i::L)):=cL.o.below ab;clear env aN bo ab aL
  go_upto_region 3 with fail
  rw[<-a0];clear a0 n0 bC bE bF bI cC bJ b3;cases t with
  |leaf a=>
   have d1:(d.kind !=(2:Int))=true:=by rw[aQ.o];rfl
   have bb:Hid (BR W lo hi tb fb R (fillH (.leaf a) s (i::L) h) cnt V (.returned (.tuple #[])) w2):=⟨rfl,aT.o,bS.o⟩;clear x1 x2 bf;go_wp2
   go_end0
   exact bb.o
  |node l r=>
   have d1:(d.kind !=(2:Int))=false:=by rw[aQ.o];rfl
   have cq:=aP.o.left.lt;have cA:=aP.o.right.lt;have ci:d.l=((l.root s:Nat):Int):=by rw[aQ.o];show((s+l.size:Nat):Int)-1=_;unfold FT.root;have:=l.size_pos;omega
   have cj:d.r=((r.root (s+l.size):Nat):Int):=by rw[aQ.o];show((s+l.size+r.size:Nat):Int)-1=_;unfold FT.root;have:=r.size_pos;omega
   rw[ci]at x1;rw[cj]at x2;obtain⟨b0,b1⟩:=bf.o l r rfl;have bd:=ag b0;have be:=ag b1;obtain⟨m0,m1,m2,m3,m4,N,dg,dh⟩:=mR (bZ.o.below bO.o) aP.o.left.get;rw[FT.vD]at N;have bt:=cO.o;have c9:l.hi<=20000:=by
    have:=FT.eY r bt.2.1;have az:(FT.node l r).hi=r.hi:=rfl;have:=bt.2.2;omega
   have cH:Hid (∃c,c=l.hi):=⟨_,rfl⟩;rw[<-bU.o]at cq cA;clear ci cj b0 b1 bf m1 m2 m3 m4 dg dh bt bZ;have bW:Hid (fillH (.node l r) s (i::L) h=fillH r (s+l.size) (L.filter fun j=>!decide (j<l.hi)) (fillH l s (L.filter fun j=>decide (j<l.hi)) (gz h ((FT.node l r).root s) (some i)))):=rfl;obtain⟨c,cr⟩:∃c,c=l.hi:=⟨_,rfl⟩;obtain⟨kl,cm⟩:∃kl,kl=l.root s:=⟨_,rfl⟩;obtain⟨kr,co⟩:∃kr,kr=r.root (s+l.size):=⟨_,rfl⟩;rw[<-cr]at N c9 bW;rw[<-cm]at N x1 bd cq;rw[<-co]at x2 be cA;clear cr cm co cH
   go_upto_region 5 with fail
   have cs:(i::L).length=n+1:=by simp[an.o]
   have bV:=ag cs;clear cs
   go_wp2_with (refine Ms nD cM.o bV.o bq 1 (n+1) aa (aB _) rfl _ _ _ rfl rfl rfl rfl ?_;intro cP cx;simp only[Nat.add_sub_cancel])
   have b5:Rd fB w2 cP L:=by
    have y:=Rd.We cx;rw[<-bV.o,jK]at y;exact y
   have cI:=ag b5;clear cx b5;obtain⟨O,cu⟩:∃O,O=w1.heap.size:=⟨_,rfl⟩;have ck:f<w1.heap.size:=bT c4 bR.o.size;rw[<-cu]at aO x1 x2 al ck |-;clear cu;have dd:tb<w2.heap.size:=aT.o.FD;have c6:a1<w2.heap.size:=bT c5 bO.o.size;have c7:hi<=w2.heap.size:=aT.o.fu.2.2.2.2
   go_loopg [7,8,36] n (fun de dk dl dj wr=>∃(j:Nat) (va a5:Value),dj=.int .i64 j/\dk=va/\dl=a5/\j<=n/\n-j<=de/\Hid (Below w2.heap.size w2 wr)/\
    Hid (wr.ownsRow w2.heap.size 3 1 va ((L.take j).filter fun k=>decide (k<c)).length (((L.take j).filter fun k=>decide (k<c)).map fB))/\
    Hid (wr.ownsRow w2.heap.size 3 1 a5 ((L.take j).filter fun k=>!decide (k<c)).length (((L.take j).filter fun k=>!decide (k<c)).map fB))/\Hid (∀g,va.ownBlock=some g->a5.ownBlock≠some g))
   case atStart=>exact⟨0,_,_,rfl,rfl,rfl,bH _,aa,aJ _ _,dA _ _ _ _,dA _ _ _ _,fun g h=>by cases h⟩
   case round=>
    obtain⟨j,va,a5,rfl,rfl,rfl,cl,dF,u,J,D,I⟩:=hrel;obtain⟨aX,aZ,rfl⟩:=fF J.o;obtain⟨aq,cb,rfl⟩:=fF D.o;by_cases dG:j<n
    .have aH:j<L.length:=by have:=an.o;omega
     obtain⟨dq,dJ,ar,dx,aC⟩:=(cI.o.below u.o).get aa;have a6:=aC j aH;simp only[fB]at a6;have ao:=ag (qY (fun k=>decide (k<c)) L aH);have ap:=ag (qY (fun k=>!decide (k<c)) L aH);have c8:=ba.o L[j] (kX _ (bG aH));obtain⟨k,ac⟩:∃k,k=L[j]:=⟨_,rfl⟩;rw[<-ac]at a6 ao ap c8;have br:((L.take j).filter fun k=>decide (k<c)).length<=n:=bA (gV _ _) (by rw[eX];omega);have bs:((L.take j).filter fun k=>!decide (k<c)).length<=n:=bA (gV _ _) (by rw[eX];omega);generalize(L.take j).filter (fun k=>decide (k<c))=A at*;generalize(L.take j).filter (fun k=>!decide (k<c))=B at*;have aM:=(u.o.cell (p:=(af tb 3)) dd).trans aM;have x1:=(u.o.cell (p:=(af O 1)) al).trans x1;have N:=(u.o.cell (p:=(af a1 (off+kl*7+4))) c6).trans N;have bN:=ag ar;clear aC ac ar;obtain⟨z,ai⟩:∃z,z=A.length:=⟨_,rfl⟩;obtain⟨C,ak⟩:∃C,C=B.length:=⟨_,rfl⟩;rw[<-ai]at br J I |-;rw[<-ak]at bs D I |-;have aV:Hid (z=A.length/\C=B.length):=⟨ai,ak⟩;clear ai ak;have F:∀q,Below w2.heap.size w2 (wr.drewN q)/\(wr.drewN q).ownsRow w2.heap.size 3 1 (.slice aX z aZ) z (A.map fB)/\(wr.drewN q).ownsRow w2.heap.size 3 1 (.slice aq C cb) C (B.map fB)/\w2.heap.size<=(wr.drewN q).heap.size:=fun q=>
      ⟨u.o.trans ((Below.bn _ q).mono u.o.size),J.o.bn q,D.o.bn q,u.o.size⟩
     have aS:=ag F;clear F;obtain rfl:=bN.o;clear bN J D aH;by_cases dE:k<c
     .have cQ:decide ((k:Int)<(c:Int))=true:=aF;have bh:decide (k<c)=true:=aF;rw[bh]at ao ap
      go_upto_region 8 with fail
      go_quiet (fail)
      obtain⟨f1,f2,f3,f4⟩:=aS.o nq;have Q:=ag f1;have S:=ag f2;have T:=ag f3;obtain⟨G,aw⟩:∃G,G=wr.drewN nq:=⟨_,rfl⟩;rw[<-aw]at Q S T f4 |-;clear aw f1 f2 f3 aS aM x1 N a6
      go_wp2_with (at_builtin;refine bX nD w2.heap.size S.o [.int .i64 k] rfl (by simp[Value.oneCell']) rfl _ _ rfl rfl _ rfl dI aa f4 ?_;intro bL w6 bv aE bp)
      go_roundg (n-(j+1))
      case measure=>omega
      case rel=>
       have cB:∀g,(Value.slice aq C cb).ownBlock=some g->(Value.slice aX z aZ).ownBlock≠some g:=fun g E w=>I.o g w E;have K:ay (fun q=>(Value.slice aX z aZ).ownBlock=some q) G w6:=(ay.refl _ G).grown aE (fun q bx=>.inl bx);refine⟨j+1,bL,_,by go_num,rfl,rfl,aa,aB _,dB Q.o S.o aE Q.o.size (aB _),?_,?_,?_⟩
       .show World.ownsRow _ _ _ _ _ _ _;rw[ao.o];simp only[gN];rw[bP,bQ,<-aV.o.1];exact bv
       .show World.ownsRow _ _ _ _ _ _ _;rw[ap.o];simp only[AJ,qP,jO,iL];rw[<-aV.o.2];exact aU T.o K (fun g E w=>cB g E w)
       .intro g e y;rcases gH bp with Y|⟨q,Y,c2⟩
        .exact cB g y (Y▸e)
        .rw[Y]at e;injection e with e;have:=(T.o.lt g y).2;omega
     .have cQ:decide ((k:Int)<(c:Int))=false:=aF;have bh:decide (k<c)=false:=aF;rw[bh]at ao ap
      go_upto_region 8 with fail
      go_quiet (fail)
      obtain⟨f1,f2,f3,f4⟩:=aS.o nq;have Q:=ag f1;have S:=ag f2;have T:=ag f3;obtain⟨G,aw⟩:∃G,G=wr.drewN nq:=⟨_,rfl⟩;rw[<-aw]at Q S T f4 |-;clear aw f1 f2 f3 aS aM x1 N a6
      go_wp2_with (at_builtin;refine bX nD w2.heap.size T.o [.int .i64 k] rfl (by simp[Value.oneCell']) rfl _ _ rfl rfl _ rfl dI aa f4 ?_;intro bL w6 bv aE bp)
      go_roundg (n-(j+1))
      case measure=>omega
      case rel=>
       have K:ay (fun q=>(Value.slice aq C cb).ownBlock=some q) G w6:=(ay.refl _ G).grown aE (fun q bx=>.inl bx);refine⟨j+1,_,bL,by go_num,rfl,rfl,aa,aB _,dB Q.o T.o aE Q.o.size (aB _),?_,?_,?_⟩
       .show World.ownsRow _ _ _ _ _ _ _;rw[ao.o];simp only[qP,jO,iL];rw[<-aV.o.1];exact aU S.o K (fun g E w=>I.o g E w)
       .show World.ownsRow _ _ _ _ _ _ _;rw[ap.o];simp only[Bool.not_false,gN];rw[bP,bQ,<-aV.o.2];exact bv
       .intro g e y;rcases gH bp with Y|⟨q,Y,c2⟩
        .exact I.o g e (Y▸y)
        .rw[Y]at y;injection y with y;have:=(S.o.lt g e).2;omega
    .obtain rfl:j=n:=aa;have b9:L.take j=L:=by rw[an.o,jK]
     rw[b9]at J D I |-;have cJ:Hid (di wr lo hi tb fb R (gz h ((FT.node l r).root s) (some i)) cnt V):=aT.o.below u.o c7;have cF:Hid (ay (fun k=>V.hv.ownBlock=some k) W wr):=bS.o.below u.o;have ca:∀k∈L.filter (fun k=>decide (k<c)),k<=1000000:=fun k ac=>ba.o k (kX _ (bD.1 ac).1);have cc:∀k∈L.filter (fun k=>!decide (k<c)),k<=1000000:=fun k ac=>ba.o k (kX _ (bD.1 ac).1);have br:(L.filter fun k=>decide (k<c)).length<=j:=bA (gV _ _) (by rw[an.o];exact aB _);have bs:(L.filter fun k=>!decide (k<c)).length<=j:=bA (gV _ _) (by rw[an.o];exact aB _);generalize L.filter (fun k=>decide (k<c))=A at*;generalize L.filter (fun k=>!decide (k<c))=B at*;have x1:=(u.o.cell (p:=(af O 1)) al).trans x1;have x2:=(u.o.cell (p:=(af O 2)) al).trans x2;have db:O<wr.heap.size:=bT al u.o.size;obtain⟨dn,dr,cR,-,cf,cy⟩:=Rd.aG (enc:=fB) J.o;injection cR with cS cT cU;subst cS cU;have dC:f<w2.heap.size:=vo ck al;have bK:∀{v:Value} {m:Nat} {X:List Value} {a:Option Addr} {n' b2:Nat} {w':World},w'.ownsRow w2.heap.size 3 1 v m X->v=.slice a n' b2->Ua a V.hv:=fun{v m X a n' b2 w'} E w ad e az=>by
      subst w e;rcases E.2 with⟨U,-⟩|⟨g,dt,du,U,dv,-⟩
      .cases U
      .injection U with U;injection U with U;subst U;rw[bc.o]at az;injection az with az;simp only at az;omega
     have a9:=ag (bd.o A wr _ aX aZ cJ.o cy aa cf (bK J.o rfl) ca);have cD:=ag cc;have cK:Hid (Ua aq V.hv):=bK D.o rfl;clear b9 cy J bK ca cc bd N aM cT;obtain⟨z,ai⟩:∃z,z=A.length:=⟨_,rfl⟩;rw[<-ai]at a9 cf br I |-;clear ai
     go_wp2_with fail
     refine a9.o.mono ?_;rintro e w6 ⟨rfl,b6,a2⟩;have ct:¬V.hv.ownBlock=some O:=fun e=>by
      rw[bc.o]at e;have e:f=O:=Er e;omega
     have x2:=((bY a2 db ct).1 2).trans x2;have b8:=aU D.o a2 (fun g E w=>by
      rw[bc.o]at w;have w:f=g:=Er w;have:=(D.o.lt g E).1;omega)
     obtain⟨dp,ds,cV,-,cg,cz⟩:=Rd.aG (enc:=fB) b8;injection cV with cW cX cY;subst cW cY;have bM:=ag (be.o B w6 _ aq cb b6 cz aa cg cK.o cD.o);have cG:Hid (ay (fun k=>V.hv.ownBlock=some k) W w6):=cF.o.trans a2;clear b8 cz b6 a2 ct a9 be D cX;obtain⟨C,ak⟩:∃C,C=B.length:=⟨_,rfl⟩;rw[<-ak]at bM cg bs I |-;clear ak
     go_wp2_with fail
     refine bM.o.mono ?_;rintro e dm ⟨rfl,b7,b4⟩;have bb:Hid (BR W lo hi tb fb R (fillH (.node l r) s (i::L) h) cnt V (.returned (.tuple #[])) dm):=by
      rw[bW.o];exact⟨rfl,b7,cG.o.trans b4⟩
     clear b7 b4;go_wp2
     go_end0
     exact bb.o
theorem Mt {lo hi tb fb:Nat} {R:List Pt} {cnt:Int} {V:ni} (o:R.length<=20000):∀(t:FT) (s:Nat),FT.At (aW R.length) t s->t.wf->t.hi<=R.length->∀(L:List Nat) (W:World) (h:iI) (b:Option Addr) (c:Nat),
  di W lo hi tb fb R h cnt V->Rd fB W b L->L.length<=20000->L.length<=c->Ua b V.hv->(∀i∈L,i<=1000000)->
  aK 101 #[aj tb,ae (t.root s:Nat),.slice b L.length c] W (BR W lo hi tb fb R (fillH t s L h) cnt V):=by
 intro t
 induction t with
 |leaf a=>exact fun s m k n L W h b c H hp d f g j=>BS o _ s m k n L W h b c H hp d f g j (fun l r e=>by cases e)
 |node l r p q=>
  intro s m k n L W h b c H hp d f g j;refine BS o _ s m k n L W h b c H hp d f g j fun l' x e=>?_;cases e;have u:=FT.eY r k.2.1;have v:=k.2.2;have w:(FT.node l r).hi=r.hi:=rfl;exact⟨fun L W h b c H hp d f g j=>p s m.left k.1 aa L W h b c H hp d f g j,fun L W h b c H hp d f g j=>q _ m.right k.2.1 aa L W h b c H hp d f g j⟩
theorem GK:∃i,Tryz.prog.info? 3=some i/\i.zero=some (.int .i64 0)/\i.size=1/\i.bytes=8:=by
 have h:(Tryz.prog.info? 3).map (fun i=>(i.zero,i.size,i.bytes))=some (some (.int .i64 0),1,8):=aN;cases hi:Tryz.prog.info? 3 with
 |none=>rw[hi]at h;cases h
 |some i=>rw[hi]at h;injection h with h;injection h with b a;injection a with a c;exact⟨i,rfl,b,a,c⟩
theorem GL:(Tryz.prog.info? 3).map (·.size)=some 1:=by
 have⟨i,a,c,b,d⟩:=GK;rw[a];simp[b]
theorem KL (n:Nat) (d:n<=1000000) (W:World):(Instr.makeSlice 148 (.int .i64 n) (.int .i64 n)).run prog W=.ok (ax W.heap.size n n) (W.alloc (.cells (madeCells #[ae 0] n) 3)):=by
 have⟨i,hi,c,b,a⟩:=GK;have h:=run_make (P:=prog) W 148 3 i (.int .i64 0) underlying148 hi c .i64 .i64 n n aa (vz _) (by rw[a];omega) aa;rw[h,ib,b,iN];rfl
theorem BU (W:World) (n:Nat):(W.alloc (.cells (madeCells #[ae 0] n) 3)).heap[W.heap.size]? =some (.cells (List.replicate n (ae 0)).toArray 3 (0,0)):=by
 rw[df];congr 2;apply Array.ext';rw[toList_madeCells_one]
theorem DF {w:World} {base g n:Nat} {xs:List Value} (c:w.heap[g]? =some (.cells xs.toArray 3 (0,0))) (b:base<=g) (a:xs.length=n) (d:n<=maxLen):w.ownsRow base 3 1 (ax g n n) n xs:=
 ⟨aP a,.inr ⟨g,n,xs.toArray,rfl,b,c,aB _,d,aP a,by rw[iN];exact jJ aF⟩⟩
theorem uy {P:Program} {ops:Array Oper} {o:Oper} {a:Act} {C:World->Prop} {b:Bool} {K:Act->Prop} {E0:Prop} {sz:Nat} {t e:TypeId} {bytes:Nat} (r:eG P t e sz bytes) (ad:Option Addr) (n c lo hi:Nat) (p:lo<=hi) (q:hi<=c)
  (s:o.guard=none) (x:Operand) (m f:Option Operand) (j:o.op=.slice t x m f none) (l:a.eval x=.slice ad n c) (g:(m.map a.eval).getD (.int .i64 0)=.int .i64 lo) (d:(f.map a.eval).getD (.int .i64 n)=.int .i64 hi)
  (h:K (a.put o.dst (.slice (if c=lo then ad else ad.map (·.add (lo*sz))) (hi-lo) (c-lo)))):
  if Region.wanted o (yielded ops a.tmps)=true then Oper.eT P o a C b K else E0:=by
 have y:Region.wanted o (yielded ops a.tmps)=true:=by simp[Region.wanted,s]
 rw[aO y];obtain⟨ht,⟨i,z,u,D,v,A,E⟩,B⟩:=r;have hu:∀W',(underlying t).run P W'=.ok (.slice e) W':=fun W'=>pQ ht W';have k:∀W',(sizeOf e).run P W'=.ok sz W':=fun W'=>by simp[sizeOf,typeInfo,u,v]
 refine⟨_,fun w _=>?_,h⟩;unfold execOp;rcases m with _|lw
 .simp only[lJ,mK,pO,qb]at g;obtain rfl:lo=0:=aa;rcases f with _|hg
  .simp only[lJ,mK,pO,qb]at d;obtain rfl:hi=n:=aa;simp[j,l,Instr.sliceAt,Instr.slice,Instr.sliceBounds,hu,k]
  .simp only[fP,gG]at d;simp[j,l,d,Instr.sliceAt,Instr.slice,Instr.sliceBounds,Instr.sliceBound,hu,k,asIntOf,q]
 .simp only[fP,gG]at g;rcases f with _|hg
  .simp only[lJ,mK,pO,qb]at d;obtain rfl:hi=n:=aa;simp[j,l,g,Instr.sliceAt,Instr.slice,Instr.sliceBounds,Instr.sliceBound,hu,k,asIntOf,p]
  .simp only[fP,gG]at d;simp[j,l,g,d,Instr.sliceAt,Instr.slice,Instr.sliceBounds,Instr.sliceBound,hu,k,asIntOf,p,q]
def sI (M k:Nat):List Value:=List.replicate k (.int .i64 (-1))++List.replicate (M-k) (.int .i64 0)
theorem GM {M k:Nat} (h:k<=M):(sI M k).length=M:=by simp[sI];omega
theorem Mv (M:Nat):sI M 0=List.replicate M (.int .i64 0):=by simp[sI]
theorem Mw (M:Nat):sI M M=List.replicate M (.int .i64 (-1)):=by simp[sI]
theorem zn {M k m:Nat} (h:k+m<=M):splice (sI M k) k (List.replicate m (.int .i64 (-1)))=sI M (k+m):=by
 unfold splice sI;rw[DY aA,jJ aA,iw,List.drop_append];rw[ow aA,fO,List.drop_replicate,iw,<-dY,List.replicate_append_replicate];congr 2;omega
theorem OZ {M k j:Nat} (h:j<k):(sI M k)[j]? =some (.int .i64 (-1)):=by
 unfold sI;rw[lQ (aP h),ru,aO h]
theorem O0 (w:World) (b M:Nat) (r:w.heap[b]? =some (.cells #[ae (-1)] 3 (0,0))) (ac:M<=1000000):
  aK 100 #[ax b 1 1,ae M] w fun e w'=>∃v,e=.returned v/\w'.ownsRow w.heap.size 3 1 v M (List.replicate M (.int .i64 (-1)))/\Below w.heap.size w w':=by
 have am:=KL M ac;have n:=ag (fun W=>Tryz.bits_Mul 1 M aa aa W);have p:1*M/18446744073709551616=0:=aa;have q:1*M%18446744073709551616=M:=aa;rw[p,q]at n;have z:=ag (BU w M);have ai:b<w.heap.size:=(aY.1 r).1;have L:(w.alloc (.cells (madeCells #[ae 0] M) 3)).cell? (af b 0)=some (ae (-1)):=by
  have d:=(bW w (.cells (madeCells #[ae 0] M) 3) _ ai).trans r;simp[World.cell?,d]
 have A:=ag L;have d0:decide ((M:Int)<0)=false:=aA;have d3:decide ((M:Int)>9223372036854775807)=false:=aF;have d4:decide ((9223372036854775807:Int)<(M:Int))=false:=aF;have d5:decide (9223372036854775807<M)=false:=aF;clear p q r L;go_enter func100,ntmps100
 go_wp2_with fail
 refine(n.o w).mono ?_;rintro e w' ⟨rfl,ab⟩;subst ab
 go_upto_region 7 with fail
 obtain⟨w1,c⟩:∃w1,w1=w'.alloc (.cells (madeCells #[ae 0] M) 3):=⟨_,rfl⟩;obtain⟨g,f⟩:∃g,g=w'.heap.size:=⟨_,rfl⟩;have G:Below w'.heap.size w' w1:=by rw[c];exact(aJ _ _).alloc (aB _) _
 have t:w'.heap.size<=g:=AP f.symm;have Q:w1.heap[g]? =some (.cells (sI M 0).toArray 3 (0,0)):=by rw[c,f,Mv];exact z.o
 have B:Hid (w1.cell? (af b 0)=some (ae (-1))):=by rw[c];exact A.o
 have az:b≠g:=aa;rw[<-c,<-f];have F:=ag Q;have y:=ag G;clear c am z A n Q G f d0 d3 d4 d5;obtain⟨m,i⟩:∃m,m=Nat.min 1 M:=⟨_,rfl⟩;have D:=ag i;have al:m<=M:=by rw[i];exact Nat.min_le_right _ _
 have P:0<M->0<m:=fun h=>by rw[i];exact Nat.lt_min.2 ⟨aa,h⟩
 have X:=ag P;clear i P;have ht:∀j v,(List.replicate m (ae (-1)))[j]? =some v->w1.cell? (((af b 0):Addr).add j)=some v:=fun j v h=>by
  rw[ru]at h;split at h
  .rename_i aj;injection h with h;have:j=0:=by have ap:=D.o;have d:Nat.min 1 M<=1:=Nat.min_le_left _ _;omega
   subst this;rw[<-h];simpa[Addr.add]using B.o
  .cases h
 have E:=ag ht;clear ht
 go_wp2_with (refine wpList_copy_splice rfl _ _ _ _ rfl 3 underlying148 GL _ _ _ _ _ _ rfl rfl g 0 (sI M 0) 3 F.o (List.replicate m (.int .i64 (-1))) (by rw[iw];exact D.o) (fun _=>⟨rfl,_,rfl,E.o⟩) (by rw[iw,GM aa];omega) (fun v u=>by rw[List.eq_of_mem_replicate u];rfl) w'.heap.size w' y.o t ?_;intro w2 N H;simp only[iw,goInt];rw[zn (M:=M) (k:=0) (m:=m) aa,kG]at N;have R:=ag H;clear H)
 clear F y E B
 go_loopg [8] M (fun an ao wr=>∃k:Nat,ao=.int .i64 k/\k<=M/\M-k<=an/\Hid (0<M->0<k)/\Hid (wr.heap[g]? =some (.cells (sI M k).toArray 3 (0,0)))/\Hid (Below w'.heap.size w' wr))
 case atStart=>exact⟨m,rfl,al,aa,X,N,R⟩
 case round=>
  obtain⟨k,rfl,aq,ar,Y,C,x⟩:=hrel;by_cases au:k<M
  .have ak:=Y.o aa;obtain⟨m2,l⟩:∃m2,m2=Nat.min k (M-k):=⟨_,rfl⟩;have av:k+m2<=M:=by have d:Nat.min k (M-k)<=M-k:=Nat.min_le_right _ _;omega
   have aw:0<m2:=by rw[l];exact Nat.lt_min.2 ⟨ak,aa⟩
   have ay:m2<=k:=by rw[l];exact Nat.min_le_left _ _
   have V:=ag l;have Z:Hid (∀W:World,W.heap[g]? =some (.cells (sI M k).toArray 3 (0,0))->∀j v,(List.replicate m2 (ae (-1)))[j]? =some v->W.cell? (((af g 0):Addr).add j)=some v):=fun W ad j v h=>by
    rw[ru]at h;split at h
    .rename_i aj;have d:=OZ (M:=M) (k:=k) (j:=j) aa;rw[<-h];have ah:((af g 0):Addr).add j=(af g j):=by unfold Addr.add;split<;>simp_all
     rw[ah];simp[World.cell?,ad,d]
    .cases h
   clear l;have p:decide ((k:Int)<(M:Int))=true:=aF;have q:decide (k<M)=true:=aF
   go_upto_region 9 with fail
   refine lN (fun _=>True) [7,8,9] [(0,false),(1,false),(2,false),(3,false),(4,false),(5,false),(6,false)] trivial 3 ?_;simp only[jR,uJ,uL,uF,dx,fG,fP]
   iterate 3 (refine iX (fun K a=>?_);go_simp;first|(refine a _ ?_;clear a K)|(apply Exists.intro;refine⟨fun _=>?_,a _ ?_⟩;rfl;clear a K))
   refine iX (fun K a=>?_);refine uy nD (some (af g 0)) M M k M aa (aB _) rfl _ _ _ rfl rfl rfl rfl (a _ ?_);clear a K;rw[aM aa]
   iterate 2 (refine iX (fun K a=>?_);go_simp;first|(refine a _ ?_;clear a K)|(apply Exists.intro;refine⟨fun _=>?_,a _ ?_⟩;rfl;clear a K))
   refine iX (fun K a=>?_);refine uy nD (some (af g 0)) M M 0 k aa aa rfl _ _ _ rfl rfl rfl rfl (a _ ?_);clear a K;rw[aM aa];refine oN ?_;refine aH 7 rfl fun K a=>?_;have s:wr.drew.heap[g]? =some (.cells (sI M k).toArray 3 (0,0)):=C.o;have J:Below w'.heap.size w' wr.drew:=x.o.drew;refine step_copy_splice rfl _ _ _ _ rfl 3 underlying148 GL (some (af g k)) (some (af g 0)) (M-k) (M-k) k M (by simp[Act.eval,Act.put,Addr.add]) (by simp[Act.eval,Act.put,Addr.add]) g k (sI M k) 3 s (List.replicate m2 (.int .i64 (-1))) (by rw[iw];exact V.o) (fun _=>⟨rfl,_,rfl,Z.o _ s⟩) (by rw[iw,GM aa];omega) (fun v u=>by rw[List.eq_of_mem_replicate u];rfl) w'.heap.size w' J t ?_;intro w3 O I;simp only[iw,goInt];rw[zn (M:=M) (k:=k) (m:=m2) aa]at O;have U:=O;have S:=ag I;clear I s J;refine a _ _ (fun _ h=>absurd aA h) ?_;clear a K;refine aI [8,9] ?_;go_wp2
   go_roundg (M-(k+m2))
   case measure=>omega
   case rel=>exact⟨k+m2,by go_num,aa,aB _,fun _=>aa,U,S⟩
  .obtain rfl:k=M:=aa;have T:Hid (wr.ownsRow w'.heap.size 3 1 (ax g k k) k (List.replicate k (.int .i64 (-1)))):=by
    have:=C.o;rw[Mw]at this;exact DF this t aA dI
   go_wp2;go_ret;exact⟨_,rfl,T.o,x.o⟩
theorem Jy:gF 99:=dh func99 aN rfl
theorem Q6 {W:World} {tb tc:Nat} {t:Option Addr} {G n:Nat} {R:List Pt} (z:W.cell? (af tc 0)=some (aj tb)) (w:W.cell? (af tb 0)=some (.slice t n G)) (s:bV dw 3 W t R) (y:R.length=n) (i j:Nat) (hi:i<n) (J:j<n) (L:n<=1000000):
  aK 99 #[ae i,ae j,aj tc] W fun e w'=>e=.returned (ae (nX (bU R i) (bU R j)))/\xx W w':=by
 have b:i<R.length:=aa;have c:j<R.length:=aa;obtain⟨V,X,x,M,a⟩:=s.get aa;have d:=a i b 0 aa;have f:=a i b 1 aa;have g:=a i b 2 aa;have k:=a j c 0 aa;have v1:=a j c 1 aa;have l:=a j c 2 aa;simp only[dw,fG,dx,dH]at d f g k v1 l;rw[<-dE b]at d f g;rw[<-dE c]at k v1 l;subst x;clear a b c s y;generalize bU R i=p at*;generalize bU R j=q at*;have u:=ag (fun W=>SN p q W);generalize nX p q=U at*;obtain⟨B,C,A⟩:=p;obtain⟨E,F,D⟩:=q;simp only at d f g k v1 l;have H:=ah z;have I:=ah w;have N:=ah d;have O:=ah f;have P:=ah g;have Q:=ah k;have S:=ah v1;have T:=ah l;go_enter func99,ntmps99
 go_upto_region 1 with fail
 refine au (fun W'=>∃p:aR W,W'=p.W) [14,15] [(0,true),(1,false),(2,false),(3,true),(4,false),(5,false),(6,true),(7,true),(8,false),(9,false),(10,true),(11,false),(12,false),(13,true)] ⟨⟨_,(aJ _ _).drew⟩,rfl⟩ 2 ?_;refine aH 14 rfl fun K m=>?_;refine aZ Bl rfl _ _ rfl (vals:=#[iV B C A,iV E F D]) rfl (u.o W.drew) ?_;rintro e w2 ⟨rfl,r⟩;refine⟨_,rfl,m _ _ (fun _ h=>absurd aA h) ?_⟩;clear m K;refine aI [15] ?_;have v:Hid (xx W w2):=((xx.refl W).drew).trans r;clear r;go_wp2;go_ret;exact⟨rfl,v.o⟩
theorem VB (R:List Pt) (n:Nat):SWO (ltOf fun i j:Fin n=>nX (bU R i) (bU R j)):=
 ⟨fun x=>QB.irrefl (bU R x),fun x y z=>QB.trans (bU R x) (bU R y) (bU R z),fun x y z=>QB.ntrans (bU R x) (bU R y) (bU R z)⟩
theorem Q7 {w:World} {base g c n tb tc:Nat} {G:Option Addr} {aD:Nat} {R:List Pt} (hu:(ids R).Nodup) (av:R.Pairwise kH) (ai:R.length=n) (T:0<n) (ak:n<=1000000) (am:w.ownsRow base 3 1 (ax g n c) n ((List.range n).map fB))
  (Q:w.cell? (af tc 0)=some (aj tb)) (H:w.cell? (af tb 0)=some (.slice G n aD)) (D:bV dw 3 w G R) (I:tc≠g) (J:tb≠g) (o:∀ad,G=some ad->ad.block≠g):
  aK 98 #[ax g n c,.func (.func 99) #[] #[aj tc]] w fun e w'=>
   e=.returned (.tuple #[])/\w'.ownsRow base 3 1 (ax g n c) n ((dQ R).map fB)/\ay (fun k=>k=g) w w':=by
 haveI:Inhabited (Fin n):=⟨⟨0,T⟩⟩
 obtain⟨a,ab,z,aJ,ah,an,ht⟩:∃a:Array Value,base<=g/\w.heap[g]? =some (.cells a 3 (0,0))/\n<=c/\c<=maxLen/\a.size=c/\a.toList.take n=(List.range n).map fB:=by
  rcases am.2 with⟨e,-⟩|⟨aI,aE,a,e,E,F,az,aB,aQ,aC⟩
  .cases e
  .injection e with f aH S;injection f with f;injection f with f _ _;subst f S;exact⟨a,E,F,az,aB,aa,by rwa [iN]at aC⟩
 obtain⟨l,A⟩:∃l:List (Fin n),l=List.finRange n:=⟨_,rfl⟩;have r:l.length=n:=by rw[A];simp
 have P:l.map (fun i:Fin n=>(i:Nat))=List.range n:=by rw[A];exact rF aA (fun i I J=>aA)
 obtain⟨enc,s⟩:∃enc:Fin n->Value,enc=fun i=>fB i.val:=⟨_,rfl⟩;have ae:l.map enc=(List.range n).map fB:=by rw[<-P,vv,s];rfl
 have U:Holds enc w g 0 l.toArray:=holds_of_block z (by rw[r,ht,ae]);have ag:g<w.heap.size:=(aY.1 z).1;have O:∀(m:Nat) (os:Array Obj) (dk:Array (Fin n)),ay (fun k=>k=g) w (sortWorld enc w g 0 m dk os):=fun m os dk=>by
  refine⟨rfl,rfl,rfl,?_,fun k aL B=>?_⟩
  .show w.heap.size<=((w.heap.modify g _)++os).size;simp
  .show((w.heap.modify g _)++os)[k]? =_;rw[xz aF,xC,aM (fun e=>B e.symm)]
 have ar:=gX w _ Q;have aq:=gX w _ H;have V:CmpLays1 prog 99 #[aj tc] enc (fun i j:Fin n=>nX (bU R i) (bU R j)) g 0 l.toArray.size w:=fun m os dk _ x y=>by
  have K:=O m os dk;rw[s]at K |-;refine(Q6 (((bY K ar I).1 0).trans Q) (((bY K aq J).1 0).trans H) ?_ ai x y x.2 y.2 ak).mono fun e w' ⟨v,q,aw,au⟩=>⟨v,q,aw,au⟩;rcases D with D|⟨b,off,rfl,M,W⟩
  .exact .inl D
  .exact .inr ⟨b,off,rfl,bT M K.size,fun i hi j t=>((bY K M (o _ rfl)).1 _).trans (W i hi j t)⟩
 have u:=Any.slices_SortFunc Tryz.Gu enc (fun x=>by rw[s];rfl) (fun i j:Fin n=>nX (bU R i) (bU R j)) (VB R n) 99 #[aj tc] g 0 c l.toArray w Jy V U ag (by simp[r];omega);change aK 98 _ _ _ at u;rw[show l.toArray.size=n by simpa using r]at u;refine u.mono ?_;rintro e w' ⟨v,d',m,os,hp,ao,rfl⟩;have C:=rZ (d:=l.toArray) (d':=d') (by rw[show l.toArray.size=n by simpa using r];exact hp);have N:d'.toList.length=n:=by rw[C.length_eq];simpa using r
 have L:=qB av hu;have X:(d'.toList.map fun i:Fin n=>(i:Nat)).Pairwise (zC R):=by
  refine dm.2 ?_;have al:d'.toList.Nodup:=C.nodup_iff.2 (by rw[A];simpa using List.nodup_finRange n);have ap:d'.toList.Pairwise fun i j:Fin n=>¬nX (bU R j) (bU R i)<0:=by
   rw[fZ];intro i j hi t ac;have aN:d'.size=n:=aP N;have o:=ao i j (bH _) ac (by simp at t |-;omega);simp at hi t;rw[rP d' j aa,rP d' i aa]at o;unfold ltOf at o;simpa using o
  refine List.Pairwise.imp (fun{i j} h=>?_) (ap.and al);have⟨E,F⟩:=h;rw[qA]at E;have B:(i:Nat)≠(j:Nat):=fun e=>F (Fin.ext e);have:=Jj hu (i:=i) (k:=j) aa aa B;unfold jI at this;unfold zC;unfold tX at*;omega
 have Y:d'.toList.map (fun i:Fin n=>(i:Nat))=dQ R:=by
  refine qi (R:=zC R) (fun i=>wz _) (fun h h'=>Di h h') X L.TY fun i=>?_;rw[(C.map _).mem_iff,L.live,ru];show i∈l.map _↔_;rw[P,uV];constructor
  .intro h;rw[aO aa]
  .intro h;by_cases p:i<R.length
   .omega
   .rw[aM p]at h;cases h
 obtain⟨aG,-,-,-,p⟩:=rT (enc:=enc) (l:=l) (l':=d'.toList) ab z aa ah an aa m os;rw[N]at p;have Z:d'.toList.map enc=(dQ R).map fB:=by rw[<-Y,vv,s];rfl
 rw[Z]at p;refine⟨v,?_,O m os d'⟩;simpa[sortWorld]using p
theorem GN (a:Option Addr) (c:Nat) (l:List Pt) (w:World) (s:bV dw 3 w a l) (O:l.length<=1000000) (x:HZ l):
  aK 97 #[.slice a l.length c] w (fV w (.bool (lF l))):=by
 have B:=ag s;have E:=ag x;clear s x;have N:=@run_makeMap prog;go_enter func97,ntmps97;go_wp2
 go_loopw [9] (fun k wr=>∃i:Nat,k=.int .i64 i/\i<=l.length/\Below w.heap.size w wr/\Hid (∃(D:DataW Unit),wr.ownsMap prog 27 (plainElem prog 3) w.heap.size i D/\nL D l i)) (fun k _=>l.length-(intOf k).toNat)
 case atStart=>exact⟨0,rfl,bH _,(aJ _ _).alloc (aB _) _,⟨.map [],xK _ _ _ _,[],IsM.empty _ _⟩⟩
 case round=>
  obtain⟨i,rfl,hi,e,HO⟩:=hrel;by_cases g:i<l.length
  .obtain⟨b,off,q,M,f⟩:=(B.o.below e).get aa;have K:=f i g 0 aa;have x1:=f i g 1 aa;have x2:=f i g 2 aa;simp only[dw,fG,dx,dH]at K x1 x2;have G:Hid (keyOf prog 27 (.int .u32 l[i].2.2)=some (.int .u32 l[i].2.2)):=x8 underlying27 (E.o _ (bG _));obtain⟨D,t,d⟩:=HO.o;have n:=ag (d.put g);have L:=e.size;have m:=ag q;clear HO f d q;generalize l[i]=p at*;obtain⟨I,J,H⟩:=p;obtain rfl:=m.o;clear m;have h:=t.kept (qN wr (.cells #[ae I,ae J,ak H] 29) none) aA
   go_wp2_with (at_mapUpdate;refine xD _ rfl _ _ _ 26 rfl 27 3 (int_keyed underlying27) underlying26 _ w.heap.size i _ rfl h dI _ _ _ rfl rfl G.o _ [] (uY underlying3 (by simp[Lit.wf,IntKind.min,IntKind.max,IntKind.bits,IntKind.signed];omega)) ?_;intro w3 u r)
   have y:Below w.heap.size wr w3:=(((aJ _ wr).alloc aa _)).grown r aF (fun j F=>by cases F;omega);have A:Hid (∃(D:DataW Unit),w3.ownsMap prog 27 (plainElem prog 3) w.heap.size (i+1) D/\nL D l (i+1)):=⟨_,u,n.o⟩;have z:=e.trans y;clear u r h t n;go_wp2;go_roundw
   case rel=>exact⟨i+1,by go_num,aa,z,A⟩
   case measure=>exact dX
  .obtain rfl:i=l.length:=aa;obtain⟨D,h,d⟩:=HO.o;have v:=d.size;have C:=ag v;clear v d HO
   go_wp2_with (at_len;refine wpList_len_own _ rfl _ 26 rfl 27 3 underlying26 _ w.heap.size _ _ rfl h ?_)
   go_ret;exact⟨by rw[C.o];rfl,e⟩
theorem di.grow {w:World} {lo hi a tb fb:Nat} {R:List Pt} {h:iI} {cnt:Int} {V:ni} (H:di w lo hi tb fb R h cnt V) (b:hi<=a) (c:a<=w.heap.size):di w lo a tb fb R h cnt V:=
 ⟨H.blk,⟨H.fu.1,by have:=H.fu.2.1;omega,H.fu.2.2.1,by have:=H.fu.2.2.2.1;omega,c⟩,H.row,H.xs,H.iF,H.jd,H.og,fun v d g e=>bT (H.top v d g e) b⟩
theorem O1 (n:Nat):H5 (fun _=>none) n=List.replicate n (.int .i64 (-1)):=by
 apply rF (by simp[H5]);intro i a b;simp[H5,oh]
theorem O3 {w:World} {base n tb tc:Nat} {av:Value} {f:Option Addr} {z:Nat} {R:List Pt} (hu:(ids R).Nodup) (u:R.Pairwise kH) (i:R.length=n) (q:n<=1000000) (b:w.ownsRow base 3 1 av n ((List.range n).map fB))
  (t:w.cell? (af tc 0)=some (aj tb)) (j:w.cell? (af tb 0)=some (.slice f n z)) (s:bV dw 3 w f R) (m:∀g,av.ownBlock=some g->tc≠g/\tb≠g/\∀ad,f=some ad->ad.block≠g):
  aK 98 #[av,.func (.func 99) #[] #[aj tc]] w fun e w'=>
   e=.returned (.tuple #[])/\w'.ownsRow base 3 1 av n ((dQ R).map fB)/\ay (fun k=>av.ownBlock=some k) w w':=by
 by_cases l:n=0
 .subst l;have o:R=[]:=gU i;subst o;obtain⟨a,c,rfl⟩:=fF b;have h:=H9 ({Tryz.Gu with}) a c (.func (.func 99) #[] #[aj tc]) w;change aK 98 _ _ _ at h;refine h.mono ?_;rintro e w' ⟨d,rfl⟩;exact⟨d,by simpa[dQ,kD]using b,ay.refl _ _⟩
 .obtain⟨g,c,rfl,-,-,-,-⟩:=aQ b aa;have⟨v,x,y⟩:=m g rfl;refine(Q7 hu u i aa q b t j s v x y).mono ?_;rintro e w' ⟨d,r,p⟩;exact⟨d,r,p.mono fun k e=>by subst e;rfl⟩
theorem Jz:gF 100:=dh func100 aN rfl
theorem O4 {w:World} {base:Nat} {e:TypeId} {sz:Nat} {a:Option Addr} {n c m:Nat} {xs:List Value} (h:w.ownsRow base e sz (.slice a n c) m xs):∀ad,a=some ad->(Value.slice a n c).ownBlock=some ad.block:=fun ad d=>by
 subst d;rcases h.2 with⟨b,-⟩|⟨g,f,i,b,-⟩
 .cases b
 .injection b with b;injection b with b;subst b;rfl
def Fj (w:World) (R:List Pt) (e:Ending) (w':World):Prop:=
 ∃tb fb V,e=.returned (.tuple #[aj tb,ae 0])/\di w' w.heap.size w'.heap.size tb fb R (BJ R) R.length V/\Below w.heap.size w w'
structure Q8 (w:World) (lo fb tb tc n:Nat) (rv nv fv:Value) (l:List Pt):Prop where
 row:w.ownsRow lo 29 3 rv n (l.flatMap dw)
 jd:w.ownsRow lo 163 7 nv (aW n).length ((aW n).flatMap oM)
 iF:nJ w lo fb n fv
 KM:w.heap[tc]? =some (.cells #[aj tb] 87 (0,0))
 Qb:lo<=fb
theorem Q8.kept {S:Nat->Prop} {w w':World} {lo fb tb tc n:Nat} {s r p:Value} {l:List Pt} (h:Q8 w lo fb tb tc n s r p l) (K:ay S w w') (hS:∀k,k<w.heap.size->S k->∃cs t fr,w.heap[k]? =some (.cells cs t fr)/\t≠29/\t≠163/\t≠236/\t≠87):Q8 w' lo fb tb tc n s r p l:=by
 have blk:∀{b:Nat} {m:Array Value} {j:TypeId} {o:Nat×Nat},w.heap[b]? =some (.cells m j o)->(∀cs t fr,w.heap[b]? =some (.cells cs t fr)->S b->t≠j)->w'.heap[b]? =some (.cells m j o):=fun q v=>bz K q fun u=>v _ _ _ q u rfl;refine⟨oW h.row K fun k g f=>?_,oW h.jd K fun k g f=>?_,⟨bz K h.iF.blk fun f=>?_,oW h.iF.row K fun k g f=>?_⟩,bz K h.KM fun f=>?_,h.Qb⟩
 .obtain⟨cs,t,fr,a,b,c,d,e⟩:=hS k g f;exact⟨cs,t,fr,a,b⟩
 .obtain⟨cs,t,fr,a,b,c,d,e⟩:=hS k g f;exact⟨cs,t,fr,a,c⟩
 .have i:=(aY.1 h.iF.blk).1;have⟨cs,t,fr,a,b,c,d,e⟩:=hS fb i f;have:=a.symm.trans h.iF.blk;injection this with this;injection this with _ this _;exact d this
 .obtain⟨cs,t,fr,a,b,c,d,e⟩:=hS k g f;exact⟨cs,t,fr,a,c⟩
 .have i:=(aY.1 h.KM).1;have⟨cs,t,fr,a,b,c,d,e⟩:=hS tc i f;have:=a.symm.trans h.KM;injection this with this;injection this with _ this _;exact e this
theorem BV {w:World} {base:Nat} {e:TypeId} {sz:Nat} {v:Value} {n:Nat} {xs:List Value} (h:w.ownsRow base e sz v n xs) {k:Nat} (a:v.ownBlock=some k):∃cs fr,w.heap[k]? =some (.cells cs e fr):=by
 rcases h.2 with⟨rfl,-⟩|⟨g,c,d,rfl,-,b,-⟩
 .cases a
 .injection a with a;subst a;exact⟨_,_,b⟩
theorem JA (a:Option Addr) (c:Nat) (l:List Pt) (w:World) (bn:bV dw 3 w a l) (dE:l.length<=20000) (da:HZ l) (hu:lF l=true):
  aK 37 #[.slice a l.length c] w (Fj w (eQ l)):=by
 have aX:=GN a c l w bn aa da;rw[hu]at aX;have eb:=ag bn;obtain⟨n,bo⟩:∃n,n=l.length:=⟨_,rfl⟩;have cp:=ag (fun W (b9:Below w.heap.size w W)=>oP a l n c W bo.symm (bn.below b9) aa);have cz:=ag bo;rw[<-bo]at dE aX |-;have am:=ag (fun W=>yo n aa W);clear bo bn;have d1:decide ((n:Int)>2147483648)=false:=aF;have d2:decide ((2147483648:Int)<(n:Int))=false:=aF;have d3:decide (2147483648<n)=false:=aF;have cV:(ids l).Nodup:=by unfold lF at hu;simpa using hu
 have bG:=ag cV;clear cV hu da;go_enter func37,ntmps37
 go_wp2_with (go_at_call 97;refine aX.mono ?_;rintro e w1 ⟨rfl,bh⟩;clear aX)
 go_wp2_with fail
 refine(am.o w1).mono ?_;rintro e w2 ⟨rfl,a4⟩;have ap:Hid (Below w.heap.size w w2):=by rw[a4];exact bh.alloc bh.size _
 have bB:Hid (w2.heap[w1.heap.size]? =some (lq 0 0 (aL) n)):=by rw[a4];exact df w1 _
 obtain⟨fb,cd⟩:∃fb,fb=w1.heap.size:=⟨_,rfl⟩;have bl:w.heap.size<=fb/\fb<w2.heap.size:=by rw[a4,cd];exact⟨bh.size,aA⟩
 rw[<-cd]at bB |-;clear a4 bh cd am
 go_wp2_with fail
 refine(cp.o w2 ap.o).mono ?_;rintro e w3 ⟨em,rfl,ci,ca⟩;have cc:=(ca.block fb bl.2).trans bB.o;have bw:Hid (Below w.heap.size w w3):=ap.o.trans (ca.mono ap.o.size);have cA:=ag (bJ ci ap.o.size);have cq:=ag (gJ fb n aa w3 cc);have cv:=ag cc;obtain⟨q,m,rfl⟩:=fF ci;clear ci ca cc cp bB ap
 go_wp2_with fail
 refine cq.o.mono ?_;rintro e w4 ⟨D,dW,rfl,jh,cf,cR,A⟩;have cj:=bw.o.size;have cB:Hid (w4.ownsRow w.heap.size 29 3 (.slice q n m) n (l.flatMap dw)):=I7 cA.o ai cv.o A;have bE:Hid (nJ w4 w.heap.size fb n D):=⟨cR,bJ jh cj⟩;have cy:Hid (w4.ownsRow w.heap.size 163 7 dW (aW n).length ((aW n).flatMap oM)):=bJ cf cj;have F:Hid (Below w.heap.size w w4):=bw.o.trans (A.toBelow cj (fun k h=>by have:=bl.1;omega));obtain⟨t,nc,rfl⟩:=fF cf;obtain⟨M,bc⟩:∃M,M=(aW n).length:=⟨_,rfl⟩;have bL:=ag bc;have ec:M<=40000:=by rw[bc,cZ];omega
 rw[<-bc];clear jh cf cR A cq bc cA cv bw
 go_upto_region 9 with fail
 obtain⟨wc,aC⟩:∃wc,wc=(w4.alloc (.cells #[.slice q n m,aL,aj fb,.slice t M nc,aL,ae n] 155)).alloc (.cells #[aj w4.heap.size] 87):=⟨_,rfl⟩;have cb:Below w4.heap.size w4 wc:=by rw[aC];exact((aJ _ _).alloc (aB _) _).alloc aA _
 obtain⟨tb,aT⟩:∃tb,tb=w4.heap.size:=⟨_,rfl⟩;have cN:wc.heap[tb]? =some (Mm (.slice q n m) (aL) fb (.slice t M nc) (aL) n):=by rw[aC,aT];exact IA w4 _ _
 have bd:wc.heap[tb+1]? =some (.cells #[aj tb] 87 (0,0)):=by rw[aC,aT];exact Ew w4 _ _
 rw[<-aC,<-aT];have U:Hid (Q8 wc w.heap.size fb tb (tb+1) n (.slice q n m) (.slice t M nc) D l):=by
  have K:ay (fun _=>False) w4 wc:=(ay.refl _ w4).below cb;exact⟨aU cB.o K (fun _ _ h=>h),by rw[<-bL.o];have:=aU cy.o K (fun _ _ h=>h);rwa [<-bL.o]at this,⟨bz K bE.o.blk (fun h=>h),aU bE.o.row K (fun _ _ h=>h)⟩,bd,bl.1⟩
 have aq:=ag cN;have bv:Hid (Below w.heap.size w wc):=F.o.trans (cb.mono F.o.size);have dS:w.heap.size<=tb:=by rw[aT];exact F.o.size
 obtain⟨tc,N⟩:∃tc,tc=tb+1:=⟨_,rfl⟩;rw[<-N]at U bd |-;clear aC cb cN cB bE cy F aT N;have cm:=(aY.1 aq.o).1;have ct:=ag (yA cz.o.symm aa U.o.row bG.o);have cO:=aq.o;have b1:wc.cell? (af tb 0)=some (.slice q n m):=aD cO;have t0:wc.cell? (af tc 0)=some (aj tb):=aD bd;clear cO bd
 go_wp2_with fail
 refine ct.o.mono ?_;rintro e w4 ⟨rfl,cW,A⟩;have cK:Q8 w4 w.heap.size fb tb tc n (.slice q n m) (.slice t M nc) D (eQ l):=by
  have h:=U.o;have f:=h.kept (S:=fun k=>(Value.slice q n m).ownBlock=some k) A;refine⟨cW,oW h.jd A fun k y f=>?_,⟨bz A h.iF.blk fun f=>?_,oW h.iF.row A fun k y f=>?_⟩,bz A h.KM fun f=>?_,h.Qb⟩
  .obtain⟨cs,fr,e⟩:=BV h.row f;exact⟨cs,_,fr,e,ai⟩
  .exact bg h.row h.iF.blk ai fb f rfl
  .obtain⟨cs,fr,e⟩:=BV h.row f;exact⟨cs,_,fr,e,ai⟩
  .exact bg h.row h.KM ai tc f rfl
 have V:Hid (w4.heap[tb]? =some (Mm (.slice q n m) (aL) fb (.slice t M nc) (aL) n)):=bz A aq.o (fun h=>bg U.o.row aq.o ai tb h rfl);have F:Hid (Below w.heap.size w w4):=bv.o.trans (A.toBelow bv.o.size (fun k h=>(U.o.row.lt k h).1));have H:=ag cK;have z:(eQ l).length=n:=by rw[(dO l).length_eq];exact cz.o.symm
 have cM:(ids (eQ l)).Nodup:=((dO l).map _).nodup_iff.2 bG.o;have a2:Hid ((eQ l).Pairwise kH/\(ids (eQ l)).Nodup):=⟨fQ bG.o,cM⟩;clear cW A cK U aq bv ct cM b1 t0 cm;generalize dz:eQ l=R at*;clear dz;have cm:=(aY.1 V.o).1;have c5:=(aY.1 H.o.KM).1;have c8:=V.o;have N:=H.o.KM;have b1:w4.cell? (af tb 0)=some (.slice q n m):=aD c8;have t0:w4.cell? (af tc 0)=some (aj tb):=aD N;clear c8 N
 go_wp2_with fail
 have dF:tc≠tb:=fun e=>by
  have y:=H.o.KM;rw[e,V.o]at y;injection y with y;injection y with _ y _;exact absurd y ai
 go_loopg [7,43] n (fun dV d0 dZ wr=>∃(i:Nat) (co av:Value),dZ=.int .i64 i/\d0=av/\i<=n/\n-i<=dV/\Hid (wr.heap[tb]? =some (Mm (.slice q n m) co fb (.slice t M nc) (aL) n))/\Hid (wr.ownsRow w4.heap.size 2 1 co i (((bS R).take i).map (Value.int .i64)))/\Hid (wr.ownsRow w4.heap.size 3 1 av i ((List.range i).map fB))/\Hid (ay (fun k=>k=tb) w4 wr))
 case atStart=>exact⟨0,_,_,rfl,rfl,bH _,aa,V,dA _ _ _ _,dA _ _ _ _,ay.refl _ _⟩
 case round=>
  obtain⟨i,co,av,rfl,rfl,hi,eh,ar,X,T,G⟩:=hrel;by_cases eg:i<n
  .have c0:=aU H.o.row G.o (fun g h f=>bg H.o.row V.o ai g h f.symm);obtain⟨_,_,b5,-,-,aQ⟩:=bV.aG bf ai c0;injection b5 with b2 b3 b4;subst b2;clear b3 b4;obtain⟨b,off,dt,ed,bj⟩:=aQ.get aa;have cn:=bj i aa 0 aa;have x1:=bj i aa 1 aa;have x2:=bj i aa 2 aa;simp only[dw,fG,dx,dH]at cn x1 x2;have db:(bS R).take (i+1)=(bS R).take i++[R[i].1]:=by
    have h:i<(bS R).length:=by unfold bS;simp;omega
    rw[ig h];simp[bS]
   have cE:=ag db;subst dt;clear bj aQ db c0;generalize R[i]=p at*;obtain⟨aV,dh,dg⟩:=p;simp only at cE cn x1 x2;have N:=ar.o;have c7:=(aY.1 N).1;have cl:=(G.o.block tc c5 dF).trans H.o.KM;have c6:=(aY.1 cl).1;obtain⟨r,s,rfl⟩:=fF X.o;obtain⟨aw,ac,rfl⟩:=fF T.o
   go_upto_region 14 with fail
   obtain⟨w6,J⟩:∃w6,w6=wr.alloc (.cells #[ae aV,ae dh,ak dg] 29):=⟨_,rfl⟩;have x:Below wr.heap.size wr w6:=by rw[J];exact(aJ _ _).alloc (aB _) _
   have ab:w6.heap[wr.heap.size]? =some (.cells #[ae aV,ae dh,ak dg] 29 (0,0)):=by rw[J];exact df wr _
   have ck:=(x.block tb c7).trans N;have c3:=(x.block tc c6).trans cl;have c1:=G.o.size;have c2:=x.size;have al:∀g,(Value.slice r i s).ownBlock=some g->w4.heap.size<=g/\g<wr.heap.size:=fun g h=>X.o.lt g h;have de:¬(Value.slice r i s).ownBlock=some tb:=fun h=>by have:=(al tb h).1;omega
   have dc:¬(Value.slice r i s).ownBlock=some tc:=fun h=>by have:=(al tc h).1;omega
   have dd:¬(Value.slice r i s).ownBlock=some wr.heap.size:=fun h=>by have:=(al _ h).2;omega
   have bq:∀{bk o:Nat} {v:Value},bk<w6.heap.size->¬(Value.slice r i s).ownBlock=some bk->w6.cell? (af bk o)=some v->∀p:wD (fun k=>(Value.slice r i s).ownBlock=some k) w6,p.W.cell? (af bk o)=some v:=fun b9 hd c9 p=>((bY p.h b9 hd).1 _).trans c9;have dJ:wr.heap.size<w6.heap.size:=(aY.1 ab).1;have a6:=bq (bT c6 c2) dc (o:=0) (v:=aj tb) (aD c3);have b6:=bq (bT c7 c2) de (o:=1) (v:=.slice r i s) (aD ck);have dv:=bq dJ dd (o:=0) (v:=.int .i64 aV) (aD ab);have bR:=ag (az X.o x);have bs:=ag (az T.o x);have cx:Hid (ay (fun k=>k=tb) w4 w6):=G.o.below x;have cC:=ag ck;rw[<-J];clear J x ab ck c3 cl N cn x1 x2 bq dc dd de;refine au (fun W=>∃p:wD (fun k=>(Value.slice r i s).ownBlock=some k) w6,W=p.W) [9,10,11] [(0,true),(1,true),(2,false),(3,false),(4,true),(5,false),(6,true)] ⟨⟨_,(ay.refl _ _).drew⟩,rfl⟩ 5 ?_;refine aH 7 rfl fun K u=>?_;go_simp;refine u _ _ (fun _ _=>⟨⟨_,((ay.refl _ w6).alloc _).drew⟩,rfl⟩) ?_;clear u K;refine aH 8 rfl fun K u=>?_;refine bC zG w4.heap.size (w:=(w6.alloc (.cells #[ae aV] 2)).drew) (az bR.o ((aJ _ w6).alloc (aB _) _|>.drew)) [.int .i64 aV] rfl (by simp[Value.oneCell']) rfl (.tmp 52) (.tmp 55) rfl rfl w6.heap.size rfl (kZ _ _) dI aa aF ?_;intro L I d ch cU ef ei;have cT:w6.grownBy d (Value.slice r i s).ownBlock:=dP (bM ((aJ _ w6).alloc (aB _) _|>.drew)) cU;have Y:ay (fun k=>(Value.slice r i s).ownBlock=some k) w6 d:=(ay.refl _ w6).grown cT (fun k aO=>.inl aO);refine u _ _ (fun _ _=>⟨⟨_,Y⟩,rfl⟩) ?_;clear u K;refine aI [9,10,11] ?_;have bp:=bz Y cC.o (fun h=>by have:=(al tb h).1;omega);have dY:d.cell? (af tb 1)=some (.slice r i s):=aD bp;have f8:d.frozen? (af tb 1)=false:=aD bp;have cD:Hid ((d.setCell (af tb 1) (ax L (i+1) I)).heap[tb]? =some (Mm (.slice (some (af b off)) n m) (ax L (i+1) I) fb (.slice t M nc) (aL) n)):=dC d tb 1 _ _ _ bp;have b0:ay (fun k=>k=tb) d (d.setCell (af tb 1) (ax L (i+1) I)):=(ay.refl (fun k=>k=tb) d).set (a:=(af tb 1)) (ax L (i+1) I) (.inl rfl);have bU:Hid ((d.setCell (af tb 1) (ax L (i+1) I)).ownsRow w4.heap.size 2 1 (ax L (i+1) I) (i+1) (((bS R).take (i+1)).map (Value.int .i64))):=by
    have a8:=aU (S:=fun k=>k=tb) ch b0 (fun g h f=>by have:=(ch.lt g h).1;omega);show World.ownsRow _ _ _ _ _ _ _;rw[cE.o,bP];exact a8
   have an:=aU bs.o Y (fun g h f=>bu bs.o bR.o ai g h f);have ao:Hid ((d.setCell (af tb 1) (ax L (i+1) I)).ownsRow w4.heap.size 3 1 (.slice aw i ac) i ((List.range i).map fB)):=aU an b0 (fun g h f=>by have:=(an.lt g h).1;omega);have bI:Hid (ay (fun k=>k=tb) w4 (d.setCell (af tb 1) (ax L (i+1) I))):=((cx.o.mono (S':=fun k=>k=tb\/w4.heap.size<=k) (fun k h=>.inl h)).trans (Y.mono (fun k h=>.inr (al k h).1))).strip.set (a:=(af tb 1)) _ (.inl rfl);have ej:=Y.size;clear Y cT cU ch bp a6 b6 dv bR cC cx al an bs T X ar G b0
   go_upto_region 15 with fail
   obtain⟨P,cG⟩:∃P,P=d.setCell (af tb 1) (ax L (i+1) I):=⟨_,rfl⟩;rw[<-cG]at cD bU ao bI |-;have dR:w4.heap.size<=P.heap.size:=bI.o.size;clear cG dY f8
   go_wp2_with (at_builtin;refine bX nD w4.heap.size ao.o [.int .i64 (i:Nat)] rfl (by simp[Value.oneCell']) rfl _ _ rfl rfl _ rfl dI aa dR ?_;intro d4 d8 dG dD ee)
   go_roundg (n-(i+1))
   case measure=>omega
   case rel=>
    have bZ:ay (fun k=>(Value.slice aw i ac).ownBlock=some k) P d8:=(ay.refl _ P).grown dD (fun k aO=>.inl aO);refine⟨i+1,_,d4,by go_num,rfl,aa,aB _,bz bZ cD.o (fun h=>by have:=(ao.o.lt tb h).1;omega),aU bU.o bZ (fun g h f=>bu bU.o ao.o ai g h f),?_,?_⟩
    .show World.ownsRow _ _ _ _ _ _ _;rw[uU,bP];exact dG
    .exact((bI.o.mono (S':=fun k=>k=tb\/w4.heap.size<=k) (fun k h=>.inl h)).trans (bZ.mono (fun k h=>.inr (ao.o.lt k h).1))).strip
  .obtain rfl:i=n:=aa;obtain⟨aw,ac,rfl⟩:=fF T.o;have a1:Hid (Q8 wr w.heap.size fb tb tc i (.slice q i m) (.slice t M nc) D R):=H.o.kept G.o (fun k y f=>by subst f;exact⟨_,_,_,V.o,ai,ai,ai,ai⟩);have bx:Hid (Below w.heap.size w wr):=F.o.trans (G.o.toBelow F.o.size (fun k h=>aa));have be:=X.o;rw[jJ (by unfold bS;simp;omega)]at be;have bW:=ag be;have c1:=G.o.size;have a9:=T.o;have br:=ag a9;have aS:=ar.o;have B:=a1.o.KM;have cF:wr.cell? (af tb 0)=some (.slice q i m):=aD aS;have dj:wr.cell? (af tc 0)=some (aj tb):=aD B;obtain⟨_,_,b5,-,-,aQ⟩:=bV.aG bf ai a1.o.row;injection b5 with b2 b3 b4;subst b2;clear b3 b4;have aM:∀g,(Value.slice aw i ac).ownBlock=some g->w4.heap.size<=g:=fun g h=>(a9.lt g h).1;have cr:=ag (O3 a2.o.2 a2.o.1 z aa a9 dj cF aQ (fun g h=>⟨by have:=aM g h;omega,by have:=aM g h;omega,fun ad e a8=>by
    have b7:=O4 H.o.row ad e;have:=(H.o.row.lt _ b7).2;have:=aM g h;omega⟩))
   have cu:=ag aM;obtain⟨r,s,rfl⟩:=fF be;clear be a9 aS B aQ aM b1 t0 cF dj X T G
   go_wp2_with fail
   refine cr.o.mono ?_;rintro e j ⟨rfl,cY,aP⟩;have bN:Hid (Q8 j w.heap.size fb tb tc i (.slice q i m) (.slice t M nc) D R):=a1.o.kept aP (fun k y f=>by obtain⟨cs,fr,e⟩:=BV br.o f;exact⟨cs,_,fr,e,ai,ai,ai,ai⟩);have bQ:Hid (j.heap[tb]? =some (Mm (.slice q i m) (.slice r i s) fb (.slice t M nc) (aL) i)):=bz aP ar.o (fun h=>by have:=cu.o tb h;omega);have dn:Hid (j.ownsRow w.heap.size 2 1 (.slice r i s) i ((bS R).map (Value.int .i64))):=bJ (aU bW.o aP (fun g h f=>bu bW.o br.o ai g h f)) F.o.size;have bt:=ag cY;have bA:Hid (Below w.heap.size w j):=bx.o.trans (aP.toBelow bx.o.size (fun k h=>by have:=cu.o k h;have:=F.o.size;omega));have dU:=(aY.1 bQ.o).1;have el:=(aY.1 bN.o.KM).1;have aS:=bQ.o;have B:=bN.o.KM;clear cY aP cr a1 bx bW br ar cm c5 c1;have a6:=ah (w:=j) (ad:=(af tc 0)) (v:=aj tb) (aD B);have b6:=ah (w:=j) (ad:=(af tb 3)) (v:=.slice t M nc) (aD aS);clear aS B
   go_upto_region 18 with fail
   refine au (fun W=>∃p:aR j,W=p.W) [8,9,10] [(0,true),(2,true),(3,false),(4,false),(5,true),(6,false)] ⟨⟨_,(aJ _ _).drew⟩,rfl⟩ 5 ?_;refine aH 1 rfl fun K u=>?_;obtain⟨w6,J⟩:∃w6,w6=(j.alloc (.cells #[ae (-1)] 3)).drew:=⟨_,rfl⟩;have x:Below j.heap.size j w6:=by rw[J];exact((aJ _ _).alloc (aB _) _).drew
   have ab:w6.heap[j.heap.size]? =some (.cells #[ae (-1)] 3 (0,0)):=by rw[J];exact df j _
   go_simp;rw[<-J];clear J;refine u _ _ (fun _ _=>⟨⟨_,x⟩,rfl⟩) ?_;clear u K;refine aH 7 rfl fun K u=>?_;refine aZ Jz rfl _ _ rfl (vals:=#[ax j.heap.size 1 1,ae M]) rfl (O0 w6 j.heap.size M ab aa) ?_;rintro e C ⟨c9,rfl,cg,cP⟩;have Z:Below j.heap.size j C:=x.trans (cP.mono x.size);refine⟨_,rfl,u _ _ (fun _ _=>⟨⟨_,Z⟩,rfl⟩) ?_⟩;clear u K;refine aI [8,9,10] ?_;have O:=(Z.block tb dU).trans bQ.o;have dX:C.cell? (af tb 4)=some (aL):=aD O;have f7:C.frozen? (af tb 4)=false:=aD O;obtain⟨aE,aN,rfl⟩:=fF cg;obtain⟨d,a5⟩:∃d,d=C.setCell (af tb 4) (.slice aE M aN):=⟨_,rfl⟩;have Q:ay (fun k=>k=tb) C d:=by rw[a5];exact(ay.refl (fun k=>k=tb) C).set (a:=(af tb 4)) _ (.inl rfl)
   have a3:ay (fun _=>False) j C:=(ay.refl _ j).below Z;have cL:Q8 C w.heap.size fb tb tc i (.slice q i m) (.slice t M nc) D R:=bN.o.kept a3 (fun k y f=>f.elim);have E:Q8 d w.heap.size fb tb tc i (.slice q i m) (.slice t M nc) D R:=cL.kept Q (fun k y f=>by subst f;exact⟨_,_,_,O,ai,ai,ai,ai⟩);have b8:=fe (aU dn.o a3 (fun _ _ h=>h)) Q O ai;have ba:=fe cg Q O ai;have cI:=fe (aU bt.o a3 (fun _ _ h=>h)) Q O ai;have dK:j.heap.size<=w6.heap.size:=x.size;have dL:j.heap.size<=C.heap.size:=Z.size;have dM:C.heap.size<=d.heap.size:=Q.size;have ek:=bA.o.size;have cw:Hid (di d w.heap.size d.heap.size tb fb R (fun _=>none) i ⟨.slice q i m,.slice r i s,.slice t M nc,.slice aE M aN,D⟩):=by
    refine⟨by rw[a5];exact dC C tb 4 _ _ _ O,⟨dS,aa,bl.1,(aY.1 E.iF.blk).1,aB _⟩,by rw[z];exact E.row,by rw[z];exact b8,by rw[z];exact E.iF,by rw[z];exact E.jd,?_,?_⟩
    .rw[z,<-bL.o,O1];exact bJ ba aa
    .rintro v (rfl|rfl|rfl|rfl|rfl) g e
     .exact(E.row.lt g e).2
     .exact(b8.lt g e).2
     .exact(E.jd.lt g e).2
     .exact(ba.lt g e).2
     .exact(E.iF.row.lt g e).2
   have a0:Hid (Below w.heap.size w d):=(bA.o.trans (Z.mono bA.o.size)).trans (Q.toBelow aa (fun k h=>aa));have an:=ag cI;have bO:=ag E.KM;have dT:tc<d.heap.size:=(aY.1 E.KM).1;have bF:Hid (∀g,(Value.slice aE M aN).ownBlock=some g->j.heap.size<=g):=fun g e=>by have:=(ba.lt g e).1;omega
   clear a6 b6 x ab cg cP Z O Q a3 cL E b8 ba cI dK dL dM
   go_upto_region 19 with fail
   rw[<-a5];clear a5 dX f7;by_cases cH:i=0
   .have d5:decide ((i:Int)>0)=false:=aF;have d6:decide ((0:Int)<(i:Int))=false:=aF;have d7:decide (0<i)=false:=aF;have cS:BJ R=fun _=>none:=by
     have dy:R=[]:=gU aa;subst dy;unfold BJ;rw[show dQ []=[]from gU (by rw[jW];rfl),yH]
    have bD:Hid (Fj w R (.returned (.tuple #[aj tb,ae 0])) d):=⟨tb,fb,⟨.slice q i m,.slice r i s,.slice t M nc,.slice aE M aN,D⟩,rfl,by rw[cS,z];exact cw.o,a0.o⟩;have B:=bO.o;have t8:d.cell? (af tc 0)=some (aj tb):=aD B;clear cS B cH;go_wp2;go_ret2;exact bD.o
   .have a7:0<i:=aa;have d5:decide ((i:Int)>0)=true:=aF;have d6:decide ((0:Int)<(i:Int))=true:=aF;have d7:decide (0<i)=true:=aF;have bi:Below d.heap.size d d.drew:=(aJ _ _).drew;have ce:=cw.o.below bi (aB _);have bm:=ce.iF.blk;rw[z]at bm;have dl:=ag (jw fb i a7 aa d.drew (aD bm) (aD bm));obtain⟨dk,d9,ea⟩:=bK 0 i a7;have dB:=fq 0 i a7;obtain⟨_,_,dp,-,cQ,cX⟩:=Rd.aG (enc:=fB) (az an.o bi);injection dp with dq dr ds;subst dq ds;have am:=ag (Mt aa (dN 0 i) 0 (by rw[z];exact jU i a7) dk aa (dQ R) d.drew (fun _=>none) aw ac ce cX (by rw[jW];omega) cQ (fun ad e a8=>by
     have b7:=O4 bt.o ad e;have:=(bt.o.lt _ b7).2;have:=bF.o _ a8;omega) (fun k aO=>by have:=(qB a2.o.1 a2.o.2).lt aO;omega))
    rw[jW,z,show(dN 0 i).root 0=2*i-2 by unfold FT.root;omega]at am;have dm:Hid (fillH (dN 0 i) 0 (dQ R) (fun _=>none)=BJ R):=by show _=_;unfold BJ;rw[z]
    have B:=bO.o;have a6:=ah (w:=d) (ad:=(af tc 0)) (v:=aj tb) (aD B);clear B bm ce dk d9 ea dB cQ cX dr cH
    go_upto_region 20 with fail
    refine au (fun W=>∃p:aR d,W=p.W) [4] [(0,true),(1,false),(3,false)] ⟨⟨_,(aJ _ _).drew⟩,rfl⟩ 2 ?_;refine aH 2 rfl fun K u=>?_;refine aZ mi rfl _ _ rfl (vals:=#[aj fb]) rfl dl.o ?_;rintro e w' ⟨rfl,du⟩;subst du;refine⟨_,rfl,u _ _ (fun _ _=>⟨⟨_,bi⟩,rfl⟩) ?_⟩;clear u K;refine aI [4] ?_
    go_wp2_with fail
    refine am.o.mono ?_;rintro e P ⟨rfl,cJ,bb⟩;have c4:=(bb.block tc (show tc<d.drew.heap.size from dT) (fun h=>by have:=bF.o tc h;omega)).trans (show d.drew.heap[tc]? =_ from bO.o);have t9:P.cell? (af tc 0)=some (aj tb):=aD c4;have bD:Hid (Fj w R (.returned (.tuple #[aj tb,ae 0])) P):=by
     refine⟨tb,fb,⟨.slice q i m,.slice r i s,.slice t M nc,.slice aE M aN,D⟩,rfl,?_,?_⟩
     .rw[<-dm.o,z];exact cJ.grow (by have:=bb.size;exact this) (aB _)
     .exact(a0.o.trans (bi.mono a0.o.size)).trans (bb.toBelow (by have:=a0.o.size;exact this) (fun k h=>by have:=bF.o k h;omega))
    clear cJ bb c4;go_wp2;go_ret2;exact bD.o
end
section
open Go.RowKit Go.Sort Go.Shelf Go.Lib Go.Maps
def uz (w:World) (lo hi tb n0:Nat) (l:List Pt):Prop:=
 ∃fb R h V,di w lo hi tb fb R h l.length V/\l9 R h/\yK R h l/\R.length=n0/\n0<=20000
def KN (n:Nat):Nat:=6*Lib.bitLen n+1
section
variable {w w':World} {lo hi tb n0:Nat} {l:List Pt}
theorem uz.kept {S:Nat->Prop} (h:uz w lo hi tb n0 l) (K:ay S w w') (hS:∀k,lo<=k->k<hi->¬S k):uz w' lo hi tb n0 l:=by
 have⟨fb,R,h,V,a,b⟩:=h;exact⟨fb,R,h,V,a.kept K hS,b⟩
theorem uz.Fe (h:uz w lo hi tb n0 l):l.length<=n0/\n0<=20000:=by
 have⟨fb,R,h,V,c,a,b,d,e⟩:=h;have:=a.few;have:=b.len;omega
theorem Tp (a:Option Addr) (c:Nat) (l:List Pt) (w:World) (j:bV dw 3 w a l) (k:l.length<=20000) (m:HZ l) (hu:lF l=true):
  aK 37 #[.slice a l.length c] w fun e w'=>∃tb,e=.returned (.tuple #[aj tb,ae 0])/\uz w' w.heap.size w'.heap.size tb l.length l/\Below w.heap.size w w':=
 (JA a c l w j k m hu).mono fun e w' ⟨tb,fb,V,i,b,h⟩=>by
  have g:(ids l).Nodup:=by unfold lF at hu;simpa using hu
  have f:=fQ g;have hid:(ids (eQ l)).Nodup:=((dO l).map _).nodup_iff.2 g;have d:(eQ l).length=l.length:=(dO l).length_eq;rw[d]at b;exact⟨tb,i,⟨fb,_,_,V,b,(KA f hid).1,(Mi f hid).trans (dO l),d,aa⟩,h⟩
theorem Tq (h:uz w lo hi tb n0 l) (x1 x2 y:Int):
  aK 41 #[aj tb,ae x1,ae x2,ae y] w fun e w'=>∃v,∃c:Nat,e=.returned (.tuple #[v,ae (c:Nat)])/\((xe l x1 x2 y).length<=c/\c<=2*(xe l x1 x2 y).length+KN n0)/\w'.ownsRow w.heap.size 27 1 v (xe l x1 x2 y).length ((xe l x1 x2 y).map (Value.int .u32))/\Below w.heap.size w w':=by
 have⟨fb,R,h,V,j,a,k,m,p⟩:=h;refine(Jt j a aa x1 x2 y).mono ?_;rintro e w' ⟨v,o,g,n⟩;have d:(ny true R h x1 x2 y).1=yL R h x1 x2 y:=by rw[KE a true x1 x2 y];simp
 have⟨i,f⟩:=Jl k x1 x2 y;have b:=DC a aa true x1 x2 y;rw[d,f,m]at b;rw[d,i,f]at g;refine⟨v,_,o,⟨b.1,?_⟩,g,n⟩;have:=b.2;unfold KN;simp only[gN]at this;omega
end
end
end Go.Proofs.YtkjdbndekceffaaGreat
