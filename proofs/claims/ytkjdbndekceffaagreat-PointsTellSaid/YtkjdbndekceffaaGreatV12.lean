/- Made small by a program. -/
import Derived.Test.YtkjdbndekceffaaGreatV11
set_option linter.unusedSimpArgs false
set_option linter.unusedVariables false
set_option maxRecDepth 100000
set_option maxHeartbeats 16000000
namespace Go.Proofs.YtkjdbndekceffaaGreat
open Tryz
section
open Go Go.RowKit
abbrev iV:=Nat->Option Nat
def gU (h:iV) (k:Nat) (v:Option Nat):iV:=fun j=>if j=k then v else h j
theorem gG (h:iV) (k:Nat) (v:Option Nat):gU h k v k=v:=by simp[gU]
theorem iL {h:iV} {k j:Nat} {v:Option Nat} (e:j≠k):gU h k v j=h j:=by simp[gU,e]
def held (h:iV):FT->Nat->List Nat
 |.leaf _,s=>(h s).toList
 |.node l r,s=>(h ((FT.node l r).root s)).toList++(held h l s++held h r (s+l.size))
theorem bS {h h':iV}:∀(t:FT) (s:Nat),(∀k,s<=k->k<s+t.size->h' k=h k)->held h' t s=held h t s
 |.leaf a,s,e=>by
  show(h' s).toList=(h s).toList;rw[e s (aA _) (by simp[FT.size])]
 |.node l r,s,e=>by
  have f:(FT.node l r).size=l.size+r.size+1:=rfl;have d:(FT.node l r).root s=s+(l.size+r.size+1)-1:=rfl;simp only[held];rw[e _ aa aa,bS l s (fun k b c=>e k b aa),bS r _ (fun k b c=>e k aa aa)]
theorem qf {h:iV} {t:FT} {s i:Nat} (e:h (t.root s)=some i):∃L,held h t s=i::L:=by
 cases t with
 |leaf a=>exact⟨[],by show(h s).toList=_;rw[show h s=some i from e];rfl⟩
 |node l r=>exact⟨_,by simp only[held];rw[e];rfl⟩
theorem qg {h:iV}:∀(t:FT) (s:Nat),(∀k,s<=k->k<s+t.size->h k=none)->held h t s=[]
 |.leaf a,s,e=>by
  show(h s).toList=[];rw[e s (aA _) (by simp[FT.size])];rfl
 |.node l r,s,e=>by
  have f:(FT.node l r).size=l.size+r.size+1:=rfl;have d:(FT.node l r).root s=s+(l.size+r.size+1)-1:=rfl;simp only[held];rw[e _ aa aa,qg l s (fun k b c=>e k b aa),qg r _ (fun k b c=>e k aa aa)];rfl
def iB (lt:Nat->Nat->Prop) (h:iV):FT->Nat->Prop
 |.leaf a,s=>∀i,h s=some i->i=a
 |.node l r,s=>(∀i,h ((FT.node l r).root s)=some i->(l.lo<=i/\i<r.hi)/\(∀j,j∈held h l s->lt i j)/\∀j,j∈held h r (s+l.size)->lt i j)/\
   (h ((FT.node l r).root s)=none->held h l s=[]/\held h r (s+l.size)=[])/\iB lt h l s/\iB lt h r (s+l.size)
section
variable {lt:Nat->Nat->Prop} {h h':iV}
theorem iB.congr:∀{t:FT} {s:Nat},(∀k,s<=k->k<s+t.size->h' k=h k)->iB lt h t s->iB lt h' t s
 |.leaf a,s,e,g=>by
  intro i hi;rw[e s (aA _) (by simp[FT.size])]at hi;exact g i hi
 |.node l r,s,e,g=>by
  have o:(FT.node l r).size=l.size+r.size+1:=rfl;have n:(FT.node l r).root s=s+(l.size+r.size+1)-1:=rfl;have c:=fun k (b:s<=k) (f:k<s+l.size)=>e k b aa;have d:=fun k (b:s+l.size<=k) (f:k<s+l.size+r.size)=>e k aa aa;have⟨b,f,j,m⟩:=g;refine⟨?_,?_,j.congr c,m.congr d⟩
  .rw[e _ aa aa,bS l s c,bS r _ d];exact b
  .rw[e _ aa aa,bS l s c,bS r _ d];exact f
theorem iB.span:∀{t:FT} {s:Nat},t.wf->iB lt h t s->∀i∈held h t s,t.lo<=i/\i<t.hi
 |.leaf a,s,b,c,i,hi=>by
  have:=c i (by simpa[held]using hi);subst this;simp[FT.lo,FT.hi]
 |.node l r,s,b,c,i,hi=>by
  have⟨d,g,e,f⟩:=c;have j:=FT.fF l b.1;have k:=FT.fF r b.2.1;have m:=b.2.2;simp only[held,bW,BL]at hi;show l.lo<=i/\i<r.hi;rcases hi with hi|hi|hi
  .exact(d i hi).1
  .have:=e.span b.1 i hi;omega
  .have:=f.span b.2.1 i hi;omega
theorem iB.empty:∀{t:FT} {s:Nat},iB lt h t s->h (t.root s)=none->held h t s=[]
 |.leaf a,s,b,e=>by show(h s).toList=[];rw[show h s=none from e];rfl
 |.node l r,s,b,e=>by
  obtain⟨g,f,i,j⟩:=b;obtain⟨c,d⟩:=f e;simp only[held];rw[e,c,d];rfl
theorem iB.first:∀{t:FT} {s i:Nat},iB lt h t s->h (t.root s)=some i->∀j∈held h t s,j=i\/lt i j
 |.leaf a,s,i,c,e,j,hj=>by
  left;have:h s=some j:=by simpa[held]using hj
  rw[show h s=some i from e]at this;injection this with this;exact this.symm
 |.node l r,s,i,c,e,j,hj=>by
  have⟨b,d,f,g⟩:=c;simp only[held,bW,BL]at hj;rcases hj with hj|hj|hj
  .rw[e]at hj;injection hj with hj;exact .inl hj.symm
  .exact .inr ((b i e).2.1 j hj)
  .exact .inr ((b i e).2.2 j hj)
theorem iB.none:∀(t:FT) (s:Nat),(∀k,s<=k->k<s+t.size->h k=Option.none)->iB lt h t s
 |.leaf a,s,e=>by
  intro i hi;rw[e s (aA _) (by simp[FT.size])]at hi;cases hi
 |.node l r,s,e=>by
  have j:(FT.node l r).size=l.size+r.size+1:=rfl;have g:(FT.node l r).root s=s+(l.size+r.size+1)-1:=rfl;have b:=fun k (d:s<=k) (f:k<s+l.size)=>e k d aa;have c:=fun k (d:s+l.size<=k) (f:k<s+l.size+r.size)=>e k aa aa;refine⟨fun i hi=>?_,fun _=>⟨qg l s b,qg r _ c⟩,iB.none l s b,iB.none r _ c⟩;rw[e _ aa aa]at hi;cases hi
end
def fillH:FT->Nat->List Nat->iV->iV
 |.leaf _,s,L,h=>match L with
  |[]=>h
  |i::_=>gU h s (some i)
 |.node l r,s,L,h=>match L with
  |[]=>h
  |i::L=>fillH r (s+l.size) (L.filter fun j=>!decide (j<l.hi)) (fillH l s (L.filter fun j=>decide (j<l.hi)) (gU h ((FT.node l r).root s) (some i)))
theorem zM (t:FT) (s:Nat) (h:iV):fillH t s [] h=h:=by cases t<;>rfl
theorem uO:∀(t:FT) (s:Nat) (L:List Nat) (h:iV) (k:Nat),(k<s\/s+t.size<=k)->fillH t s L h k=h k
 |.leaf a,s,[],h,k,b=>rfl
 |.leaf a,s,i::L,h,k,b=>by
  simp only[FT.size]at b;exact iL aa
 |.node l r,s,[],h,k,b=>rfl
 |.node l r,s,i::L,h,k,b=>by
  have d:(FT.node l r).size=l.size+r.size+1:=rfl;have c:(FT.node l r).root s=s+(l.size+r.size+1)-1:=rfl;simp only[fillH];rw[uO r _ _ _ k aa,uO l _ _ _ k aa];exact iL aa
theorem wO {lt:Nat->Nat->Prop}:∀(t:FT) (s:Nat) (L:List Nat) (h:iV),t.wf->L.Pairwise lt->L.Nodup->(∀i∈L,t.lo<=i/\i<t.hi)->(∀k,s<=k->k<s+t.size->h k=none)->
  iB lt (fillH t s L h) t s/\(held (fillH t s L h) t s).Perm L
 |t,s,[],h,m,f,o,p,n=>by
  rw[zM];exact⟨iB.none t s n,by rw[qg t s n]⟩
 |.leaf a,s,i::L,h,m,f,o,p,n=>by
  simp only[FT.lo,FT.hi]at p;have P:i=a:=by have:=p i ax;omega
  have M:L=[]:=by
   cases L with
   |nil=>rfl
   |cons j L=>
    have:=p j ax;have:i≠j:=(mF.1 o).1|>fun h e=>h (by simp[e]);omega
  subst P M;refine⟨fun j b=>?_,?_⟩
  .simp only[fillH,gG]at b;injection b with b;exact b.symm
  .show((gU h s (some i)) s).toList.Perm _;rw[gG];exact qE _
 |.node l r,s,i::L,h,m,f,o,p,n=>by
  have R:(FT.node l r).size=l.size+r.size+1:=rfl;have Q:(FT.node l r).root s=s+(l.size+r.size+1)-1:=rfl;have S:=FT.fF l m.1;have T:=FT.fF r m.2.1;have U:=m.2.2;rw[lQ]at f;rw[mF]at o;have z:∀j∈i::L,l.lo<=j/\j<r.hi:=p;simp only[fillH];generalize I:gU h ((FT.node l r).root s) (some i)=c;have C:∀k,k≠(FT.node l r).root s->c k=h k:=fun k g=>by rw[<-I];exact iL g
  have K:c ((FT.node l r).root s)=some i:=by rw[<-I];exact gG _ _ _
  generalize v:L.filter (fun j=>decide (j<l.hi))=A;generalize w:L.filter (fun j=>!decide (j<l.hi))=B;have G:∀j,j∈A↔j∈L/\j<l.hi:=fun j=>by rw[<-v];simp
  have H:∀j,j∈B↔j∈L/\¬j<l.hi:=fun j=>by rw[<-w];simp
  have q:=wO (lt:=lt) l s A c m.1 (by rw[<-v];exact f.2.filter _) (by rw[<-v];exact o.2.filter _) (fun j b=>by have:=(G j).1 b;have:=z j (lM _ this.1);omega) (fun k c d=>by rw[C k aa];exact n k c aa);generalize N:fillH l s A c=d at q |-;have D:∀k,(k<s\/s+l.size<=k)->d k=c k:=fun k g=>by rw[<-N];exact uO l s A c k g
  have u:=wO (lt:=lt) r (s+l.size) B d m.2.1 (by rw[<-w];exact f.2.filter _) (by rw[<-w];exact o.2.filter _) (fun j b=>by have:=(H j).1 b;have:=z j (lM _ this.1);omega) (fun k c d=>by rw[D k aa,C k aa];exact n k aa aa);generalize O:fillH r (s+l.size) B d=y at u |-;have E:∀k,(k<s+l.size\/s+l.size+r.size<=k)->y k=d k:=fun k g=>by rw[<-O];exact uO r _ B d k g
  have F:∀k,s<=k->k<s+l.size->y k=d k:=fun k _ g=>E k (.inl g);have x:y ((FT.node l r).root s)=some i:=by rw[E _ aa,D _ aa,K]
  have J:=bS l s F;have hp:(A++B).Perm L:=by rw[<-v,<-w];exact List.filter_append_perm _ L
  refine⟨⟨fun j b=>?_,fun b=>?_,q.1.congr F,u.1⟩,?_⟩
  .rw[x]at b;injection b with b;subst b;refine⟨z i ax,fun j b=>?_,fun j b=>?_⟩
   .rw[J]at b;exact f.1 j ((G j).1 ((q.2.mem_iff).1 b)).1
   .exact f.1 j ((H j).1 ((u.2.mem_iff).1 b)).1
  .rw[x]at b;cases b
  .simp only[held];rw[x,J];exact((q.2.append u.2).trans hp).cons i
def downG (more:Bool) (h:iV) (yv:Nat->Int) (y:Int) (fr ub:Nat):FT->Nat->List Nat×Nat×Bool
 |.leaf a,s=>match h s with
  |none=>([],1,true)
  |some i=>if y<yv i\/a+1<=fr\/ub<=a then([],1,true)else if fr<=i/\i<ub then([i],1,more)else([],1,true)
 |.node l r,s=>match h ((FT.node l r).root s)with
  |none=>([],1,true)
  |some i=>if y<yv i\/r.hi<=fr\/ub<=l.lo then([],1,true)else
   if(fr<=i/\i<ub)/\more=false then([i],1,false)else
   ((if fr<=i/\i<ub then[i]else[])++(downG more h yv y fr ub l s).1++(if(downG more h yv y fr ub l s).2.2 then(downG more h yv y fr ub r (s+l.size)).1 else[]),
    1+(downG more h yv y fr ub l s).2.1+(if(downG more h yv y fr ub l s).2.2 then(downG more h yv y fr ub r (s+l.size)).2.1 else 0),
    (downG more h yv y fr ub l s).2.2&&(downG more h yv y fr ub r (s+l.size)).2.2)
def Av (yv:Nat->Int) (y:Int) (fr ub i:Nat):Bool:=decide (fr<=i/\i<ub/\yv i<=y)
section
variable {lt:Nat->Nat->Prop} {h:iV} {yv:Nat->Int} {y:Int} {fr ub:Nat}
theorem nQ {more:Bool} {t:FT} {s:Nat} (e:h (t.root s)=none):downG more h yv y fr ub t s=([],1,true):=by
 cases t with
 |leaf a=>have b:h s=none:=e;simp only[downG];rw[b]
 |node l r=>simp only[downG];rw[e]
theorem mZ {more:Bool} {t:FT} {s i:Nat} (e:h (t.root s)=some i) (hp:y<yv i\/t.hi<=fr\/ub<=t.lo):downG more h yv y fr ub t s=([],1,true):=by
 cases t with
 |leaf a=>
  have c:h s=some i:=e;have b:y<yv i\/a+1<=fr\/ub<=a:=hp;simp only[downG];rw[c];simp only;rw[aO b]
 |node l r=>
  have b:y<yv i\/r.hi<=fr\/ub<=l.lo:=hp;simp only[downG];rw[e];simp only;rw[aO b]
theorem wP {more:Bool} {a s i:Nat} (e:h s=some i) (hp:¬(y<yv i\/a+1<=fr\/ub<=a)):downG more h yv y fr ub (.leaf a) s=(if fr<=i/\i<ub then[i]else[],1,!(decide (fr<=i/\i<ub)&&!more)):=by
 simp only[downG];rw[e];simp only;rw[aN hp];by_cases b:fr<=i/\i<ub
 .rw[aO b,aO b];simp[b]
 .rw[aN b,aN b];simp[b]
theorem C8 {t:FT} {s i:Nat} (e:h (t.root s)=some i) (hp:¬(y<yv i\/t.hi<=fr\/ub<=t.lo)) (b:fr<=i/\i<ub):downG false h yv y fr ub t s=([i],1,false):=by
 cases t with
 |leaf a=>
  have c:h s=some i:=e;rw[wP c hp];simp[b]
 |node l r=>
  have d:¬(y<yv i\/r.hi<=fr\/ub<=l.lo):=hp;simp only[downG];rw[e];simp only;rw[aN d];simp[b]
theorem C9 {more:Bool} {l r:FT} {s i:Nat} (e:h ((FT.node l r).root s)=some i) (hp:¬(y<yv i\/r.hi<=fr\/ub<=l.lo)) (b:(decide (fr<=i/\i<ub)&&!more)=false):downG more h yv y fr ub (.node l r) s=
   ((if fr<=i/\i<ub then[i]else[])++(downG more h yv y fr ub l s).1++(if(downG more h yv y fr ub l s).2.2 then(downG more h yv y fr ub r (s+l.size)).1 else[]),
    1+(downG more h yv y fr ub l s).2.1+(if(downG more h yv y fr ub l s).2.2 then(downG more h yv y fr ub r (s+l.size)).2.1 else 0),
    (downG more h yv y fr ub l s).2.2&&(downG more h yv y fr ub r (s+l.size)).2.2):=by
 have c:¬((fr<=i/\i<ub)/\more=false):=fun a=>by
  rw[a.2]at b;simp[a.1]at b
 conv=>lhs;simp only[downG]
 rw[e];simp only;rw[aN hp,aN c]
theorem Qd {more:Bool} {t:FT} {s i:Nat} (e:h (t.root s)=some i) (hp:¬(y<yv i\/t.hi<=fr\/ub<=t.lo)) (b:fr<=i/\i<ub):[i] <+: (downG more h yv y fr ub t s).1:=by
 cases t with
 |leaf a=>
  have c:h s=some i:=e;rw[wP c hp,aO b];exact List.prefix_rfl
 |node l r=>
  cases more with
  |false=>rw[C8 e hp b];exact List.prefix_rfl
  |true=>
   rw[C9 e hp ax,aO b,dW];exact List.prefix_append _ _
theorem Gv {t:FT} {s i:Nat} (d:t.wf) (b:iB lt h t s) (c:∀i j,lt i j->yv i<=yv j) (e:h (t.root s)=some i) (hp:y<yv i\/t.hi<=fr\/ub<=t.lo):(held h t s).filter (Av yv y fr ub)=[]:=by
 refine yL.2 fun j a=>?_;have f:=b.span d j a;have g:yv i<=yv j:=by
  rcases b.first e j a with h3|h3
  .rw[h3];exact wC _
  .exact c _ _ h3
 unfold Av;simp only[bO];omega
theorem wQ (f:∀i j,lt i j->yv i<=yv j):∀(t:FT) (s:Nat),t.wf->iB lt h t s->(downG true h yv y fr ub t s).1=(held h t s).filter (Av yv y fr ub)/\(downG true h yv y fr ub t s).2.2=true
 |.leaf a,s,d,b=>by
  cases e:h s with
  |none=>rw[nQ (t:=.leaf a) e,b.empty e];exact⟨rfl,rfl⟩
  |some i=>
   by_cases hp:y<yv i\/(FT.leaf a).hi<=fr\/ub<=(FT.leaf a).lo
   .rw[mZ (t:=.leaf a) e hp,Gv d b f e hp];exact⟨rfl,rfl⟩
   .have w:=b i e;simp only[downG,held];rw[e];have g:¬(y<yv i\/a+1<=fr\/ub<=a):=hp;simp only[aN g,Option.toList];by_cases c:fr<=i/\i<ub
    .rw[aO c];have:Av yv y fr ub i=true:=by unfold Av;simp only[bO];omega
     simp[this]
    .rw[aN c];have:Av yv y fr ub i=false:=by unfold Av;simp only[gY];omega
     simp[this]
 |.node l r,s,d,b=>by
  cases e:h ((FT.node l r).root s)with
  |none=>rw[nQ e,b.empty e];exact⟨rfl,rfl⟩
  |some i=>
   by_cases hp:y<yv i\/(FT.node l r).hi<=fr\/ub<=(FT.node l r).lo
   .rw[mZ e hp,Gv d b f e hp];exact⟨rfl,rfl⟩
   .obtain⟨u,v,k,m⟩:=b;have⟨n,o⟩:=wQ f l s d.1 k;have⟨p,q⟩:=wQ f r _ d.2.1 m;have g:¬(y<yv i\/r.hi<=fr\/ub<=l.lo):=hp;simp only[downG,held];rw[e];simp only[aN g,n,o,p,q,Option.toList,kW,lT,FO];by_cases c:fr<=i/\i<ub
    .have:Av yv y fr ub i=true:=by unfold Av;simp only[bO];omega
     simp[this,c]
    .have:Av yv y fr ub i=false:=by unfold Av;simp only[gY];omega
     simp[this,c]
theorem NA {α:Type} {a b:List α} (h:a≠[]):(a++b).take 1=a.take 1:=by
 cases a with
 |nil=>exact absurd rfl h
 |cons x a=>rfl
theorem zN (g:∀i j,lt i j->yv i<=yv j):∀(t:FT) (s:Nat),t.wf->iB lt h t s->(downG false h yv y fr ub t s).1=((held h t s).filter (Av yv y fr ub)).take 1/\((downG false h yv y fr ub t s).2.2=true↔(held h t s).filter (Av yv y fr ub)=[])
 |.leaf a,s,d,b=>by
  cases e:h s with
  |none=>rw[nQ (t:=.leaf a) e,b.empty e];simp
  |some i=>
   by_cases hp:y<yv i\/(FT.leaf a).hi<=fr\/ub<=(FT.leaf a).lo
   .rw[mZ (t:=.leaf a) e hp,Gv d b g e hp];simp
   .have A:=b i e;simp only[downG,held];rw[e];have m:¬(y<yv i\/a+1<=fr\/ub<=a):=hp;simp only[aN m,Option.toList];by_cases c:fr<=i/\i<ub
    .rw[aO c];have:Av yv y fr ub i=true:=by unfold Av;simp only[bO];omega
     simp[this]
    .rw[aN c];have:Av yv y fr ub i=false:=by unfold Av;simp only[gY];omega
     simp[this]
 |.node l r,s,d,b=>by
  cases e:h ((FT.node l r).root s)with
  |none=>rw[nQ e,b.empty e];simp
  |some i=>
   by_cases hp:y<yv i\/(FT.node l r).hi<=fr\/ub<=(FT.node l r).lo
   .rw[mZ e hp,Gv d b g e hp];simp
   .obtain⟨x,z,o,p⟩:=b;have⟨u,n⟩:=zN g l s d.1 o;have⟨v,w⟩:=zN g r _ d.2.1 p;have m:¬(y<yv i\/r.hi<=fr\/ub<=l.lo):=hp;simp only[downG,held];rw[e];simp only[aN m,Option.toList,kW,lT,FO];by_cases c:fr<=i/\i<ub
    .have:Av yv y fr ub i=true:=by unfold Av;simp only[bO];omega
     simp[this,c]
    .have:Av yv y fr ub i=false:=by unfold Av;simp only[gY];omega
     simp only[c,false_and,jC,this,gu,u,v];cases k:(downG false h yv y fr ub l s).2.2 with
     |true=>
      have f:=n.1 k;simp only[gJ,Bool.true_and,f,List.take_nil,gu];exact⟨rfl,w⟩
     |false=>
      have f:(held h l s).filter (Av yv y fr ub)≠[]:=fun q=>by rw[n.2 q]at k;cases k
      simp[f];exact(NA f).symm
theorem wR (more:Bool):∀(t:FT) (s:Nat),(downG more h yv y fr ub t s).1.length<=(downG more h yv y fr ub t s).2.1
 |.leaf a,s=>by
  simp only[downG];split
  .simp
  .split
   .simp
   .split<;>simp
 |.node l r,s=>by
  have b:=wR more l s;have c:=wR more r (s+l.size);simp only[downG];split
  .simp
  .split
   .simp
   .split
    .simp
    .simp only[bQ];split<;>split<;>simp<;>omega
theorem rD (more:Bool):∀(t:FT) (s:Nat),(downG more h yv y fr ub t s).2.1<=t.size
 |.leaf a,s=>by
  simp only[downG];split
  .simp[FT.size]
  .split
   .simp[FT.size]
   .split<;>simp[FT.size]
 |.node l r,s=>by
  have b:=rD more l s;have c:=rD more r (s+l.size);have d:(FT.node l r).size=l.size+r.size+1:=rfl;simp only[downG];split
  .simp;omega
  .split
   .simp;omega
   .split
    .simp;omega
    .simp only;split<;>omega
theorem uP {more:Bool} {m:Nat} (c:m=if more then 2 else 0):∀(t:FT) (s:Nat),t.wf->iB lt h t s->fr<=t.lo->t.hi<=ub->(downG more h yv y fr ub t s).2.1<=m*(downG more h yv y fr ub t s).1.length+1
 |.leaf a,s,b,d,f,g=>by
  simp only[downG];split
  .simp
  .split
   .simp
   .split<;>simp
 |.node l r,s,b,d,f,g=>by
  have k:(FT.node l r).lo=l.lo/\(FT.node l r).hi=r.hi:=⟨rfl,rfl⟩;have q:=FT.fF l b.1;have u:=FT.fF r b.2.1;have v:=b.2.2;cases e:h ((FT.node l r).root s)with
  |none=>rw[nQ e];simp
  |some i=>
   have n:=(d.1 i e).1;have j:fr<=i/\i<ub:=aa;simp only[downG];rw[e];simp only;split
   .simp
   .cases more with
    |false=>simp[j]
    |true=>
     have o:=uP c l s b.1 d.2.2.1 aa aa;have p:=uP c r (s+l.size) b.2.1 d.2.2.2 aa aa;simp only[gJ]at c;subst c;rw[aN ax];simp only[bQ,eH,fE];split
     .first|omega|(simp only[bQ,eH,fE];omega)
     .first|omega|(simp only[bQ,eH,fE];omega)
theorem uQ {more:Bool} {t:FT} {s:Nat} (hp:t.hi<=fr\/ub<=t.lo):downG more h yv y fr ub t s=([],1,true):=by
 cases e:h (t.root s)with
 |none=>exact nQ e
 |some i=>exact mZ e (.inr hp)
theorem uR {more:Bool} {m:Nat} (e:m=if more then 2 else 0):∀(t:FT) (s:Nat),t.wf->iB lt h t s->fr<=t.lo\/t.hi<=ub->(downG more h yv y fr ub t s).2.1<=m*(downG more h yv y fr ub t s).1.length+2*t.ht+1
 |.leaf a,s,b,c,hh=>by
  simp only[downG];split
  .simp
  .split
   .simp
   .split<;>simp
 |.node l r,s,b,c,hh=>by
  have B:(FT.node l r).lo=l.lo/\(FT.node l r).hi=r.hi:=⟨rfl,rfl⟩;have C:=FT.fF l b.1;have D:=FT.fF r b.2.1;have E:=b.2.2;have f:=uR e l s b.1 c.2.2.1;have g:=uR e r (s+l.size) b.2.1 c.2.2.2;have al:=uP (y:=y) (yv:=yv) (fr:=fr) (ub:=ub) e l s b.1 c.2.2.1;have j:=uP (y:=y) (yv:=yv) (fr:=fr) (ub:=ub) e r (s+l.size) b.2.1 c.2.2.2;have key:(downG more h yv y fr ub l s).2.1+(downG more h yv y fr ub r (s+l.size)).2.1<=m*(downG more h yv y fr ub l s).1.length+m*(downG more h yv y fr ub r (s+l.size)).1.length+2*(max l.ht r.ht)+2/\(downG more h yv y fr ub l s).2.1<=m*(downG more h yv y fr ub l s).1.length+2*(max l.ht r.ht)+1:=by
   rcases hh with hh|hh
   .have f:=f (.inl aa);by_cases q:l.hi<=ub
    .have al:=al aa q;have g:=g (.inl aa);omega
    .rw[uQ (t:=r) (.inr aa)];simp only[fE];omega
   .have g:=g (.inr aa);by_cases p:fr<=r.lo
    .have j:=j p aa;have f:=f (.inr aa);omega
    .rw[uQ (t:=l) (.inl aa)];simp only[fE];omega
  simp only[downG,FT.ht];generalize downG more h yv y fr ub l s=n at*;generalize downG more h yv y fr ub r (s+l.size)=o at*;have⟨d,x,k⟩:=n;have⟨i,z,w⟩:=o;simp only at key |-;split
  .simp
  .split
   .simp
   .split
    .simp
    .have u:∀A:List Nat,m*(A++d++i).length=m*A.length+m*d.length+m*i.length:=fun A=>by rw[bQ,bQ,jB,jB]
     have v:∀A:List Nat,m*(A++d).length=m*A.length+m*d.length:=fun A=>by rw[bQ,jB]
     cases k with
     |true=>simp only[gJ];rw[u];omega
     |false=>simp only[pq,jC,je];rw[v];omega
theorem wS {more:Bool} {m:Nat} (e:m=if more then 2 else 0):∀(t:FT) (s:Nat),t.wf->iB lt h t s->(downG more h yv y fr ub t s).2.1<=m*(downG more h yv y fr ub t s).1.length+4*t.ht+1
 |.leaf a,s,b,c=>by
  simp only[downG];split
  .simp
  .split
   .simp
   .split<;>simp
 |.node l r,s,b,c=>by
  have z:(FT.node l r).lo=l.lo/\(FT.node l r).hi=r.hi:=⟨rfl,rfl⟩;have D:=FT.fF l b.1;have E:=FT.fF r b.2.1;have F:=b.2.2;have B:=wS e l s b.1 c.2.2.1;have C:=wS e r (s+l.size) b.2.1 c.2.2.2;have g:=uR (y:=y) (yv:=yv) (fr:=fr) (ub:=ub) e l s b.1 c.2.2.1;have i:=uR (y:=y) (yv:=yv) (fr:=fr) (ub:=ub) e r (s+l.size) b.2.1 c.2.2.2;have key:(downG more h yv y fr ub l s).2.1+(downG more h yv y fr ub r (s+l.size)).2.1<=m*(downG more h yv y fr ub l s).1.length+m*(downG more h yv y fr ub r (s+l.size)).1.length+4*(max l.ht r.ht)+2/\(downG more h yv y fr ub l s).2.1<=m*(downG more h yv y fr ub l s).1.length+4*(max l.ht r.ht)+1:=by
   refine⟨?_,aa⟩;by_cases p:ub<=r.lo
   .rw[uQ (t:=r) (.inr p)];simp only[fE];omega
   .by_cases o:l.hi<=fr
    .rw[uQ (t:=l) (.inl o)];simp only[fE];omega
    .have g:=g (.inr aa);have i:=i (.inl aa);omega
  simp only[downG,FT.ht];generalize downG more h yv y fr ub l s=k at*;generalize downG more h yv y fr ub r (s+l.size)=n at*;have⟨d,w,j⟩:=k;have⟨f,x,v⟩:=n;simp only at key |-;split
  .simp
  .split
   .simp
   .split
    .simp
    .have q:∀A:List Nat,m*(A++d++f).length=m*A.length+m*d.length+m*f.length:=fun A=>by rw[bQ,bQ,jB,jB]
     have u:∀A:List Nat,m*(A++d).length=m*A.length+m*d.length:=fun A=>by rw[bQ,jB]
     cases j with
     |true=>simp only[gJ];rw[q];omega
     |false=>simp only[pq,jC,je];rw[u];omega
end
def pullH (lb:Nat->Nat->Bool):FT->Nat->iV->iV
 |.leaf _,s,h=>gU h s none
 |.node l r,s,h=>match h (l.root s),h (r.root (s+l.size))with
  |none,none=>gU h ((FT.node l r).root s) none
  |some i,none=>pullH lb l s (gU h ((FT.node l r).root s) (some i))
  |none,some j=>pullH lb r (s+l.size) (gU h ((FT.node l r).root s) (some j))
  |some i,some j=>if lb i j then pullH lb l s (gU h ((FT.node l r).root s) (some i))else pullH lb r (s+l.size) (gU h ((FT.node l r).root s) (some j))
structure Ord (lt:Nat->Nat->Prop) (lb:Nat->Nat->Bool) (n:Nat):Prop where
 tr:∀i j k,lt i j->lt j k->lt i k
 uY:∀i j,i<n->j<n->i≠j->lt i j\/lt j i
 dec:∀i j,lb i j=true↔lt i j
section
variable {lt:Nat->Nat->Prop} {lb:Nat->Nat->Bool} {n:Nat}
theorem kg:∀(t:FT) (s:Nat) (h:iV) (k:Nat),(k<s\/s+t.size<=k)->pullH lb t s h k=h k
 |.leaf a,s,h,k,b=>by
  simp only[FT.size]at b;exact iL aa
 |.node l r,s,h,k,b=>by
  have d:(FT.node l r).size=l.size+r.size+1:=rfl;have c:(FT.node l r).root s=s+(l.size+r.size+1)-1:=rfl;have hu:∀v,gU h ((FT.node l r).root s) v k=h k:=fun v=>iL aa;simp only[pullH];cases h (l.root s)<;>cases h (r.root (s+l.size))<;>simp only
  .exact hu _
  .rw[kg r _ _ k aa,hu]
  .rw[kg l s _ k aa,hu]
  .split
   .rw[kg l s _ k aa,hu]
   .rw[kg r _ _ k aa,hu]
theorem Bh {l r:FT} {s i:Nat} {h b:iV} (m:(FT.node l r).wf)
  (c:b ((FT.node l r).root s)=some i) (g:iB lt b l s) (k:iB lt b r (s+l.size)) (f:l.lo<=i/\i<r.hi)
  (d:∀j∈held b l s,lt i j) (e:∀j∈held b r (s+l.size),lt i j):iB lt b (.node l r) s:=
 ⟨fun j a=>by
  rw[c]at a;injection a with a;subst a;exact⟨f,d,e⟩,(fun a=>by rw[c]at a;cases a),g,k⟩
theorem rE (O:Ord lt lb n):∀(t:FT) (s:Nat) (h:iV) (x:Nat),t.wf->t.hi<=n->iB lt h t s->h (t.root s)=some x->(held h t s).Nodup->
  iB lt (pullH lb t s h) t s/\(x::held (pullH lb t s h) t s).Perm (held h t s)
 |.leaf a,s,h,x,c,ac,ag,e,V=>by
  have ah:h s=some x:=e;refine⟨fun i hi=>?_,?_⟩
  .simp only[pullH,gG]at hi;cases hi
  .show(x::((gU h s none) s).toList).Perm (h s).toList;rw[gG,ah];exact qE _
 |.node l r,s,h,x,c,ac,ag,e,V=>by
  have au:(FT.node l r).size=l.size+r.size+1:=rfl;have ar:(FT.node l r).root s=s+(l.size+r.size+1)-1:=rfl;have av:l.root s=s+l.size-1:=rfl;have aC:r.root (s+l.size)=s+l.size+r.size-1:=rfl;have pl:=l.size_pos;have ay:=r.size_pos;have az:=FT.fF l c.1;have aA:=FT.fF r c.2.1;have aB:=c.2.2;have aq:r.hi<=n:=ac;have⟨Z,ab,q,u⟩:=ag;have ak:held h (.node l r) s=x::(held h l s++held h r (s+l.size)):=by simp only[held];rw[e];rfl
  rw[ak]at V |-;have ad:=(mF.1 V).2;rw[oG]at ad;have⟨ae,af,aw⟩:=ad;have hu:∀v k,k≠(FT.node l r).root s->gU h ((FT.node l r).root s) v k=h k:=fun v k z=>iL z;have U:∀v,gU h ((FT.node l r).root s) v ((FT.node l r).root s)=v:=fun v=>gG _ _ _;have S:∀v,∀k,s<=k->k<s+l.size->gU h ((FT.node l r).root s) v k=h k:=fun v k Z ab=>hu v k aa;have T:∀v,∀k,s+l.size<=k->k<s+l.size+r.size->gU h ((FT.node l r).root s) v k=h k:=fun v k Z ab=>hu v k aa;have X:∀i,h (l.root s)=some i->(∀j∈held h r (s+l.size),lt i j)->
    iB lt (pullH lb l s (gU h ((FT.node l r).root s) (some i))) (.node l r) s/\(x::held (pullH lb l s (gU h ((FT.node l r).root s) (some i))) (.node l r) s).Perm (x::(held h l s++held h r (s+l.size))):=fun i m R=>by
   have A:=U (some i);have o:=S (some i);have p:=T (some i);have I:gU h ((FT.node l r).root s) (some i) (l.root s)=some i:=by rw[hu _ _ aa];exact m
   generalize gU h ((FT.node l r).root s) (some i)=w at*;have P:=bS l s o;have Q:=bS r _ p;have⟨G,d⟩:=rE O l s w i c.1 aa (q.congr o) I (by rw[P];exact ae);have D:=kg (lb:=lb) l s w;generalize pullH lb l s w=y at*;rw[P]at d;have K:∀k,s+l.size<=k->k<s+l.size+r.size->y k=h k:=fun k E F=>by rw[D k (.inr E)];exact p k E F
   have B:y ((FT.node l r).root s)=some i:=by rw[D _ aa];exact A
   have W:(i::held y l s).Nodup:=d.nodup_iff.2 ae;have N:i∈held h l s:=d.mem_iff.1 ax;have al:=q.span c.1 i N;refine⟨Bh (h:=h) c B G (u.congr K) aa (fun j b=>?_) (fun j b=>?_),?_⟩
   .rcases q.first m j (d.mem_iff.1 (lM _ b))with h9|h9
    .subst h9;exact absurd b (mF.1 W).1
    .exact h9
   .rw[bS r _ K]at b;exact R j b
   .refine List.Perm.cons x ?_;simp only[held];rw[B,bS r _ K];exact d.append_right _
  have Y:∀i,h (r.root (s+l.size))=some i->(∀j∈held h l s,lt i j)->
    iB lt (pullH lb r (s+l.size) (gU h ((FT.node l r).root s) (some i))) (.node l r) s/\(x::held (pullH lb r (s+l.size) (gU h ((FT.node l r).root s) (some i))) (.node l r) s).Perm (x::(held h l s++held h r (s+l.size))):=fun i m R=>by
   have A:=U (some i);have o:=S (some i);have p:=T (some i);have I:gU h ((FT.node l r).root s) (some i) (r.root (s+l.size))=some i:=by rw[hu _ _ aa];exact m
   generalize gU h ((FT.node l r).root s) (some i)=w at*;have P:=bS l s o;have Q:=bS r _ p;have⟨G,d⟩:=rE O r (s+l.size) w i c.2.1 aa (u.congr p) I (by rw[Q];exact af);have D:=kg (lb:=lb) r (s+l.size) w;generalize pullH lb r (s+l.size) w=y at*;rw[Q]at d;have J:∀k,s<=k->k<s+l.size->y k=h k:=fun k E F=>by rw[D k (.inl F)];exact o k E F
   have B:y ((FT.node l r).root s)=some i:=by rw[D _ aa];exact A
   have W:(i::held y r (s+l.size)).Nodup:=d.nodup_iff.2 af;have N:i∈held h r (s+l.size):=d.mem_iff.1 ax;have al:=u.span c.2.1 i N;refine⟨Bh (h:=h) c B (q.congr J) G aa (fun j b=>?_) (fun j b=>?_),?_⟩
   .rw[bS l _ J]at b;exact R j b
   .rcases u.first m j (d.mem_iff.1 (lM _ b))with h9|h9
    .subst h9;exact absurd b (mF.1 W).1
    .exact h9
   .refine List.Perm.cons x ?_;simp only[held];rw[B,bS l _ J];show(i::(held h l s++held y r (s+l.size))).Perm _;exact(List.perm_middle.symm).trans (d.append_left _)
  have am:∀i,h (l.root s)=some i->i<n/\i<l.hi:=fun i m=>by
   have⟨L,H⟩:=qf m;have:=q.span c.1 i (by rw[H];simp);omega
  have an:∀i,h (r.root (s+l.size))=some i->i<n/\r.lo<=i:=fun i m=>by
   have⟨L,H⟩:=qf m;have:=u.span c.2.1 i (by rw[H];simp);omega
  simp only[pullH];split
  .rename_i f g;have ao:=q.empty f;have ap:=u.empty g;have A:=U none;have o:=S none;have p:=T none;generalize gU h ((FT.node l r).root s) none=w at*;refine⟨⟨fun j b=>?_,fun _=>?_,q.congr o,u.congr p⟩,?_⟩
   .rw[A]at b;cases b
   .rw[bS l s o,bS r _ p];exact⟨ao,ap⟩
   .refine List.Perm.cons x ?_;simp only[held];rw[A,bS l s o,bS r _ p];exact qE _
  .rename_i i f g;exact X i f (fun j b=>by rw[u.empty g]at b;exact absurd b iO)
  .rename_i j f g;exact Y j g (fun k z=>by rw[q.empty f]at z;exact absurd z iO)
  .rename_i i j f g;split
   .rename_i M;have C:=(O.dec i j).1 M;refine X i f fun k z=>?_;rcases u.first g k z with h9|h9
    .rw[h9];exact C
    .exact O.tr _ _ _ C h9
   .rename_i M;have C:lt j i:=by
     have ai:=am i f;have aj:=an j g;rcases O.uY i j ai.1 aj.1 aa with h9|h9
     .exact absurd ((O.dec i j).2 h9) M
     .exact h9
    refine Y j g fun k z=>?_;rcases q.first f k z with h9|h9
    .rw[h9];exact C
    .exact O.tr _ _ _ C h9
def dropH (lb:Nat->Nat->Bool):FT->Nat->Nat->iV->iV
 |.leaf a,s,x,h=>pullH lb (.leaf a) s h
 |.node l r,s,x,h=>if h ((FT.node l r).root s)=some x then pullH lb (.node l r) s h else if x<l.hi then dropH lb l s x h else dropH lb r (s+l.size) x h
theorem uS:∀(t:FT) (s x:Nat) (h:iV) (k:Nat),(k<s\/s+t.size<=k)->dropH lb t s x h k=h k
 |.leaf a,s,x,h,k,b=>kg (.leaf a) s h k b
 |.node l r,s,x,h,k,b=>by
  have c:(FT.node l r).size=l.size+r.size+1:=rfl;simp only[dropH];split
  .exact kg _ s h k b
  .split
   .exact uS l s x h k aa
   .exact uS r _ x h k aa
theorem wT (O:Ord lt lb n):∀(t:FT) (s:Nat) (h:iV) (x:Nat),t.wf->t.hi<=n->iB lt h t s->x∈held h t s->(held h t s).Nodup->
  iB lt (dropH lb t s x h) t s/\(x::held (dropH lb t s x h) t s).Perm (held h t s)
 |.leaf a,s,h,x,b,q,u,z,p=>by
  have e:h s=some x:=by simpa[held]using z
  exact rE O (.leaf a) s h x b q u e p
 |.node l r,s,h,x,b,q,u,z,p=>by
  have V:(FT.node l r).size=l.size+r.size+1:=rfl;have U:(FT.node l r).root s=s+(l.size+r.size+1)-1:=rfl;have pl:=l.size_pos;have X:=r.size_pos;have Y:=FT.fF l b.1;have Z:=FT.fF r b.2.1;have ab:=b.2.2;have T:r.hi<=n:=q;simp only[dropH];split
  .rename_i e;exact rE O _ s h x b q u e p
  .rename_i e;have⟨I,J,A,B⟩:=u;have TJ:=z;simp only[held,bW,BL,e,false_or]at TJ;cases m:h ((FT.node l r).root s)with
   |none=>
    have⟨R,S⟩:=J m;rw[R,S]at TJ;rcases TJ with TJ|TJ<;>exact absurd TJ iO
   |some i=>
    have K:held h (.node l r) s=i::(held h l s++held h r (s+l.size)):=by simp only[held];rw[m];rfl
    rw[K]at p |-;have H:=(mF.1 p).2;rw[oG]at H;have⟨P,Q,W⟩:=H;have⟨C,D,E⟩:=I i m;split
    .rename_i L;have M:x∈held h l s:=by
      rcases TJ with h9|h9
      .exact h9
      .have:=B.span b.2.1 x h9;omega
     have⟨v,f⟩:=wT O l s h x b.1 aa A M P;have o:=uS (lb:=lb) l s x h;generalize dropH lb l s x h=d at*;have y:∀k,s+l.size<=k->k<s+l.size+r.size->d k=h k:=fun k F G=>o k (.inr F);have g:d ((FT.node l r).root s)=some i:=by rw[o _ aa];exact m
     refine⟨Bh (h:=h) b g v (B.congr y) C (fun j c=>D j (f.mem_iff.1 (lM _ c))) (fun j c=>by rw[bS r _ y]at c;exact E j c),?_⟩;simp only[held];rw[g,bS r _ y];show(x::i::(held d l s++held h r (s+l.size))).Perm _;exact(List.Perm.swap _ _ _).trans ((f.append_right _).cons i)
    .rename_i L;have N:x∈held h r (s+l.size):=by
      rcases TJ with h9|h9
      .have:=A.span b.1 x h9;omega
      .exact h9
     have⟨v,f⟩:=wT O r (s+l.size) h x b.2.1 aa B N Q;have o:=uS (lb:=lb) r (s+l.size) x h;generalize dropH lb r (s+l.size) x h=d at*;have w:∀k,s<=k->k<s+l.size->d k=h k:=fun k F G=>o k (.inl G);have g:d ((FT.node l r).root s)=some i:=by rw[o _ aa];exact m
     refine⟨Bh (h:=h) b g (A.congr w) v C (fun j c=>by rw[bS l _ w]at c;exact D j c) (fun j c=>E j (f.mem_iff.1 (lM _ c))),?_⟩;simp only[held];rw[g,bS l _ w];show(x::i::(held h l s++held d r (s+l.size))).Perm _;refine(List.Perm.swap _ _ _).trans (List.Perm.cons i ?_);exact(List.perm_middle.symm).trans (f.append_left _)
theorem zO:∀(t:FT) (s:Nat) (h:iV) (x:Nat),t.wf->iB lt h t s->t.lo<=x->x<t.hi->
  ((∀k∈t.path s x,h k≠some x)->x∉held h t s)/\
  ∀m k:Nat,(t.path s x)[m]? =some k->h k=some x->(∀i<m,∀k',(t.path s x)[i]? =some k'->h k'≠some x)->∃c b,(c,b)∈t.subs s/\k=c.root b/\dropH lb t s x h=pullH lb c b h
 |.leaf a,s,h,x,n,v,q,u=>by
  refine⟨fun f e=>f s (by simp[FT.path]) (by simpa[held]using e),fun m k g f o=>?_⟩;have J:m=0/\k=s:=by
   cases m with
   |zero=>simp[FT.path]at g;exact⟨rfl,g.symm⟩
   |succ m=>simp[FT.path]at g
  exact⟨.leaf a,s,by simp[FT.subs],by rw[J.2];rfl,rfl⟩
 |.node l r,s,h,x,n,v,q,u=>by
  have Q:=n.2.2;have D:l.lo<=x:=q;have E:x<r.hi:=u;have⟨O,P,w,y⟩:=v;have M:=w.span n.1;have N:=y.span n.2.1;have step:∀(t2:FT) (d:Nat),(FT.node l r).path s x=(FT.node l r).root s::t2.path d x->(∀p∈t2.subs d,p∈(FT.node l r).subs s)->
    (x∈held h (.node l r) s->h ((FT.node l r).root s)≠some x->x∈held h t2 d)->(h ((FT.node l r).root s)≠some x->dropH lb (.node l r) s x h=dropH lb t2 d x h)->
    (((∀k∈t2.path d x,h k≠some x)->x∉held h t2 d)/\∀m k:Nat,(t2.path d x)[m]? =some k->h k=some x->(∀i<m,∀k',(t2.path d x)[i]? =some k'->h k'≠some x)->∃c b,(c,b)∈t2.subs d/\k=c.root b/\dropH lb t2 d x h=pullH lb c b h)->
    ((∀k∈(FT.node l r).path s x,h k≠some x)->x∉held h (.node l r) s)/\
     ∀m k:Nat,((FT.node l r).path s x)[m]? =some k->h k=some x->(∀i<m,∀k',((FT.node l r).path s x)[i]? =some k'->h k'≠some x)->∃c b,(c,b)∈(FT.node l r).subs s/\k=c.root b/\dropH lb (.node l r) s x h=pullH lb c b h:=by
   intro t2 d C L G F ih;rw[C];refine⟨fun f e=>?_,fun m k g f o=>?_⟩
   .exact ih.1 (fun k I=>f k (lM _ I)) (G e (f _ ax))
   .cases m with
    |zero=>
     simp only[eG,jH]at g;subst g;exact⟨.node l r,s,by simp[FT.subs],rfl,by simp only[dropH];rw[aO f]⟩
    |succ m=>
     have K:=o 0 aa ((FT.node l r).root s) ax;have⟨c,b,z,A,B⟩:=ih.2 m k (aQ g) f (fun i hi k' H=>o (i+1) aa k' (aQ H));exact⟨c,b,L _ z,A,by rw[F K];exact B⟩
  by_cases e:x<l.hi
  .refine step l s (by rw[FT.path,aO e]) (fun p hp=>by simp only[FT.subs,bW];exact .inl (.inl hp)) (fun hh j=>?_) (fun j=>by simp only[dropH];rw[aN j,aO e]) (zO l s h x n.1 w D e);simp only[held,bW,BL,j,false_or]at hh;rcases hh with hh|hh
   .exact hh
   .have:=N x hh;omega
  .refine step r (s+l.size) (by rw[FT.path,aN e]) (fun p hp=>by simp only[FT.subs,bW];exact .inl (.inr hp)) (fun hh j=>?_) (fun j=>by simp only[dropH];rw[aN j,aN e]) (zO r _ h x n.2.1 y aa E);simp only[held,bW,BL,j,false_or]at hh;rcases hh with hh|hh
   .have:=M x hh;omega
   .exact hh
end
def AU (R:List Pt) (i j:Nat):Prop:=mM (cu R i) (cu R j)
def D9 (R:List Pt) (i j:Nat):Bool:=decide (mM (cu R i) (cu R j))
theorem KC {R:List Pt} (hu:(ids R).Nodup) {i k:Nat} (hi:i<R.length) (a:k<R.length) (b:i≠k):ku R i≠ku R k:=by
 unfold ku;rw[dK hi,dK a];have hid:=dF.1 hu;rcases Nat.lt_trichotomy i k with h|h|h
 .exact gH.1 hid i k hi a h
 .exact absurd h b
 .exact fun e=>gH.1 hid k i a hi h e.symm
theorem KD {R:List Pt} (hu:(ids R).Nodup):Ord (AU R) (D9 R) R.length:=
 ⟨fun i j k h a=>pM h a,fun i j hi c b=>by
  have:=KC hu hi c b;unfold ku at this;unfold AU mM;omega,fun i j=>by unfold D9 AU;simp⟩
def oU (R:List Pt) (h:iV):List Nat:=if R.length=0 then[]else held h (dU 0 R.length) 0
theorem oq {R:List Pt} {h:iV} (a:0<R.length):oU R h=held h (dU 0 R.length) 0:=by unfold oU;rw[aN aa]
structure mq (R:List Pt) (h:iV):Prop where
 Cm:R.Pairwise kY
 ids:(ids R).Nodup
 ok:0<R.length->iB (AU R) h (dU 0 R.length) 0
 jD:(oU R h).Nodup
section
variable {R:List Pt} {h:iV} {l:List Pt}
theorem mq.lt (H:mq R h) {i:Nat} (hi:i∈oU R h):i<R.length:=by
 by_cases a:R.length=0
 .unfold oU at hi;rw[aO a]at hi;exact absurd hi iO
 .obtain⟨w1,w2,w3⟩:=bR 0 R.length aa;rw[oq aa]at hi;have:=(H.ok aa).span w1 i hi;omega
theorem mq.UC (H:mq R h):(cz R).Pairwise (·<=·):=dF.2 (H.Cm.imp fun h=>by unfold kY at h;omega)
def Da (R:List Pt):iV:=fillH (dU 0 R.length) 0 (ed R) fun _=>none
theorem L6 (c:R.Pairwise kY) (hu:(ids R).Nodup):mq R (Da R)/\(oU R (Da R)).Perm (ed R):=by
 have b:=ru c hu;have key:0<R.length->iB (AU R) (Da R) (dU 0 R.length) 0/\(held (Da R) (dU 0 R.length) 0).Perm (ed R):=fun a=>by
  have⟨w1,w2,w3⟩:=bR 0 R.length a;exact wO (lt:=AU R) _ 0 (ed R) _ w1 b.Vw b.nodup (fun i hi=>by have:=b.lt hi;omega) (fun _ _ _=>rfl)
 have hp:(oU R (Da R)).Perm (ed R):=by
  by_cases a:R.length=0
  .have:ed R=[]:=iC (by rw[kJ];exact a);unfold oU;rw[aO a,this]
  .rw[oq aa];exact(key aa).2
 exact⟨⟨c,hu,fun a=>(key a).1,hp.nodup_iff.2 b.nodup⟩,hp⟩
theorem NC (a:R.Pairwise kY) (hu:(ids R).Nodup):((oU R (Da R)).map (cu R)).Perm R:=by
 have e:(ed R).map (cu R)=kI R:=by
  unfold ed;rw[wu]
  conv=>rhs;rw[<-List.map_id (kI R)]
  exact Bw fun p hp=>CP ((jL R p).1 hp)
 exact(((L6 a hu).2.map (cu R)).trans (by rw[e])).trans (jy R)
def Ea (R:List Pt) (x:Nat) (h:iV):iV:=dropH (D9 R) (dU 0 R.length) 0 x h
theorem mq.drop (H:mq R h) {x:Nat} (c:x∈oU R h):mq R (Ea R x h)/\(x::oU R (Ea R x h)).Perm (oU R h):=by
 have g:=H.lt c;have a:0<R.length:=aa;have⟨w1,w2,w3⟩:=bR 0 R.length a;have d:=c;have b:=H.jD;rw[oq a]at d b;have⟨e,f⟩:=wT (KD H.ids) (dU 0 R.length) 0 h x w1 aa (H.ok a) d b;have hp:(x::oU R (Ea R x h)).Perm (oU R h):=by rw[oq a,oq a];exact f
 exact⟨⟨H.Cm,H.ids,fun _=>e,(mF.1 (hp.nodup_iff.2 H.jD)).2⟩,hp⟩
abbrev zP (R:List Pt) (h:iV) (l:List Pt):Prop:=((oU R h).map (cu R)).Perm l
theorem zP.ids (H:mq R h) (c:zP R h l):(Go.Proofs.YtkjdbndekceffaaGreat.ids l).Nodup:=by
 have a:(((oU R h).map (cu R)).map fun p=>p.2.2).Nodup:=by
  rw[wu];refine dF.2 (Bp (fun{i k} hi b d=>?_) H.jD);exact KC H.ids (H.lt hi) (H.lt b) d
 exact(c.map _).nodup_iff.1 a
theorem zP.mem (a:zP R h l) (p:Pt):p∈l↔∃i∈oU R h,cu R i=p:=by rw[<-a.mem_iff,dD]
theorem zP.len (a:zP R h l):(oU R h).length=l.length:=by have:=a.length_eq;simpa using this
theorem mq.few (H:mq R h):(oU R h).length<=R.length:=zn H.jD fun k a=>H.lt a
theorem zP.drop (H:mq R h) (a:zP R h l) {x:Nat} (i:x∈oU R h):zP R (Ea R x h) (l.filter fun q=>decide (q≠cu R x)):=by
 have⟨j,d⟩:=H.drop i;have b:(cu R x::(oU R (Ea R x h)).map (cu R)).Perm l:=(d.map (cu R)).trans a;have f:l.Nodup:=mi (R:=fun p q:Pt=>p.2.2≠q.2.2) (fun p h=>h rfl) (dF.1 (zP.ids H a));have e:=b.nodup_iff.2 f;have c:=b.filter fun q=>decide (q≠cu R x);rw[yK ax,kV.2 (fun q g=>by
  simp only[bO];rintro rfl;exact(mF.1 e).1 g)]at c
 exact c
def oV (x1 x2 y:Int) (p:Pt):Bool:=decide (x1<=p.1/\p.1<=x2/\p.2.1<=y)
def rZ (l:List Pt) (x1 x2 y:Int):List Int:=dh (ids (l.filter (oV x1 x2 y)))
theorem Iw (x1 x2 y:Int):(rZ l x1 x2 y).length=(l.filter (oV x1 x2 y)).length:=by unfold rZ;rw[dY];simp[Go.Proofs.YtkjdbndekceffaaGreat.ids]
def jG (R:List Pt) (x1:Int):Nat:=(aZ (cz R) x1).1
def mH (R:List Pt) (x2:Int):Nat:=(aV (cz R) x2).1
def lC (more:Bool) (R:List Pt) (h:iV) (x1 x2 y:Int):List Nat×Nat:=
 if R.length=0\/x2<x1 then([],0)else
 if jG R x1<mH R x2 then((downG more h (l7 R) y (jG R x1) (mH R x2) (dU 0 R.length) 0).1,(aZ (cz R) x1).2+(aV (cz R) x2).2+(downG more h (l7 R) y (jG R x1) (mH R x2) (dU 0 R.length) 0).2.1)
 else([],(aZ (cz R) x1).2+(aV (cz R) x2).2)
theorem Sy (R:List Pt) (x2:Int):mH R x2<=R.length:=by
 have:=(gN (fun i=>decide (x2<(cz R).getD i 0)) (cz R).length).2;have e:(cz R).length=R.length:=by simp[cz]
 unfold mH aV;omega
theorem L8 (H:mq R h) (x1 x2 y:Int) {i:Nat} (hi:i<R.length):Av (l7 R) y (jG R x1) (mH R x2) i=oV x1 x2 y (cu R i):=by
 have c:i<(cz R).length:=by unfold cz;simpa using hi
 have d:(cz R)[i]=(cu R i).1:=by rw[dK hi];simp[cz]
 have a:=tZ H.UC x1 c;have b:=uf H.UC x2 c;rw[d]at a b;unfold Av oV jG mH l7;rw[nD,bO,bO,a,b]
theorem Qe (i j:Nat):AU R i j->l7 R i<=l7 R j:=fun h=>by unfold AU mM at h;unfold l7;omega
def yl (R:List Pt) (h:iV) (x1 x2 y:Int):List Nat:=(oU R h).filter fun i=>oV x1 x2 y (cu R i)
theorem Gw (H:mq R h) (more:Bool) (x1 x2 y:Int):(lC more R h x1 x2 y).1=if more then yl R h x1 x2 y else(yl R h x1 x2 y).take 1:=by
 have b:(∀i∈oU R h,oV x1 x2 y (cu R i)=false)->([]:List Nat)=if more then yl R h x1 x2 y else(yl R h x1 x2 y).take 1:=fun d=>by
  have:yl R h x1 x2 y=[]:=yL.2 fun i hi=>by rw[d i hi];decide
  rw[this];cases more<;>rfl
 unfold lC;split
 .rename_i c;refine b fun i hi=>?_;have g:=H.lt hi;unfold oV;simp only[gY];omega
 .rename_i c;split
  .have a:0<R.length:=aa;have⟨w1,w2,w3⟩:=bR 0 R.length a;have e:yl R h x1 x2 y=(held h (dU 0 R.length) 0).filter (Av (l7 R) y (jG R x1) (mH R x2)):=by
    unfold yl;rw[oq a];refine l9 fun i hi=>?_;rw[L8 H x1 x2 y (H.lt (by rw[oq a];exact hi))]
   cases more with
   |true=>rw[e];exact(wQ Qe _ 0 w1 (H.ok a)).1
   |false=>rw[e];exact(zN Qe _ 0 w1 (H.ok a)).1
  .rename_i f;refine b fun i hi=>?_;rw[<-L8 H x1 x2 y (H.lt hi)];unfold Av;simp only[gY];omega
theorem Qg (a:zP R h l) (x1 x2 y:Int):((yl R h x1 x2 y).map (cu R)).Perm (l.filter (oV x1 x2 y)):=by
 have:=a.filter (oV x1 x2 y);rw[yY]at this;exact this
theorem Db (c:zP R h l) (x1 x2 y:Int):dh ((yl R h x1 x2 y).map (ku R))=rZ l x1 x2 y/\(yl R h x1 x2 y).length=(rZ l x1 x2 y).length:=by
 have a:=Qg c x1 x2 y;have b:((yl R h x1 x2 y).map (ku R)).Perm (Go.Proofs.YtkjdbndekceffaaGreat.ids (l.filter (oV x1 x2 y))):=by
  have:=a.map fun p=>p.2.2;rw[wu]at this;exact this
 refine⟨?_,?_⟩
 .unfold rZ;exact xP (lY _) ((pg _ _).trans b.symm)
 .rw[Iw];have:=a.length_eq;simpa using this
theorem zQ (H:mq R h) (g:R.length<=100000) (more:Bool) (x1 x2 y:Int):
  (lC more R h x1 x2 y).1.length<=(lC more R h x1 x2 y).2/\(lC more R h x1 x2 y).2<=(if more then 2 else 0)*(lC more R h x1 x2 y).1.length+6*Lib.bitLen R.length+1:=by
 unfold lC;split
 .simp
 .rename_i j;have a:0<R.length:=aa;have d:(cz R).length=R.length:=by simp[cz]
  have b:=lH (cz R) x1 aa;have c:=lI (cz R) x2 aa;rw[d]at b c;split
  .obtain⟨w1,w2,w3⟩:=bR 0 R.length a;have i:=(bD R.length aa aa).2.2;have k:=wE 0 R.length (Lib.bitLen R.length) aa;have e:=wS (more:=more) (yv:=l7 R) (y:=y) (fr:=jG R x1) (ub:=mH R x2) rfl (dU 0 R.length) 0 w1 (H.ok a);have f:=wR (h:=h) (yv:=l7 R) (y:=y) (fr:=jG R x1) (ub:=mH R x2) more (dU 0 R.length) 0;simp only;omega
  .simp only[fE];omega
theorem Iy (H:mq R h) (d:R.length<=20000) (more:Bool) (x1 x2 y:Int):(lC more R h x1 x2 y).1.length<=R.length/\(lC more R h x1 x2 y).2<=100000:=by
 have a:=(zQ H aa more x1 x2 y).2;have e:Lib.bitLen R.length<=15:=bA (fP d aa) ai;have b:(lC more R h x1 x2 y).1.length<=R.length:=by
  rw[Gw H];have c:(yl R h x1 x2 y).length<=R.length:=bA (fq _ _) H.few;cases more with
  |true=>exact c
  |false=>simp only[pq,jC,dO];omega
 refine⟨b,?_⟩;cases more<;>simp at a<;>omega
end
end
section
open Go.RowKit Go.Sort Go.Shelf Go.Lib Go.Maps
attribute [local irreducible] wpQuiet
def stk (a b:Nat):List (FT×Nat)->List Nat×Nat
 |[]=>([],0)
 |p::st=>((p.1.canon p.2 a b).1++(stk a b st).1,(p.1.canon p.2 a b).2+(stk a b st).2)
def r9:List (FT×Nat)->Nat
 |[]=>0
 |p::st=>p.1.size+r9 st
def Dc (st:List (FT×Nat)):List Nat:=(st.map fun p=>p.1.root p.2).reverse
theorem zR (p:FT×Nat) (a:List (FT×Nat)):Dc (p::a)=Dc a++[p.1.root p.2]:=by simp[Dc]
theorem ym (a:List (FT×Nat)):(Dc a).length=a.length:=by simp[Dc]
theorem L9:∀a:List (FT×Nat),a.length<=r9 a
 |[]=>aA _
 |p::a=>by
  have b:=L9 a;have c:=p.1.size_pos;simp only[r9,eH];omega
theorem FT.rF (a b:Nat):∀(t:FT) (s:Nat),(t.canon s a b).2<=t.size/\(t.canon s a b).1.length<=t.size:=by
 intro t
 induction t with
 |leaf x=>
  intro s;rw[FT.canon];split<;>simp[FT.size]
 |node l r c d=>
  intro s;have e:=c s;have f:=d (s+l.size);rw[FT.canon];split
  .simp[FT.size]
  .split
   .simp[FT.size]
   .show _+_+1<=_/\((_:List Nat)++_).length<=_;rw[bQ];simp only[FT.size];omega
def fT (i:Nat):Value:=.int .i64 (i:Nat)
def Sz (w:World) (n a b:Nat) (e:Ending) (w':World):Prop:=
 ∃v,e=.returned (.tuple #[v,ae (((dU 0 n).canon 0 a b).2:Nat),ae 0])/\w'.ownsRow w.heap.size 3 1 v ((dU 0 n).canon 0 a b).1.length (((dU 0 n).canon 0 a b).1.map fT)/\Below w.heap.size w w'
theorem SA {w:World} {g off:Nat} {N:List Nd} {i:Nat} {d:Nd} (h:bV pR 7 w (some (ag g off)) N) (hi:N[i]? =some d):
  g<w.heap.size/\w.cell? (ag g (off+i*7))=some (.int .u8 d.kind)/\w.cell? (ag g (off+i*7+1))=some (ae d.l)/\w.cell? (ag g (off+i*7+2))=some (ae d.r)/\w.cell? (ag g (off+i*7+3))=some (ae d.fr)/\w.cell? (ag g (off+i*7+4))=some (ae d.Lu)/\w.cell? (ag g (off+i*7+5))=some (ae 0)/\w.cell? (ag g (off+i*7+6))=some (ae d.item):=by
 have⟨a,hd⟩:=fI.1 hi;rcases h with h|⟨b,o,e,f,j⟩
 .subst h;simp at a
 .cases e;have c:=j i a;rw[hd]at c;exact⟨f,c 0 aa,c 1 aa,c 2 aa,c 3 aa,c 4 aa,c 5 aa,c 6 aa⟩
theorem yn (l:List Nat) (k:Nat):(l++[k]).map fT=l.map fT++[.int .i64 (k:Nat)]:=by simp[fT]
theorem Iz (base fb n a b:Nat) (b8:Value) (cm:n<=40000) (cf:a<b) (aP:b<=n) (w:World) (h:om w base fb n b8):
  aK 175 #[aj fb,ae a,ae b] w (Sz w n a b):=by
 have bs:fb<w.heap.size:=(bg.1 h.blk).1;have an:=h.blk;have aN:w.cell? (ag fb 5)=some (.bool true):=aI an;have aM:w.cell? (ag fb 4)=some (ae n):=aI an;have a2:=qZ fb w aN;have aV:=dB n;obtain⟨b7,nc,rfl,-,-,aZ⟩:=bV.aD jO ai h.row;have b0:∃g off,b7=some (ag g off):=by
  rcases aZ with h9|⟨g,off,e,_⟩
  .rw[h9]at aV;simp at aV;omega
  .exact⟨g,off,e⟩
 obtain⟨g,off,rfl⟩:=b0;have a1:=tT fb n _ ⟨_,_,rfl⟩ w an;have a3:=af (fun W (aP:Below w.heap.size w W)=>jV fb n aa aa W ((aP.cell (p:=(ag fb 5)) bs).trans aN) ((aP.cell (p:=(ag fb 4)) bs).trans aM));have bX:=bR 0 n aa;have hS:=fJ 0 n aa;have bB:=af (kH n aa);have bJ:=af aZ;have aF:Hid ((dU 0 n).root 0=2*n-2/\(dU 0 n).size=2*n-1):=⟨by unfold FT.root;omega,hS⟩;have aR:=FT.rF a b (dU 0 n) 0;rw[hS]at aR;have d1:decide ((a:Int)<0)=false:=ax;have d2:decide ((a:Int)>(b:Int))=false:=aH;have d3:decide ((b:Int)<(a:Int))=false:=aH;have d4:decide (b<a)=false:=aH;have d5:decide ((b:Int)>(n:Int))=false:=aH;have d6:decide ((n:Int)<(b:Int))=false:=aH;have d7:decide (n<b)=false:=aH;have d8:((a:Int)==(b:Int))=false:=aH;have d9:(a==b)=false:=aH;have d10:decide (a=b)=false:=aH;have ce:(bf n).length<=100000:=aa;have bF:=af aR;unfold Sz;generalize bo:(dU 0 n).canon 0 a b=C at*;have a4:=af bo;generalize bW:bf n=D at*;clear bW an h aZ bX hS aV bo aR;go_enter func175,ntmps175
 go_wp2_with fail
 with_reducible refine a2.mono ?_
 rintro e w' ⟨rfl,bm⟩;subst w';clear a2
 go_wp2_with fail
 with_reducible refine a1.mono ?_
 rintro e w1 ⟨rfl,am⟩;clear a1 d1 d2 d3 d4 d5 d6 d7 d8 d9 d10 aN aM
 go_wp2_with fail
 refine(a3.o w1 am).mono ?_;rintro e w2 ⟨rfl,bm⟩;subst bm;clear a3
 go_wp2_with fail
 have bw:=Cw w2 w.heap.size [.int .i64 ((2*n-2:Nat):Int)] 3 am.size (by unfold maxLen;simp);simp only[eH,fE,kD]at bw
 go_loopg [10,11,12] (2*n) (fun b6 bz b9 bA wr=>∃(c:List (FT×Nat)) (f:List Nat) (y:Nat),b9=.int .i64 y/\r9 c<=b6/\r9 c<=80000/\Below w.heap.size w wr/\Hid (∀p∈c,FT.At D p.1 p.2)/\Hid (C=(f++(stk a b c).1,y+(stk a b c).2))/\
  Hid (wr.ownsRow w.heap.size 3 1 bz f.length (f.map fT))/\Hid (wr.ownsRow w.heap.size 3 1 bA c.length ((Dc c).map fT))/\Hid (∀g,bz.ownBlock=some g->bA.ownBlock≠some g))
 case atStart=>
  refine⟨[(dU 0 n,0)],[],0,rfl,?_,?_,am.trans ((aJ _ w2).alloc am.size _),?_,?_,cZ _ _ _ _,?_,?_⟩
  .simp only[r9];have:=aF.o.2;omega
  .simp only[r9];have:=aF.o.2;omega
  .intro p hp;obtain rfl:=lS.1 hp;exact bB.o
  .show C=_;simp[stk,a4.o]
  .simp only[Dc,mG,qG,List.reverse_singleton,aF.o.1];exact bw
  .intro g h;cases h
 case round=>
  obtain⟨c,f,y,rfl,bu,ao,L,aw,X,G,P,a6⟩:=hrel;cases c with
  |nil=>
   have aO:=X.o;simp only[stk,je,df]at aO;have bE:=af aO;simp only[fE]at P;obtain⟨U,V,rfl⟩:=fK G.o;obtain⟨cr,cs,rfl⟩:=fK P.o;clear aO X a4;go_wp2;go_ret3;rw[bE.o];exact⟨_,rfl,G.o,L⟩
  |cons p c=>
   obtain⟨t,s⟩:=p;obtain⟨U,V,rfl⟩:=fK G.o;have al:FT.At D t s:=aw.o _ (.head _);obtain⟨M,bL,ba,bb,bc,bd,bM,bN⟩:=SA (bJ.o.below L) al.get;have cn:=al.lt;rw[FT.FV]at bc;rw[FT.wF]at bd;obtain⟨go,be,bT,ck,cl,bp,ch⟩:=aS P.o ax;subst bT;have S:=P.o;rw[zR,yn]at S;simp only[eH]at S bp;have bx:wr.cell? (ag go c.length)=some (ae (t.root s:Nat)):=by
    have h9:=S.cellAt c.length aa;rw[nV (by simp[ym])]at h9;simpa[ym]using h9
   have aY:=mK S (m:=c.length) aa;rw[ji,yH (by simp[ym]),jc (by simp[ym])]at aY;have R:C=(f++((t.canon s a b).1++(stk a b c).1),y+((t.canon s a b).2+(stk a b c).2)):=X.o;have ay:(t.hi<=a\/b<=t.lo)->Hid (C=(f++(stk a b c).1,(y+1)+(stk a b c).2)):=fun h=>by
    show C=_;rw[R,FT.iT h,gu,vW]
   have Z:¬(t.hi<=a\/b<=t.lo)->(a<=t.lo/\t.hi<=b)->Hid (C=((f++[t.root s])++(stk a b c).1,(y+1)+(stk a b c).2)):=fun h v=>by
    show C=_;rw[R,FT.tJ h v,dW,vW]
   have ad:¬(t.hi<=a\/b<=t.lo)->¬(a<=t.lo/\t.hi<=b)->∃l r,t=.node l r/\Hid (C=(f++(stk a b ((l,s)::(r,s+l.size)::c)).1,(y+1)+(stk a b ((l,s)::(r,s+l.size)::c)).2)):=fun h v=>by
    cases t with
    |leaf x=>exact absurd (by simp only[FT.lo,FT.hi]at h |-;omega) v
    |node l r=>
     refine⟨l,r,rfl,?_⟩;show C=_;rw[R,FT.nH h v];simp only[stk,dW];refine Prod.ext rfl ?_;simp only;omega
   have cd:y+1<=100000/\f.length+1<=100000:=by
    have z:=bF.o;have aL:=(FT.rF a b t s);rw[R]at z;have aM:0<(t.canon s a b).2:=by
     cases t with
     |leaf x=>rw[FT.canon];split<;>simp
     |node l r=>rw[FT.canon];split;simp;split<;>simp
    simp only[bQ]at z;omega
   have b3:c.length+2<=100000:=by
    have z:=L9 c;have v:t.size+r9 c<=80000:=ao;have aL:=t.size_pos;omega
   have Y:Hid (∀p∈c,FT.At D p.1 p.2):=fun p hp=>aw.o p (.tail _ hp);have E:=af al;have aE:=af aY;have ab:=af (show t.size+r9 c<=_ from bu);have co:0<t.size:=t.size_pos;obtain⟨m,aW⟩:∃m,m=c.length:=⟨_,rfl⟩;have ac:=af aW;simp only[eH];rw[<-aW]at bx bp b3 |-;have ci:decide ((0:Int)<((m+1:Nat):Int))=true:=ax;generalize bt:t.root s=k at*;have cb:=af bt;generalize b4:t.hi=j at*;generalize b5:t.lo=tl at*;generalize(t.top s).kind=av at*;generalize bq:(t.top s).l=ah at*;generalize br:(t.top s).r=ak at*;generalize(t.top s).item=au at*;have O:Hid ((t.top s).l=ah/\(t.top s).r=ak):=⟨bq,br⟩;clear bt b4 b5 bq br aW S aY R aw X P al bu;have aT:r9 c<=80000:=by have v:t.size+r9 c<=80000:=ao;omega
   have bG:Hid (t.size+r9 c<=80000):=ao;have a0:=L.size;have J:Hid (∀g,(Value.slice U f.length V).ownBlock=some g->g≠go):=fun g e d=>a6.o g e (by rw[d];rfl);have cg:f.length<=100000:=aa;clear ao a6;by_cases z:j<=a\/b<=tl
   .have I:=ay z;clear ay Z ad E O;have F:∀W,W=wr.alloc (.cells #[.int .u8 av,ae ah,ae ak,ae tl,ae j,ae 0,ae au] 163)->Below w.heap.size w W/\W.ownsRow w.heap.size 3 1 (.slice U f.length V) f.length (f.map fT)/\W.ownsRow w.heap.size 3 1 (aC go m be) c.length ((Dc c).map fT):=fun W e=>by
     subst e;exact⟨L.alloc a0 _,G.o.alloc _,by rw[ac.o];exact aE.o.alloc _⟩
    have a5:=af F;clear F;by_cases v:j<=a
    .have bh:decide ((j:Int)<=(a:Int))=true:=aH;have d:decide (j<=a)=true:=aH;clear z v;go_wp2
     go_roundg (r9 c)
     case measure=>have:=ab.o;omega
     case rel=>
      obtain⟨f1,f2,f3⟩:=a5.o _ rfl;exact⟨c,f,y+1,by go_num,aA _,aT,f1,Y,I,f2,f3,fun g e d=>J.o g e (by injection d with d;exact d.symm)⟩
    .have bh:decide ((j:Int)<=(a:Int))=false:=aH;have d:decide (j<=a)=false:=aH;have aG:decide ((b:Int)<=(tl:Int))=true:=aH;have bO:decide (b<=tl)=true:=aH;clear z v;go_wp2
     go_roundg (r9 c)
     case measure=>have:=ab.o;omega
     case rel=>
      obtain⟨f1,f2,f3⟩:=a5.o _ rfl;exact⟨c,f,y+1,by go_num,aA _,aT,f1,Y,I,f2,f3,fun g e d=>J.o g e (by injection d with d;exact d.symm)⟩
   .have bh:decide ((j:Int)<=(a:Int))=false:=aH;have d:decide (j<=a)=false:=aH;have aG:decide ((b:Int)<=(tl:Int))=false:=aH;have bO:decide (b<=tl)=false:=aH;clear ay;by_cases v:a<=tl/\j<=b
    .have I:=Z z v;have bi:decide ((a:Int)<=(tl:Int))=true:=aH;have bj:decide (a<=tl)=true:=aH;have bk:decide ((j:Int)<=(b:Int))=true:=aH;have bl:decide (j<=b)=true:=aH;clear Z ad E O z v;obtain⟨i,A⟩:∃i,i=wr.alloc (.cells #[.int .u8 av,ae ah,ae ak,ae tl,ae j,ae 0,ae au] 163):=⟨_,rfl⟩;have a7:Hid (i.ownsRow w.heap.size 3 1 (.slice U f.length V) f.length (f.map fT)):=by rw[A];exact G.o.alloc _
     have H:Below wr.heap.size wr i:=by rw[A];exact(aJ _ _).alloc (aA _) _
     have N:=af H;have b2:wr.heap.size<=i.heap.size:=H.size;clear H
     go_upto_region 19 with fail
     rw[<-A];clear A
     go_wp2_with (at_builtin;refine cB nX w.heap.size a7.o [.int .i64 k] rfl (by simp[Value.oneCell']) rfl _ _ rfl rfl _ rfl dE aa aa ?_;intro ca w3 aX M aQ)
     go_roundg (r9 c)
     case measure=>have:=ab.o;omega
     case rel=>
      have Q:Below w.heap.size w i:=L.trans (N.o.mono a0);have K:aB (fun q=>(Value.slice U f.length V).ownBlock=some q) wr w3:=((aB.refl _ wr).below N.o).grown M (fun q T=>.inl T);refine⟨c,f++[k],y+1,by go_num,aA _,aT,bH Q a7.o M Q.size (aA _),Y,I,?_,?_,?_⟩
      .show World.ownsRow _ _ _ _ _ _ _;rw[yn,bQ];exact aX
      .show World.ownsRow _ _ _ _ _ _ _;have h9:=aU aE.o K (fun B e d=>J.o B d (by injection e with e;exact e.symm));rw[ac.o];exact h9
      .intro B e d;have aG:go=B:=by injection d
       rcases gy aQ with h9|⟨q,h9,bn⟩
       .exact J.o B (h9▸e) aG.symm
       .rw[h9]at e;injection e with e;omega
    .obtain⟨l,r,bU,I⟩:=ad z v;subst bU;have bZ:=E.o.left.lt;have b1:=E.o.right.lt;have bP:ah=((l.root s:Nat):Int):=by rw[<-O.o.1];simp only[FT.top];unfold FT.root;have:=l.size_pos;omega
     have bS:ak=((r.root (s+l.size):Nat):Int):=by rw[<-O.o.2];simp only[FT.top];unfold FT.root;have:=r.size_pos;omega
     have bC:=af E.o.left;have bD:=af E.o.right;subst bP bS;have a9:Hid ((FT.node l r).size=l.size+r.size+1):=rfl;obtain⟨kl,ap⟩:∃kl,kl=l.root s:=⟨_,rfl⟩;obtain⟨kr,aq⟩:∃kr,kr=r.root (s+l.size):=⟨_,rfl⟩;rw[<-ap]at ba bZ;rw[<-aq]at bb b1;have cc:Hid (kl=l.root s/\kr=r.root (s+l.size)):=⟨ap,aq⟩;have bK:Hid ((Dc ((l,s)::(r,s+l.size)::c)).map fT=(Dc c).map fT++[.int .i64 (kr:Nat),.int .i64 (kl:Nat)]):=by
      show _=_;rw[zR,zR,yn,yn,ap,aq,dW];rfl
     clear ap aq Z ad O E z;obtain⟨i,A⟩:∃i,i=wr.alloc (.cells #[.int .u8 av,ae kl,ae kr,ae tl,ae j,ae 0,ae au] 163):=⟨_,rfl⟩;have H:Below wr.heap.size wr i:=by rw[A];exact(aJ _ _).alloc (aA _) _
     have ar:i.heap[wr.heap.size]? =some (.cells #[.int .u8 av,ae kl,ae kr,ae tl,ae j,ae 0,ae au] 163 (0,0)):=by rw[A];exact bY _ _
     have cp:i.cell? (ag wr.heap.size 1)=some (ae kl):=aI ar;have cq:i.cell? (ag wr.heap.size 2)=some (ae kr):=aI ar;have a8:Hid (i.ownsRow w.heap.size 3 1 (aC go m be) m ((Dc c).map fT)):=by
      show World.ownsRow _ _ _ _ _ _ _;rw[ac.o];exact az aE.o H
     have N:=af H;have b2:wr.heap.size<i.heap.size:=(bg.1 ar).1;have bv:bV (fun x:Int=>[ae x]) 1 (i.alloc (.cells #[ae kr,ae kl] 3)) (some (ag i.heap.size 0)) [(kr:Int),(kl:Int)]:=bV.lit (enc:=fun x:Int=>[ae x]) (sz:=1) (fun _=>rfl) i 3 [(kr:Int),(kl:Int)] _ rfl;have bI:=af bv;clear bv H ar;by_cases aL:a<=tl
     all_goals
      first
       |(have bi:decide ((a:Int)<=(tl:Int))=true:=by simp;omega)
       |(have bi:decide ((a:Int)<=(tl:Int))=false:=by simp;omega)
      first
       |(have bj:decide (a<=tl)=true:=by simp;omega)
       |(have bj:decide (a<=tl)=false:=by simp;omega)
      first
       |(have bk:decide ((j:Int)<=(b:Int))=false:=by simp;omega)
       |(have bk:True:=trivial)
      first
       |(have bl:decide (j<=b)=false:=by simp;omega)
       |(have bl:True:=trivial)
      clear v aL
      go_upto_region 16 with fail
      rw[<-A];clear A bL ba bb bc bd bM bN bx
      go_wp2_with (at_builtin;refine nY nX (enc:=fun x:Int=>[ae x]) (fun _=>rfl) (fun x u hu=>by simp at hu;subst hu;rfl) w.heap.size (a8.o.alloc _) bI.o rfl _ _ rfl rfl 2 rfl (by unfold maxLen;simp;omega) aH aH ?_;intro ca w3 aX M aQ)
      go_roundg (r9 ((l,s)::(r,s+l.size)::c))
      case measure=>have h9:=ab.o;have bn:=a9.o;simp only[r9];omega
      case rel=>
       have Q:Below w.heap.size w (i.alloc (.cells #[ae kr,ae kl] 3)):=(L.trans (N.o.mono a0)).alloc aa _;have K:aB (fun q=>q=go) wr w3:=(((aB.refl _ wr).below N.o).alloc _).grown M (fun q T=>.inl (by injection T with T;exact T.symm));refine⟨(l,s)::(r,s+l.size)::c,f,y+1,by go_num,aA _,?_,bH Q (a8.o.alloc _) M Q.size (aA _),?_,I,?_,?_,?_⟩
       .have h9:=bG.o;have bn:=a9.o;simp only[r9];omega
       .intro p hp;rcases gW.1 hp with rfl|hp
        .exact bC.o
        .rcases gW.1 hp with rfl|hp
         .exact bD.o
         .exact Y.o p hp
       .exact aU G.o K (fun B e d=>J.o B e d)
       .show World.ownsRow _ _ _ _ _ _ _;rw[bK.o,eH,eH,<-ac.o];exact aX
       .intro B e d;have cj:=(G.o.lt B e).2;rcases aQ with h9|h9
        .rw[h9]at d;exact J.o B e (by injection d with d;exact d.symm)
        .rw[h9]at d;injection d with d;simp at d;omega
end
section
open Go Go.RowKit
def Xf (YS:List Nat) (d:Nd):List Nat:=YS.filter fun i=>decide (d.fr<=(i:Int)/\(i:Int)<d.Lu)
def lk (N:List Nd) (YS:List Nat) (k:Nat):List Nat:=match N[k]? with|some d=>Xf YS d|none=>[]
section
variable {N:List Nd} {YS:List Nat} {yv:Nat->Int} {y1 y2:Int}
theorem SB (t:FT) (s:Nat):Xf YS (t.top s)=nl YS t:=by
 unfold Xf nl;refine l9 fun i _=>?_;rw[FT.FV,FT.wF,pF];omega
theorem De {t:FT} {s:Nat} (h:FT.At N t s):lk N YS (t.root s)=nl YS t:=by
 unfold lk;rw[h.get];exact SB t s
theorem KE (k:Nat):(lk N YS k).Sublist YS:=by
 unfold lk;split
 .exact Fu
 .exact List.nil_sublist _
theorem zS {a b:Nat} (i:Nat):∀(t:FT) (s:Nat),FT.At N t s->t.wf->(i∈(t.canon s a b).1.flatMap (fun k=>FW yv y1 y2 (lk N YS k))↔i∈nl YS t/\a<=i/\i<b/\y1<=yv i/\yv i<=y2):=by
 have j:∀t:FT,i∈nl YS t->t.lo<=i/\i<t.hi:=fun t hi=>by simpa using(bI.1 hi).2
 have one:∀(t:FT) (s:Nat),FT.At N t s->a<=t.lo->t.hi<=b->(i∈[t.root s].flatMap (fun k=>FW yv y1 y2 (lk N YS k))↔i∈nl YS t/\a<=i/\i<b/\y1<=yv i/\yv i<=y2):=fun t s h d e=>by
  rw[mE,List.flatMap_nil,je,De h];unfold FW;rw[bI,bO];constructor
  .rintro⟨c,f⟩;have:=j t c;exact⟨c,aa,aa,f⟩
  .rintro⟨c,_,_,f⟩;exact⟨c,f⟩
 intro t
 induction t with
 |leaf x=>
  intro s h g;by_cases h0:(FT.leaf x).hi<=a\/b<=(FT.leaf x).lo
  .rw[FT.iT h0];refine⟨fun h=>absurd h ax,fun⟨d,e,c,_⟩=>?_⟩;have:=j _ d;rcases h0 with h0|h0<;>omega
  .rw[FT.canon,aN h0];refine one _ s h ?_ ?_
   .simp only[FT.hi,FT.lo]at h0 |-;omega
   .simp only[FT.hi,FT.lo]at h0 |-;omega
 |node l r m n=>
  intro s h g;by_cases h0:(FT.node l r).hi<=a\/b<=(FT.node l r).lo
  .rw[FT.iT h0];refine⟨fun h=>absurd h ax,fun⟨d,e,c,_⟩=>?_⟩;have:=j _ d;rcases h0 with h0|h0<;>omega
  .by_cases d:a<=(FT.node l r).lo/\(FT.node l r).hi<=b
   .rw[FT.tJ h0 d];exact one _ s h d.1 d.2
   .rw[FT.nH h0 d];show i∈((_:List Nat)++_).flatMap _↔_;rw[gZ,bW,m s h.left g.1,n _ h.right g.2.1,uD YS l r g,pI YS l r g,bI,bI,bO,pE,gY];constructor
    .rintro(⟨⟨e,_⟩,c⟩|⟨⟨e,_⟩,c⟩)<;>exact⟨e,c⟩
    .rintro⟨e,c⟩;by_cases f:i<l.hi
     .exact .inl ⟨⟨e,f⟩,c⟩
     .exact .inr ⟨⟨e,f⟩,c⟩
theorem IA {a b:Nat} (j:YS.Nodup):∀(t:FT) (s:Nat),FT.At N t s->t.wf->((t.canon s a b).1.flatMap (fun k=>FW yv y1 y2 (lk N YS k))).Nodup:=by
 have one:∀(t:FT) (s:Nat),FT.At N t s->([t.root s].flatMap (fun k=>FW yv y1 y2 (lk N YS k))).Nodup:=fun t s h=>by
  rw[mE,List.flatMap_nil,je];exact mD _ (j.sublist (KE _))
 intro t
 induction t with
 |leaf x=>
  intro s h c;rw[FT.canon];split
  .simp
  .exact one _ s h
 |node l r m n=>
  intro s h c;rw[FT.canon];split
  .simp
  .split
   .exact one _ s h
   .show(((_:List Nat)++_).flatMap _).Nodup;rw[gZ];refine oG.2 ⟨m s h.left c.1,n _ h.right c.2.1,fun i hi k g e=>?_⟩;subst e;have d:=((zS i l s h.left c.1).1 hi).1;have f:=((zS i r _ h.right c.2.1).1 g).1;have o:l.lo<=i/\i<l.hi:=by simpa using(bI.1 d).2
    have p:r.lo<=i/\i<r.hi:=by simpa using(bI.1 f).2
    have:=c.2.2;omega
end
theorem FT.Qh {N:List Nd} {a b:Nat}:∀(t:FT) (s:Nat),FT.At N t s->∀k∈(t.canon s a b).1,k<N.length:=by
 intro t
 induction t with
 |leaf x=>
  intro s h k hk;rw[FT.canon]at hk;split at hk
  .cases hk
  .obtain rfl:=lS.1 hk;exact h.lt
 |node l r c d=>
  intro s h k hk;rw[FT.canon]at hk;split at hk
  .cases hk
  .split at hk
   .obtain rfl:=lS.1 hk;exact h.lt
   .rcases bW.1 hk with hk|hk
    .exact c s h.left k hk
    .exact d _ h.right k hk
end
end Go.Proofs.YtkjdbndekceffaaGreat
set_option autoImplicit false
namespace Go.Proofs.YtkjdbndekceffaaGreat
open Tryz
section
open Go
abbrev Qf:=Nat->Nat
def swp (f:Qf) (i j:Nat):Qf:=fun k=>if k=i then f j else if k=j then f i else f k
def par (j:Nat):Nat:=(j-1)/2
structure LO (lb:Nat->Nat->Bool):Prop where
 XT:∀a b,lb a b=true->lb b a=false
 tr:∀a b c,lb b a=false->lb c b=false->lb c a=false
def HO (lb:Nat->Nat->Bool) (f:Qf) (n:Nat):Prop:=∀j,0<j->j<n->lb (f j) (f (par j))=false
section
variable {lb:Nat->Nat->Bool} (O:LO lb)
include O
end
end
section
open Go Go.RowKit
def lowO (R:List Pt):Option Nat->Option Nat->Option Nat
 |none,b=>b
 |some i,none=>some i
 |some i,some k=>if D9 R k i then some k else some i
def l5 (R:List Pt) (S:Nat->Prop):Option Nat->Prop
 |none=>∀j,¬S j
 |some i=>S i/\∀j,S j->j=i\/AU R i j
section
variable {R:List Pt} {S T:Nat->Prop} {a b:Option Nat}
theorem SC (i:Nat):¬AU R i i:=xz _
theorem zT {i j k:Nat} (h:AU R i j) (a:AU R j k):AU R i k:=pM h a
theorem l5.uniq (c:l5 R S a) (d:l5 R S b):a=b:=by
 cases a with
 |none=>
  cases b with
  |none=>rfl
  |some k=>exact absurd d.1 (c k)
 |some i=>
  cases b with
  |none=>exact absurd c.1 (d i)
  |some k=>
   rcases c.2 k d.1 with h|h
   .rw[h]
   .rcases d.2 i c.1 with h2|h2
    .rw[h2]
    .exact absurd (zT h h2) (SC _)
theorem l5.congr (h:∀j,S j↔T j) (b:l5 R S a):l5 R T a:=by
 cases a with
 |none=>exact fun j c=>b j ((h j).2 c)
 |some i=>exact⟨(h i).1 b.1,fun j c=>b.2 j ((h j).2 c)⟩
theorem IB {n:Nat} (O:Ord (AU R) (D9 R) n) (hS:∀j,S j->j<n) (l:∀j,T j->j<n) (c:l5 R S a) (d:l5 R T b):l5 R (fun j=>S j\/T j) (lowO R a b):=by
 cases a with
 |none=>
  refine d.congr fun j=>⟨.inr,fun h=>h.resolve_left (c j)⟩
 |some i=>
  cases b with
  |none=>exact c.congr (T:=fun j=>S j\/T j) fun j=>⟨.inl,fun h=>h.resolve_right (d j)⟩
  |some k=>
   show l5 R _ (if D9 R k i then some k else some i);by_cases h:D9 R k i=true
   .rw[aO h];have g:=(O.dec k i).1 h;refine⟨.inr d.1,fun j hj=>?_⟩;rcases hj with hj|hj
    .rcases c.2 j hj with h9|h9
     .rw[h9];exact .inr g
     .exact .inr (zT g h9)
    .exact d.2 j hj
   .rw[aN h];have f:k=i\/AU R i k:=by
     by_cases e:k=i
     .exact .inl e
     .rcases O.uY k i (l k d.1) (hS i c.1) e with h9|h9
      .exact absurd ((O.dec k i).2 h9) h
      .exact .inr h9
    refine⟨.inl c.1,fun j hj=>?_⟩;rcases hj with hj|hj
    .exact c.2 j hj
    .rcases d.2 j hj with h9|h9
     .rw[h9];exact f
     .rcases f with h8|h8
      .rw[<-h8];exact .inr h9
      .exact .inr (zT h8 h9)
theorem IC {L:List Nat} (h:L.Pairwise (AU R)):l5 R (fun j=>j∈L) L.head?:=by
 cases L with
 |nil=>exact fun j a=>absurd a iO
 |cons i L=>
  refine⟨ny,fun j a=>?_⟩;rcases gW.1 a with h9|h9
  .exact .inl h9
  .exact .inr ((lQ.1 h).1 j h9)
end
def lK (N:List Nd) (YS:List Nat) (k:Nat):Option Nat:=(lk N YS k).head?
def UU (YS:List Nat) (a b:Nat):List Nat:=YS.filter fun i=>decide (a<=i/\i<b)
section
variable {R:List Pt} {gone:List Bool} {YS:List Nat} {N:List Nd}
theorem dm.XK (a:dm R gone YS) (k:Nat):(lk N YS k).Pairwise (AU R):=List.Pairwise.sublist (KE k) a.Vw
theorem uT (a:dm R gone YS) (k:Nat):l5 R (fun j=>j∈lk N YS k) (lK N YS k):=IC (a.XK k)
theorem EL (a:dm R gone YS) {k j:Nat} (h:j∈lk N YS k):j<R.length:=a.lt ((KE k).subset h)
theorem Df (a:dm R gone YS) {k i:Nat} (h:lK N YS k=some i):i<R.length:=by
 have:=uT (N:=N) a k;rw[h]at this;exact EL a this.1
theorem SE (YS:List Nat) {l r:FT} (a:(FT.node l r).wf):(nl YS l++nl YS r).Perm (nl YS (.node l r)):=by
 rw[uD YS l r a,pI YS l r a];exact List.filter_append_perm _ _
theorem IE (a:dm R gone YS) {l r:FT} {s:Nat} (b:FT.At N (.node l r) s) (d:(FT.node l r).wf):
  lK N YS ((FT.node l r).root s)=lowO R (lK N YS (l.root s)) (lK N YS (r.root (s+l.size))):=by
 have c:=IB (KD a.ids) (fun j h=>EL a h) (fun j h=>EL a h) (uT (N:=N) a (l.root s)) (uT (N:=N) a (r.root (s+l.size)));refine l5.uniq (uT a _) (c.congr fun j=>?_);rw[De b,De b.left,De b.right,<-(SE YS d).mem_iff,bW]
theorem Dg (e:dm R gone YS) {a s:Nat} (f:FT.At N (.leaf a) s):lK N YS s=if a∈YS then some a else none:=by
 have c:∀j,j∈lk N YS s↔j=a/\a∈YS:=fun j=>by
  have:lk N YS s=nl YS (.leaf a):=De f;rw[this];unfold nl;rw[bI,bO];simp only[FT.lo,FT.hi];constructor
  .rintro⟨d,g⟩;obtain rfl:j=a:=aa;exact⟨rfl,d⟩
  .rintro⟨rfl,h⟩;exact⟨h,aa⟩
 refine l5.uniq (uT e s) ?_;split
 .rename_i h;exact⟨(c a).2 ⟨rfl,h⟩,fun j b=>.inl ((c j).1 b).1⟩
 .rename_i h;exact fun j b=>h ((c j).1 b).2
theorem Ma (L:List Nat):FW (fun _=>0) 0 0 L=L:=by unfold FW;exact kV.2 fun i _=>ax
theorem KF {a b:Nat} (i:Nat) (t:FT) (s:Nat) (c:FT.At N t s) (d:t.wf):i∈(t.canon s a b).1.flatMap (lk N YS)↔i∈nl YS t/\a<=i/\i<b:=by
 have h:=zS (yv:=fun _=>0) (y1:=0) (y2:=0) (YS:=YS) (N:=N) (a:=a) (b:=b) i t s c d;simp only[Ma]at h;rw[h];simp
theorem ND (d:dm R gone YS) (c:0<R.length) (a b:Nat):(((dU 0 R.length).canon 0 a b).1.flatMap (lk (bf R.length) YS)).Perm (UU YS a b):=by
 have⟨w1,w2,w3⟩:=bR 0 R.length c;have f:=kH R.length c;have e:=IA (yv:=fun _=>0) (y1:=0) (y2:=0) (N:=bf R.length) (a:=a) (b:=b) d.nodup (dU 0 R.length) 0 f w1;simp only[Ma]at e;refine(xh e (d.nodup.sublist Fu)).2 fun i=>?_;rw[KF i _ 0 f w1,d.top c,bI,bO]
def uo (R:List Pt) (N:List Nd) (YS:List Nat) (ks:List Nat):Option Nat:=ks.foldl (fun o k=>lowO R o (lK N YS k)) none
theorem NF (a:List Nat) (k:Nat):uo R N YS (a++[k])=lowO R (uo R N YS a) (lK N YS k):=by unfold uo;rw[List.foldl_append];rfl
theorem IG (a:dm R gone YS) (b:List Nat):∀(o:Option Nat) (S:Nat->Prop),(∀j,S j->j<R.length)->l5 R S o->l5 R (fun j=>S j\/j∈b.flatMap (lk N YS)) (b.foldl (fun o k=>lowO R o (lK N YS k)) o):=by
 induction b with
 |nil=>intro o S hS h;exact h.congr fun j=>ax
 |cons k b ih=>
  intro o S hS h;have c:=IB (KD a.ids) hS (fun j h=>EL a h) h (uT (N:=N) a k);have d:=ih _ _ (fun j e=>e.elim (hS j) (EL a)) c;rw[BR];refine d.congr fun j=>?_;rw[mE,bW,or_assoc]
theorem Mc (c:dm R gone YS) (a b:Nat):(UU YS a b).Pairwise (AU R):=mD _ c.Vw
theorem KG (c:dm R gone YS) (d:0<R.length) (a b:Nat):uo R (bf R.length) YS ((dU 0 R.length).canon 0 a b).1=(UU YS a b).head?:=by
 have e:=IG (N:=bf R.length) c ((dU 0 R.length).canon 0 a b).1 none (fun _=>False) (fun _ h=>h.elim) (fun _ h=>h);refine l5.uniq (e.congr fun j=>?_) (IC (Mc c a b));rw[(ND c d a b).mem_iff];simp
end
def qh (x1 x2:Int) (p:Pt):Bool:=decide (x1<=p.1/\p.1<=x2)
def uU (l:List Pt) (x1 x2:Int):List Pt:=kI (l.filter (qh x1 x2))
theorem SF (l:List Pt) (x1 x2:Int):(uU l x1 x2).length<=l.length:=by
 unfold uU;rw[(jy _).length_eq];exact fq _ _
section
variable {R:List Pt} {gone:List Bool} {YS:List Nat} {l:List Pt}
theorem SG (b:dm R gone YS) (f:tY R YS l) (x1 x2:Int):(UU YS (jG R x1) (mH R x2)).map (cu R)=uU l x1 x2:=by
 have e:∀i,i∈YS->(jG R x1<=i/\i<mH R x2↔qh x1 x2 (cu R i)=true):=fun i hi=>by
  have d:=b.lt hi;have g:i<(cz R).length:=by unfold cz;simpa using d
  have h:(cz R)[i]=(cu R i).1:=by rw[dK d];simp[cz]
  have c:=tZ b.UC x1 g;have a:=uf b.UC x2 g;rw[h]at c a;unfold jG mH qh;rw[bO,c,a]
 have hu:(ids (l.filter (qh x1 x2))).Nodup:=f.jD.sublist (List.filter_sublist.map _);refine Gf hu (dF.2 (Mc b _ _)) fun p=>?_;rw[dD,bI,f.mem];constructor
 .rintro⟨i,hi,rfl⟩;unfold UU at hi;rw[bI,bO]at hi;exact⟨⟨i,hi.1,rfl⟩,(e i hi.1).1 hi.2⟩
 .rintro⟨⟨i,hi,rfl⟩,a⟩;refine⟨i,?_,rfl⟩;unfold UU;rw[bI,bO];exact⟨hi,(e i hi).2 a⟩
theorem Qi (l:List Pt) {x1 x2:Int} (h:x2<x1):uU l x1 x2=[]:=by
 unfold uU;rw[yL.2 (fun p _=>by unfold qh;simp only[bO];omega)];exact iC (jy []).length_eq
end
end
section
open Go.RowKit Go.Sort Go.Shelf Go.Lib Go.Maps
attribute [local irreducible] wpQuiet
attribute [local go_sem] Oper.dZ
def oW:Option Nat->Int
 |none=>-1
 |some i=>i
theorem Qj (i:Nat):oW (some i)=(i:Int):=rfl
theorem SH {o:Option Nat} {i:Nat}:oW o=(i:Int)↔o=some i:=by
 cases o with
 |none=>simp only[oW];constructor<;>intro h<;>first|omega|cases h
 |some j=>simp only[oW,jH];omega
def Jy (h:iV) (n:Nat):List Value:=(List.range n).map fun k=>.int .i64 (oW (h k))
theorem Md (h:iV) {n k:Nat} (a:k<n):(Jy h n)[k]? =some (.int .i64 (oW (h k))):=by simp[Jy,a]
theorem Me (h:iV) {n k:Nat} (c:k<n) (v:Option Nat):(Jy h n).set k (.int .i64 (oW v))=Jy (gU h k v) n:=by
 apply sO (by simp[Jy]);intro i a b;simp only[Jy,List.getElem_set,gq,yS];by_cases e:k=i
 .subst e;rw[aO rfl,gG]
 .rw[aN e,iL (jk e)]
theorem NG {h h':iV} {n:Nat} (e:∀k,k<n->h' k=h k):Jy h' n=Jy h n:=by
 unfold Jy;exact Bw fun k a=>by rw[e k (vV.1 a)]
theorem iB.sub {lt:Nat->Nat->Prop} {h:iV}:∀{t:FT} {s:Nat},iB lt h t s->∀p∈t.subs s,iB lt h p.1 p.2
 |.leaf a,s,b,p,hp=>by
  have:p=(.leaf a,s):=by simpa[FT.subs]using hp
  subst this;exact b
 |.node l r,s,b,p,hp=>by
  simp only[FT.subs,bW,lS]at hp;rcases hp with(hp|hp)|hp
  .exact iB.sub b.2.2.1 p hp
  .exact iB.sub b.2.2.2 p hp
  .subst hp;exact b
theorem mq.at_ {R:List Pt} {h:iV} (H:mq R h) {t:FT} {s:Nat} (c:FT.At (bf R.length) t s):iB (AU R) h t s/\t.wf/\t.hi<=R.length:=by
 have a:=lJ c;have⟨w1,w2,w3⟩:=bR 0 R.length a;have b:=FT.at_mem (gm a▸c);exact⟨(H.ok a).sub _ b,FT.q8 _ 0 w1 _ b,bA (FT.Be _ 0 w1 (t,s) b) aa⟩
theorem mq.pl {R:List Pt} {h:iV} (H:mq R h) {k i:Nat} (f:k<(bf R.length).length) (e:h k=some i):i<R.length:=by
 have⟨t,s,d,g⟩:=uM f;have⟨b,c,j⟩:=H.at_ d;rw[<-g]at e;have⟨L,a⟩:=qf e;have:=b.span c i (by rw[a];simp);omega
structure mQ where
 rv:Value
 xv:Value
 nv:Value
 hv:Value
 fv:Value
abbrev NH (rv xv:Value) (fb:Nat) (nv hv:Value) (n:Int):Obj:=.cells #[rv,xv,aj fb,nv,hv,ae n] 155 (0,0)
structure dz (w:World) (lo hi tb fb:Nat) (R:List Pt) (h:iV) (cnt:Int) (V:mQ):Prop where
 blk:w.heap[tb]? =some (NH V.rv V.xv fb V.nv V.hv cnt)
 fM:lo<=tb/\tb<hi/\lo<=fb/\fb<hi/\hi<=w.heap.size
 row:w.ownsRow lo 29 3 V.rv R.length (R.flatMap bX)
 xs:w.ownsRow lo 2 1 V.xv R.length ((cz R).map (Value.int .i64))
 iU:om w lo fb R.length V.fv
 jD:w.ownsRow lo 163 7 V.nv (bf R.length).length ((bf R.length).flatMap pR)
 oU:w.ownsRow lo 3 1 V.hv (bf R.length).length (Jy h (bf R.length).length)
 top:∀v,v=V.rv\/v=V.xv\/v=V.nv\/v=V.hv\/v=V.fv->∀g,v.ownBlock=some g->g<hi
section
variable {w w':World} {lo hi tb fb:Nat} {R:List Pt} {h:iV} {cnt:Int} {V:mQ}
theorem dz.kept {S:Nat->Prop} (H:dz w lo hi tb fb R h cnt V) (K:aB S w w') (hS:∀k,lo<=k->k<hi->¬S k):dz w' lo hi tb fb R h cnt V:=by
 have ht:=H.top;have a:∀{e:TypeId} {sz:Nat} {v:Value} {n:Nat} {xs:List Value},w.ownsRow lo e sz v n xs->(∀g,v.ownBlock=some g->g<hi)->w'.ownsRow lo e sz v n xs:=fun a b=>aU a K fun g e=>hS g (a.lt g e).1 (b g e);exact⟨bu K H.blk (hS tb H.fM.1 H.fM.2.1),⟨H.fM.1,H.fM.2.1,H.fM.2.2.1,H.fM.2.2.2.1,bA H.fM.2.2.2.2 K.size⟩,
  a H.row (ht _ ax),a H.xs (ht _ ax),
  ⟨bu K H.iU.blk (hS fb H.fM.2.2.1 H.fM.2.2.2.1),a H.iU.row (ht _ ax)⟩,a H.jD (ht _ ax),a H.oU (ht _ ax),H.top⟩
theorem dz.below {B:Nat} (H:dz w lo hi tb fb R h cnt V) (a:Below B w w') (e:hi<=B):dz w' lo hi tb fb R h cnt V:=
 H.kept (S:=fun k=>hi<=k) ⟨a.os,a.tape,a.output,a.size,fun k f g=>a.block k aa⟩ fun k b c d=>aa
theorem dz.GV (H:dz w lo hi tb fb R h cnt V):tb<w.heap.size:=cO H.fM.2.1 H.fM.2.2.2.2
theorem dz.nodes (H:dz w lo hi tb fb R h cnt V) (l:0<R.length):∃g off c,V.nv=.slice (some (ag g off)) (bf R.length).length c/\bV pR 7 w (some (ag g off)) (bf R.length):=by
 have m:=dB R.length;have⟨g,c,e,_⟩:=aS H.jD aa;obtain⟨a,i,b,-,-,d⟩:=bV.aD jO ai H.jD;rw[e]at b;injection b with f j k;rw[<-f]at d;exact⟨g,0,c,e,d⟩
theorem dz.holds (H:dz w lo hi tb fb R h cnt V) (r:0<R.length):∃g c,V.hv=aC g (bf R.length).length c/\lo<=g/\g<hi/\g≠tb/\g≠fb/\g<w.heap.size/\(∀k,k<(bf R.length).length->w.cell? (ag g k)=some (ae (oW (h k)))/\w.frozen? (ag g k)=false)/\
  (∀a,V.rv.ownBlock=some a->a≠g)/\(∀a,V.xv.ownBlock=some a->a≠g)/\(∀a,V.nv.ownBlock=some a->a≠g)/\∀a,V.fv.ownBlock=some a->a≠g:=by
 have x:=dB R.length;have⟨g,c,e,y,u,s,t⟩:=aS H.oU aa;have b:=H.oU;rw[e]at b;have p:(aC g (bf R.length).length c).ownBlock=some g:=rfl;have f:∀{j:TypeId} {sz n:Nat} {v:Value} {xs:List Value},w.ownsRow lo j sz v n xs->j≠3->∀a,v.ownBlock=some a->a≠g:=fun q o a d l=>bB q b o a d (l▸p);refine⟨g,c,e,(b.lt g rfl).1,H.top V.hv ax g (by rw[e];rfl),fun i=>bz b H.blk ai g rfl i.symm,fun i=>bz b H.iU.blk ai g rfl i.symm,(b.lt g rfl).2,fun k m=>⟨?_,b.frozenAt k⟩,f H.row ai,f H.xs ai,f H.jD ai,f H.iU.row ai⟩;have d:=b.cellAt k aa;rw[Md h m]at d;exact d
theorem dz.ou (H:dz w lo hi tb fb R h cnt V) {g n c:Nat} (i:V.hv=aC g n c) {k:Nat} (j:k<(bf R.length).length) (v:Option Nat):
  dz (w.setCell (ag g k) (.int .i64 (oW v))) lo hi tb fb R (gU h k v) cnt V:=by
 have K:aB (fun k=>k=g) w (w.setCell (ag g k) (.int .i64 (oW v))):=(aB.refl (fun k=>k=g) w).set (a:=(ag g k)) _ (.inl rfl);have e:=H.oU;rw[i]at e;have l:n=(bf R.length).length:=by
  rcases e.2 with⟨d,-⟩|⟨p,m,o,d,-⟩
  .cases d
  .injection d with _ d _
 subst l;have⟨cs,fr,b⟩:=rC e;have f:=(e.stored k (.int .i64 (oW v))).1;rw[Me h j v]at f;refine⟨Gm H.blk K b ai,aQ H.fM,fH H.row K b ai,fH H.xs K b ai,zK H.iU K b ai ai,fH H.jD K b ai,?_,H.top⟩;rw[i];exact f
theorem dz.CY (H:dz w lo hi tb fb R h cnt V) (m:Int):dz (w.setCell (ag tb 5) (.int .i64 m)) lo hi tb fb R h m V:=by
 have K:aB (fun k=>k=tb) w (w.setCell (ag tb 5) (.int .i64 m)):=(aB.refl (fun k=>k=tb) w).set (a:=(ag tb 5)) _ (.inl rfl);have b:=H.blk;exact⟨dC w tb 5 _ _ _ H.blk,aQ H.fM,fH H.row K b ai,fH H.xs K b ai,zK H.iU K b ai ai,fH H.jD K b ai,fH H.oU K b ai,H.top⟩
end
abbrev zU (fr ub:Nat) (y:Int) (F:Nat) (cb:Array Value) (c:Nat):Obj:=.cells #[ae fr,ae ub,ae y,.func (.func F) #[] cb,ae c] 250 (0,0)
structure Qk (F:Nat) (cb:Array Value) (more:Bool) (R:List Pt) (w0:World) (FL:List Nat) (S:World->List Nat->(Nat->Prop)->Prop):Prop where
 enters:∀args w,(callFunc F args).run prog w=.ok (.enter F args) w
 base:∀W acc D,S W acc D->Below w0.heap.size w0 W
 lt:∀W acc D,S W acc D->∀k,D k->w0.heap.size<=k/\k<W.heap.size
 jU:∀W W' acc D E,S W acc D->aB E W W'->(∀k,E k->w0.heap.size<=k/\¬D k)->S W' acc D
 told:∀W acc D i,S W acc D->i<R.length->acc++[i] <+: FL->
  aK F (#[jb (cu R i).1 (cu R i).2.1 (cu R i).2.2]++cb) W fun e w'=>e=.returned (.bool more)/\∃D',S w' (acc++[i]) D'/\(∀k,D' k->D k\/W.heap.size<=k)/\aB D W w'
def NI (S:World->List Nat->(Nat->Prop)->Prop) (W:World) (D:Nat->Prop) (ab fr ub:Nat) (y:Int) (F:Nat) (cb:Array Value) (c:Nat) (acc:List Nat) (r:List Nat×Nat×Bool) (e:Ending) (w':World):Prop:=
 e=.returned (.bool r.2.2)/\∃D',S w' (acc++r.1) D'/\(∀k,D' k->D k\/W.heap.size<=k)/\aB (fun k=>D k\/k=ab) W w'/\w'.heap[ab]? =some (zU fr ub y F cb (c+r.2.1))
theorem KH {P:Program} {ops:Array Oper} {o:Oper} {a:Act} {K:Act->World->Prop} {Q:Exit->Act->World->Prop} {E0:Prop} {f:FuncId} {w:World} {vals:Array Value} {R:Ending->World->Prop} (i:∀args w,(callFunc f args).run P w=.ok (.enter f args) w) (n:Region.wanted o (yielded ops a.tmps)=true) (g:Operand) (args:Array Operand) (p:Array TypeId) (l:o.op=.call {callee:=.value g,args:=args,argTypes:=p})
  (cb:Array Value) (j:a.eval g=.func (.func f) #[] cb) (c:vals=(args.toList.map a.eval).toArray++cb)
  (C:Calls P f vals w R) (h:∀e w',R e w'->∃v,e=.returned v/\K (a.put o.dst v) w'):
  if Region.wanted o (yielded ops a.tmps)=true then Oper.wp P o a w K Q else E0:=by
 rw[aO n];unfold Oper.wp;have b:args.map a.eval++cb=vals:=by rw[c,<-FI]
 have d:(execOp a.eval o).run P w=.ok (.enter f vals) w:=by
  simp[execOp,l,resolve,invoke,j,b,Deferred.ofValue,i]
 rw[d,Oper.upon_enter];refine C.mono fun e w' m=>?_;obtain⟨v,rfl,k⟩:=h e w' m;exact k
theorem Dh (F:Nat) (cb:Array Value) (more:Bool) (R:List Pt) (h:iV) (cnt:Int) (V:mQ) (lo hi tb fb b:Nat) (w0:World) (S:World->List Nat->(Nat->Prop)->Prop) (y:Int) (fr ub:Nat) (N:List Nat)
  (aq:Qk F cb more R w0 N S) (br:dz w0 lo hi tb fb R h cnt V) (dY:R.length<=20000) (dZ:w0.heap.size<=b)
  (t:FT) (s:Nat) (W:World) (f:List Nat) (D:Nat->Prop) (c:Nat) (bt:FT.At (bf R.length) t s) (aZ:t.wf) (c3:t.hi<=R.length) (cd:iB (AU R) h t s) (hS:S W f D) (b2:¬D b) (aV:W.heap[b]? =some (zU fr ub y F cb c)) (cY:c+t.size<=1000000)
  (b4:f++(downG more h (l7 R) y fr ub t s).1 <+: N)
  (c9:∀l r,t=.node l r->(∀W f D c,S W f D->¬D b->W.heap[b]? =some (zU fr ub y F cb c)->c+l.size<=1000000->f++(downG more h (l7 R) y fr ub l s).1 <+: N->
    aK 174 #[aj tb,ae (l.root s:Nat),aj b] W (NI S W D b fr ub y F cb c f (downG more h (l7 R) y fr ub l s)))/\
    ∀W f D c,S W f D->¬D b->W.heap[b]? =some (zU fr ub y F cb c)->c+r.size<=1000000->f++(downG more h (l7 R) y fr ub r (s+l.size)).1 <+: N->
    aK 174 #[aj tb,ae (r.root (s+l.size):Nat),aj b] W (NI S W D b fr ub y F cb c f (downG more h (l7 R) y fr ub r (s+l.size)))):
  aK 174 #[aj tb,ae (t.root s:Nat),aj b] W (NI S W D b fr ub y F cb c f (downG more h (l7 R) y fr ub t s)):=by
 have b1:0<R.length:=by have:=t.fF aZ;omega
 have ea:=t.size_pos;have d0:=aq.base W f D hS;have cR:=aq.lt W f D hS;have cm:=af cR;clear cR;have ep:b<W.heap.size:=(bg.1 aV).1;have dg:W.cell? (ag b 4)=some (ae c):=aI aV;have en:W.frozen? (ag b 4)=false:=aI aV;have eq:c+1<=1000000:=aa;obtain⟨w1,aT⟩:∃w1,w1=W.setCell (ag b 4) (.int .i64 ((c+1:Nat):Int)):=⟨_,rfl⟩;have bQ:aB (fun k=>k=b) W w1:=by rw[aT];exact(aB.refl (fun k=>k=b) W).set (a:=(ag b 4)) _ (.inl rfl)
 have ar:w1.heap[b]? =some (zU fr ub y F cb (c+1)):=by rw[aT];exact dC W b 4 _ _ _ aV
 have b7:S w1 f D:=aq.jU W w1 f D _ hS bQ (fun k Q=>by subst Q;exact⟨dZ,b2⟩);have cX:=aq.base w1 f D b7;have ao:=br.below cX br.fM.2.2.2.2;obtain⟨dV,off,cn,env,dm⟩:=ao.nodes b1;obtain⟨dU,ch,cG,-,-,-,-,er,cZ,-⟩:=ao.holds b1;obtain⟨dk,dl,cI,-,-,dn⟩:=bV.aD bq ai ao.row;have aU:=ao.blk;rw[env,cG,cI]at aU;have c2:=bt.get;have b8:=bt.lt;obtain⟨es,n0,bx,bz,a1,a2,cc,bA⟩:=nJ dm c2;rw[FT.FV]at a1;rw[FT.wF]at a2;have bm:=(cZ _ b8).1;have eb:tb<w1.heap.size:=ao.GV;have bT:w1.cell? (ag tb 0)=some (.slice dk R.length dl):=aI aU;have bU:w1.cell? (ag tb 3)=some (.slice (some (ag dV off)) (bf R.length).length cn):=aI aU;have bW:w1.cell? (ag tb 4)=some (aC dU (bf R.length).length ch):=aI aU;have dp:w1.cell? (ag b 0)=some (ae fr):=aI ar;have dq:w1.cell? (ag b 1)=some (ae ub):=aI ar;have dr:w1.cell? (ag b 2)=some (ae y):=aI ar;have ds:w1.cell? (ag b 3)=some (.func (.func F) #[] cb):=aI ar;have c4:=t.fF aZ;have dX:(bf R.length).length<=40000:=by rw[dB];omega
 have d8:=t.size_pos;obtain⟨m,bZ⟩:∃m,m=t.hi:=⟨_,rfl⟩;obtain⟨tl,b0⟩:∃tl,tl=t.lo:=⟨_,rfl⟩;rw[<-bZ]at a2 c3 c4;rw[<-b0]at a1 c4;obtain⟨K,u⟩:∃K,K=t.root s:=⟨_,rfl⟩;obtain⟨d,hd⟩:∃d,d=t.top s:=⟨_,rfl⟩;obtain⟨o,bv⟩:∃o,o=h (t.root s):=⟨_,rfl⟩;rw[<-hd]at n0 bx bz bA;rw[<-bv]at bm;rw[<-u]at n0 bx bz a1 a2 cc bA b8 bm;obtain⟨r,H⟩:∃r,r=downG more h (l7 R) y fr ub t s:=⟨_,rfl⟩;have aL:Hid (m=t.hi/\tl=t.lo/\K=t.root s/\d=t.top s/\o=h (t.root s)/\r=downG more h (l7 R) y fr ub t s):=⟨bZ,b0,u,hd,bv,H⟩;rw[<-H]at b4 |-;rw[<-u];have co:=af b4;have P:=af aq;have cx:=af b7;have eo:=af br;have cw:=af dn;have ct:=af c9;have dD:=af cd;have cp:=af bQ;have cg:=af ar;have dH:=af aZ;have dw:=af bt;have dx:=af cY;have bH:=af b2;have dd:w1.heap.size=W.heap.size:=by rw[aT];simp
 have cz:=af dd;obtain⟨M,b6⟩:∃M,M=(bf R.length).length:=⟨_,rfl⟩;obtain⟨a3,b9⟩:∃a3,a3=R.length:=⟨_,rfl⟩;rw[<-b6]at bU bW b8 dX;rw[<-b9]at bT dY c3 b1;have dA:Hid (M=(bf R.length).length/\a3=R.length):=⟨b6,b9⟩;have X:b<w1.heap.size:=aa;have da:∀i,o=some i->i<a3/\tl<=i/\i<m:=fun i cH=>by
  rw[bv]at cH;obtain⟨L,dQ⟩:=qf cH;have:=cd.span aZ i (by rw[dQ];simp);omega
 have cv:=af da;clear da bZ b0 u hd bv H b4 aq b7 br dn c9 cd bQ ar aZ bt cY b2 dd b6 b9 aU c2 env cG cI cZ dm hS d0 ao cX d8 ea aV;go_enter func174,ntmps174
 go_upto_region 2 with fail
 rw[show W.setCell (ag b 4) (.int .i64 ((c:Int)+1))=w1 by rw[aT];rfl];clear aT dg en;obtain⟨w2,bn⟩:∃w2,w2=(w1.alloc (.cells #[.int .u8 d.kind,ae d.l,ae d.r,ae tl,ae m,ae 0,ae d.item] 163)).drew:=⟨_,rfl⟩;have v:Below w1.heap.size w1 w2:=by rw[bn];exact((aJ _ _).alloc (aA _) _).drew
 have I:w2.heap[w1.heap.size]? =some (.cells #[.int .u8 d.kind,ae d.l,ae d.r,ae tl,ae m,ae 0,ae d.item] 163 (0,0)):=by rw[bn];exact bY w1 _
 have ci:=af v;have bj:=af I;have bL:Hid (S w2 f D):=P.o.jU w1 w2 f D (fun _=>False) cx.o ((aB.refl _ w1).below v) (fun k h=>h.elim);clear v I;have bo:=ah bU;have bp:=ah bW;have ec:=ah n0;have ed:=ah bx;have ee:=ah bz;have ef:=ah a1;have eg:=ah a2;have eh:=ah cc;have ei:=ah bA;have ej:=ah bm;refine au (fun W=>∃p:aR w1,W=p.W) [16] [(0,false),(1,false),(2,false),(3,true),(4,false),(5,false),(6,true),(7,false),(8,false),(9,false),(10,true),(11,false),(12,false),(13,true)] ⟨⟨_,(aJ _ _).drew⟩,rfl⟩ 3 ?_;refine ay 14 rfl fun K u=>?_;go_simp;refine u _ _ (fun _ _=>⟨⟨_,(aJ _ w1).alloc (aA _) _|>.drew⟩,rfl⟩) ?_;clear u K;refine ay 15 rfl fun K u=>?_;go_simp;refine u _ _ (fun _ _=>⟨⟨_,(aJ _ w1).alloc (aA _) _|>.drew⟩,rfl⟩) ?_;clear u K;refine aF [16] ?_;rw[<-bn];clear bo bp ec ed ee ef eg eh ei ej bn
 go_upto_region 3 with fail
 have v:=ci.o;have a0:w1.heap.size<w2.heap.size:=(bg.1 bj.o).1;have I:=bj.o;have bk:=(v.cell (p:=(ag tb 0)) eb).trans bT;have t0:=(v.cell (p:=(ag b 0)) X).trans dp;have t1:=(v.cell (p:=(ag b 1)) X).trans dq;have t2:=(v.cell (p:=(ag b 2)) X).trans dr;have t3:=(v.cell (p:=(ag b 3)) X).trans ds;have C:w2.cell? (ag w1.heap.size 0)=some (.int .u8 d.kind):=aI I;have x1:w2.cell? (ag w1.heap.size 1)=some (ae d.l):=aI I;have x2:w2.cell? (ag w1.heap.size 2)=some (ae d.r):=aI I;have eE:w2.cell? (ag w1.heap.size 3)=some (ae tl):=aI I;have eF:w2.cell? (ag w1.heap.size 4)=some (ae m):=aI I;have bE:Hid (w2.heap[b]? =some (zU fr ub y F cb (c+1))):=(v.block b X).trans cg.o;have bJ:Hid (aB (fun k=>D k\/k=b) W w2):=(cp.o.mono fun k h=>.inr h).below v;have aS:Hid (bV bX 3 w2 dk R):=cw.o.below v;have bD:Hid (∀(a4:World) (n:Nat),Below w2.heap.size w2 a4->r=([],1,true)->NI S W D b fr ub y F cb c f r (.returned (.bool true)) a4):=fun a4 n G e=>by
  rw[e];show NI S W D b fr ub y F cb c f ([],1,true) _ _;refine⟨rfl,D,?_,fun k h=>.inl h,bJ.o.below G,(G.block b (wo X a0)).trans bE.o⟩;show S a4 (f++[]) D;rw[je];exact P.o.jU w2 a4 f D (fun _=>False) bL.o ((aB.refl _ w2).below G) (fun k h=>h.elim)
 clear v I bT bU bW dp dq dr ds n0 bx bz a1 a2 cc bA bm;cases o with
 |none=>
  have H:r=([],1,true):=by
   obtain⟨-,-,-,-,w,x⟩:=aL.o;rw[x];exact nQ w.symm
  have aG:Hid (∀n,NI S W D b fr ub y F cb c f r (.returned (.bool true)) (w2.drewN n)):=fun n=>bD.o _ n (Below.aX _ _) H;clear H;simp only[oW]
  go_quiet (fail)
  go_wp2;go_ret;exact aG.o _
 |some i=>
  obtain⟨d5,et,eu⟩:=cv.o i rfl;have aW:i<R.length:=by rw[<-dA.o.2];exact d5
  obtain⟨bB,bC,dR,ev,bw⟩:=aS.o.get aa;have ab:=bw i aW 0 aa;have ac:=bw i aW 1 aa;have ad:=bw i aW 2 aa;simp only[bX,eG,eQ,df]at ab ac ad;rw[<-dK aW]at ab ac ad;subst dR;have de:l7 R i=(cu R i).2.1:=rfl;have cB:Hid (∀W f D,S W f D->f++[i] <+: N->aK F (#[jb (cu R i).1 (cu R i).2.1 (cu R i).2.2]++cb) W fun e w'=>e=.returned (.bool more)/\∃cf,S w' (f++[i]) cf/\(∀k,cf k->D k\/W.heap.size<=k)/\aB D W w'):=fun W f D J cK=>P.o.told W f D i J aW cK;have bP:=af de;clear bw de;generalize cu R i=p at*;obtain⟨dj,A,dh⟩:=p;simp only at ab ac ad;simp only[Qj];have dN:((i:Int)==-1)=false:=by first|(simp;done)|(simp;omega)
  have dO:decide ((i:Int)=-1)=false:=by first|(simp;done)|(simp;omega)
  by_cases hp:y<A\/m<=fr\/ub<=tl
  .have H:r=([],1,true):=by
    obtain⟨aw,az,-,-,w,x⟩:=aL.o;rw[x];refine mZ w.symm ?_;have:=bP.o;simp only at this;rw[this,<-aw,<-az];exact hp
   have aG:Hid (∀n,NI S W D b fr ub y F cb c f r (.returned (.bool true)) (w2.drewN n)):=fun n=>bD.o _ n (Below.aX _ _) H;clear H;by_cases J:y<A
   .have d1:decide (A>y)=true:=aH;have d2:decide (y<A)=true:=aH;clear hp
    go_quiet (fail)
    go_wp2;go_ret;exact aG.o _
   .have d1:decide (A>y)=false:=aH;have d2:decide (y<A)=false:=aH;by_cases cK:m<=fr
    .have f1:decide ((m:Int)<=(fr:Int))=true:=aH;have f2:decide (m<=fr)=true:=aH;clear hp
     go_quiet (fail)
     go_wp2;go_ret;exact aG.o _
    .have f1:decide ((m:Int)<=(fr:Int))=false:=aH;have f2:decide (m<=fr)=false:=aH;have f3:decide ((tl:Int)>=(ub:Int))=true:=aH;have f4:decide ((ub:Int)<=(tl:Int))=true:=aH;have f5:decide (ub<=tl)=true:=aH;clear hp
     go_quiet (fail)
     go_wp2;go_ret;exact aG.o _
  .have d1:decide (A>y)=false:=aH;have d2:decide (y<A)=false:=aH;have f1:decide ((m:Int)<=(fr:Int))=false:=aH;have f2:decide (m<=fr)=false:=aH;have f3:decide ((tl:Int)>=(ub:Int))=false:=aH;have f4:decide ((ub:Int)<=(tl:Int))=false:=aH;have f5:decide (ub<=tl)=false:=aH;have bK:=af hp;clear hp bD
   go_quiet (fail)
   obtain⟨w3,q⟩:∃w3,w3=w2.drewN nq:=⟨_,rfl⟩;have a6:Hid (Below w2.heap.size w2 w3):=by rw[q];exact Below.aX _ _
   have bk:w3.cell? (ag tb 0)=some (.slice (some (ag bB bC)) a3 dl):=by rw[q];exact bk
   have t0:w3.cell? (ag b 0)=some (ae fr):=by rw[q];exact t0
   have t1:w3.cell? (ag b 1)=some (ae ub):=by rw[q];exact t1
   have t3:w3.cell? (ag b 3)=some (.func (.func F) #[] cb):=by rw[q];exact t3
   have C:w3.cell? (ag w1.heap.size 0)=some (.int .u8 d.kind):=by rw[q];exact C
   have x1:w3.cell? (ag w1.heap.size 1)=some (ae d.l):=by rw[q];exact x1
   have x2:w3.cell? (ag w1.heap.size 2)=some (ae d.r):=by rw[q];exact x2
   have ab:w3.cell? (ag bB (bC+i*3))=some (ae dj):=by rw[q];exact ab
   have ac:w3.cell? (ag bB (bC+i*3+1))=some (ae A):=by rw[q];exact ac
   have ad:w3.cell? (ag bB (bC+i*3+2))=some (ak dh):=by rw[q];exact ad
   have bM:Hid (S w3 f D):=P.o.jU w2 w3 f D (fun _=>False) bL.o ((aB.refl _ w2).below a6.o) (fun k h=>h.elim);have a9:Hid (aB (fun k=>D k\/k=b) W w3):=bJ.o.below a6.o;have bF:Hid (w3.heap[b]? =some (zU fr ub y F cb (c+1))):=(a6.o.block b (wo X a0)).trans bE.o;have Y:w1.heap.size<w3.heap.size:=by rw[q];exact a0
   go_upto_region 5 with fail
   rw[<-q];clear q;obtain⟨T,cF⟩:∃T:List Nat,T=(if fr<=i/\i<ub then[i]else[]):=⟨_,rfl⟩;have aM:=af cF;clear cF;obtain⟨g,ca⟩:∃g,g=w1.heap.size:=⟨_,rfl⟩;have bb:=af ca;rw[<-ca]at C x1 x2 Y a0 bj |-;clear ca
   go_cut [93]from 65 (fun el al=>∃(bl:Bool) (E:Nat->Prop),el=.bool bl/\Hid (bl=(decide (fr<=i/\i<ub)&&!more))/\Hid (S al (f++T) E)/\Hid (∀k,E k->D k\/W.heap.size<=k)/\Hid (aB (fun k=>D k\/k=b) W al)/\Hid (al.heap[b]? =some (zU fr ub y F cb (c+1)))/\Hid (¬E b)/\
    al.cell? (ag g 0)=some (.int .u8 d.kind)/\al.cell? (ag g 1)=some (ae d.l)/\al.cell? (ag g 2)=some (ae d.r)/\Hid (¬E g/\g<al.heap.size))
   case first=>
    by_cases av:fr<=i/\i<ub
    .have g1:decide ((i:Int)>=(fr:Int))=true:=aH;have cJ:decide ((fr:Int)<=(i:Int))=true:=aH;have bo:decide (fr<=i)=true:=aH;have bp:decide ((i:Int)<(ub:Int))=true:=aH;have dT:decide (i<ub)=true:=aH;have ey:=ah bk;have ez:=ah t0;have eA:=ah t1;have eB:=ah t3;have dg:=ah ab;have eC:=ah ac;have eD:=ah ad;refine au (fun W=>∃p:aR w3,W=p.W) [26,27,28] [(0,false),(1,false),(2,false),(3,false),(4,true),(5,false),(6,false),(7,false),(8,false),(9,false),(10,false),(11,true),(12,false),(13,false),(14,false),(15,false),(16,false),(17,false),(18,true),(19,false),(20,false),(21,false),(22,true),(23,false),(24,false),(25,true)] ⟨⟨_,(aJ _ _).drew⟩,rfl⟩ 3 ?_;refine ay 26 rfl fun K u=>?_;have cA:S w3.drew f D:=P.o.jU w3 w3.drew f D (fun _=>False) bM.o (aB.refl _ w3).drew (fun k h=>h.elim);have cs:f++[i] <+: N:=by
      obtain⟨aw,az,-,-,w,x⟩:=aL.o;have J:=Qd (more:=more) (yv:=l7 R) (y:=y) (fr:=fr) (ub:=ub) w.symm (by rw[bP.o,<-aw,<-az];exact bK.o) av;rw[<-x]at J;exact((List.prefix_append_right_inj f).2 J).trans co.o
     refine KH P.o.enters (by first|rfl|(go_simp;done)) (.tmp 83) _ _ rfl cb rfl (vals:=#[jb dj A dh]++cb) rfl (cB.o w3.drew f D cA cs) ?_;rintro e w4 ⟨rfl,aE,cU,bs,cS⟩;refine⟨_,rfl,u _ _ (fun _ h=>absurd ax h) ?_⟩;clear u K;refine aF [27,28] ?_;have cQ:¬D b:=bH.o;have ap:¬D g:=fun j=>by have:=cm.o g j;have:=cz.o;have:=bb.o;omega
     have ew:b<w3.heap.size:=wo (by have:=bb.o;omega) Y;have U:aB D w3 w4:=(aB.refl D w3).drew.trans cS;have em:=((di U Y ap).1 0).trans C;have y1:=((di U Y ap).1 1).trans x1;have y2:=((di U Y ap).1 2).trans x2;have ex:=U.size;have bd:Hid (S w4 (f++T) aE):=by rw[aM.o,aO av];exact cU
     have dF:Hid (∀k,aE k->D k\/W.heap.size<=k):=fun k j=>(bs k j).imp id fun h8=>by
      have cL:w3.heap.size<=k:=h8;have:=a9.o.size;omega
     have be:Hid (aB (fun k=>D k\/k=b) W w4):=a9.o.trans (U.mono fun k h=>.inl h);have bh:Hid (w4.heap[b]? =some (zU fr ub y F cb (c+1))):=bu U bF.o cQ;have aP:Hid (¬aE b/\¬aE g/\g<w4.heap.size):=⟨fun j=>by
      rcases bs b j with h8|h8
      .exact cQ h8
      .have cL:w3.heap.size<=b:=h8;omega,fun j=>by
      rcases bs g j with h8|h8
      .exact ap h8
      .have cL:w3.heap.size<=g:=h8;omega,aa⟩
     have bi:Hid ((!more)=(decide (fr<=i/\i<ub)&&!more)):=by show _=_;simp[av]
     clear cS cU bs U cA cs;go_wp2;go_meet;exact⟨_,aE,rfl,bi,bd,dF,be,bh,aP.o.1,em,y1,y2,aP.o.2⟩
    .have dS:(decide ((i:Int)>=(fr:Int))=true/\decide ((i:Int)<(ub:Int))=false)\/decide ((i:Int)>=(fr:Int))=false:=aH;have ap:¬D g:=fun j=>by have:=cm.o g j;have:=cz.o;have:=bb.o;omega
     have bd:Hid (∀n,S (w3.drewN n) (f++T) D):=fun n=>by
      rw[aM.o,aN av,je];exact P.o.jU w3 _ f D (fun _=>False) bM.o ((aB.refl _ w3).below (Below.aX _ _)) (fun k h=>h.elim)
     have be:Hid (∀n,aB (fun k=>D k\/k=b) W (w3.drewN n)):=fun n=>a9.o.below (Below.aX _ _);have bh:Hid (∀n,(w3.drewN n).heap[b]? =some (zU fr ub y F cb (c+1))):=fun n=>bF.o;have aP:Hid (¬D g/\g<w3.heap.size):=⟨ap,Y⟩;have bi:Hid (false=(decide (fr<=i/\i<ub)&&!more)):=by show _=_;simp[av]
     have am:Hid (∀n o,(w3.drewN n).cell? (ag g o)=w3.cell? (ag g o)):=fun n o=>rfl;clear av;rcases dS with⟨g1,cJ⟩|g1
     .have bo:decide ((fr:Int)<=(i:Int))=true:=aQ g1;have bp:decide (fr<=i)=true:=aQ g1;have dT:decide (i<ub)=false:=aQ cJ
      go_quiet (fail)
      go_wp2;go_meet;exact⟨_,D,rfl,bi,bd.o _,fun k h=>.inl h,be.o _,bh.o _,bH.o,(am.o _ _).trans C,(am.o _ _).trans x1,(am.o _ _).trans x2,aP.o⟩
     .have bo:decide ((fr:Int)<=(i:Int))=false:=aQ g1;have bp:decide (fr<=i)=false:=aQ g1
      go_quiet (fail)
      go_wp2;go_meet;exact⟨_,D,rfl,bi,bd.o _,fun k h=>.inl h,be.o _,bh.o _,bH.o,(am.o _ _).trans C,(am.o _ _).trans x1,(am.o _ _).trans x2,aP.o⟩
   case rest=>
    obtain⟨bl,E,rfl,ck,bN,a8,ba,a7,cr,C,x1,x2,cq⟩:=hcut;have c6:=bK.o;obtain⟨aw,az,ek,Z,w,x⟩:=aL.o;have c8:¬(y<l7 R i\/t.hi<=fr\/ub<=t.lo):=by rw[bP.o,<-aw,<-az];exact c6
    have bc:=af c8;have d7:=cq.o.2;have d6:g≠b:=by have:=bb.o;omega
    clear c6 aw az ek c8 bK a9 bF bM a6 ci bj bL aS bJ bE cB cg cp cx cw dN dO d1 d2 f1 f2 f3 f4 f5 bk t0 t1 t3 ab ac ad Y a0;cases bl with
    |true=>
     have G:=ck.o;simp only[Bool.true_eq,nA,bO,pE]at G;have z:r=([i],1,false):=by rw[x,G.2];exact C8 w.symm bc.o G.1
     have O:Hid (NI S W D b fr ub y F cb c f r (.returned (.bool false)) wc):=by
      rw[z];have J:=bN.o;rw[aM.o,aO G.1]at J;exact⟨rfl,E,J,a8.o,ba.o,a7.o⟩
     clear z G Z w x;go_wp2;go_ret;exact O.o
    |false=>
     have cl:=af ck.o.symm;cases t with
     |leaf a=>
      have Q:d.kind=1:=by rw[Z];rfl
      have z:r=(T,1,true):=by
       have dP:h s=some i:=w.symm;rw[x,wP dP bc.o,cl.o,aM.o];rfl
      have O:Hid (NI S W D b fr ub y F cb c f r (.returned (.bool true)) wc):=by
       rw[z];exact⟨rfl,E,bN.o,a8.o,ba.o,a7.o⟩
      rw[Q]at C;clear z Q Z w x x1 x2;go_wp2;go_ret;exact O.o
     |node l B=>
      have Q:d.kind=2:=by rw[Z];rfl
      have c0:d.l=((l.root s:Nat):Int):=by rw[Z];show((s+l.size:Nat):Int)-1=_;unfold FT.root;have:=l.size_pos;omega
      have c1:d.r=((B.root (s+l.size):Nat):Int):=by rw[Z];show((s+l.size+B.size:Nat):Int)-1=_;unfold FT.root;have:=B.size_pos;omega
      have z:=C9 (more:=more) (yv:=l7 R) (y:=y) (fr:=fr) (ub:=ub) w.symm bc.o cl.o;rw[<-x,<-aM.o]at z;have db:=rD (h:=h) (yv:=l7 R) (y:=y) (fr:=fr) (ub:=ub) more l s;have dc:=rD (h:=h) (yv:=l7 R) (y:=y) (fr:=fr) (ub:=ub) more B (s+l.size);have d4:=dx.o;have d9:(FT.node l B).size=l.size+B.size+1:=rfl;obtain⟨bR,bS⟩:=ct.o l B rfl;rw[Q]at C;rw[c0]at x1;rw[c1]at x2;have aY:=co.o;rw[z]at aY;generalize downG more h (l7 R) y fr ub l s=dL at*;generalize downG more h (l7 R) y fr ub B (s+l.size)=dM at*;obtain⟨cC,an,cD⟩:=dL;obtain⟨dI,cE,dJ⟩:=dM;simp only at z db dc aY bR bS;have c7:(f++T)++cC <+: N:=by
       refine List.IsPrefix.trans ?_ aY;exact⟨if cD then dI else[],by simp only[dW]⟩
      have dt:=af (bR wc (f++T) E (c+1) bN.o cr.o a7.o aa c7);have dG:=af bS;have aS:=af z;have dE:=af aY;have d3:c+1+l.size<=1000000/\c+1+an+B.size<=1000000:=aa;clear bR bS z aY c7 Q c0 c1 Z w x db dc d4 d9 ct aL dD dH dw bc cv;generalize l.root s=kl at*;generalize B.root (s+l.size)=kr at*
      go_wp2_with fail
      refine dt.o.mono ?_;rintro e ce ⟨rfl,a5,cV,b3,b5,cM⟩;have cO:¬a5 b:=fun j=>by
       rcases b3 b j with h8|h8
       .exact cr.o h8
       .have:=(bg.1 a7.o).1;omega
      have c5:¬(E g\/g=b):=fun j=>j.elim cq.o.1 d6;have x2:=((di b5 d7 c5).1 2).trans x2;have cy:=af cV;have bG:Hid (∀k,a5 k->D k\/W.heap.size<=k):=fun k j=>by
       rcases b3 k j with h8|h8
       .exact a8.o k h8
       .have:=ba.o.size;exact .inr aa
      have bI:Hid (aB (fun k=>D k\/k=b) W ce):=((ba.o.mono (S':=fun k=>(D k\/k=b)\/W.heap.size<=k) (fun k h=>.inl h)).trans (b5.mono fun k j=>by
       rcases j with h8|h8
       .exact(a8.o k h8).imp .inl id
       .exact .inl (.inr h8))).strip
      have cj:=af cM;have dy:=af cO;clear cV b3 b5 cM cO c5 C x1;cases cD with
      |false=>
       have O:Hid (NI S W D b fr ub y F cb c f r (.returned (.bool false)) ce):=by
        rw[aS.o];simp only[pq,jC,je,Bool.false_and,df];refine⟨rfl,a5,?_,bG.o,bI.o,?_⟩
        .have:=cy.o;rwa [dW]at this
        .have:=cj.o;rw[show c+(1+an)=c+1+an by omega];exact this
       go_wp2;go_ret;exact O.o
      |true=>
       have du:=af (dG.o ce (f++T++cC) a5 (c+1+an) cy.o dy.o cj.o d3.2 (by
        have:=dE.o;simp only[gJ]at this;simpa only[dW]using this))
       go_wp2_with fail
       refine du.o.mono ?_;rintro e w6 ⟨rfl,dv,cW,cP,cT,cN⟩;have O:Hid (NI S W D b fr ub y F cb c f r (.returned (.bool dJ)) w6):=by
        rw[aS.o];simp only[gJ,Bool.true_and];refine⟨rfl,dv,?_,fun k j=>?_,?_,?_⟩
        .simpa only[dW]using cW
        .rcases cP k j with h8|h8
         .exact bG.o k h8
         .have:=bI.o.size;exact .inr aa
        .exact((bI.o.mono (S':=fun k=>(D k\/k=b)\/W.heap.size<=k) (fun k h=>.inl h)).trans (cT.mono fun k j=>by
          rcases j with h8|h8
          .exact(bG.o k h8).imp .inl id
          .exact .inl (.inr h8))).strip
        .rw[show c+(1+an+cE)=c+1+an+cE by omega];exact cN
       clear cW cP cT cN;go_wp2;go_ret;exact O.o
theorem NJ (F:Nat) (cb:Array Value) (more:Bool) (R:List Pt) (h:iV) (cnt:Int) (V:mQ) (lo hi tb fb d:Nat) (w0:World) (S:World->List Nat->(Nat->Prop)->Prop) (y:Int) (fr ub:Nat) (n:List Nat)
  (u:Qk F cb more R w0 n S) (p:dz w0 lo hi tb fb R h cnt V) (q:R.length<=20000) (v:w0.heap.size<=d):
  ∀(t:FT) (s:Nat) (W:World) (b:List Nat) (D:Nat->Prop) (c:Nat),FT.At (bf R.length) t s->t.wf->t.hi<=R.length->iB (AU R) h t s->S W b D->¬D d->W.heap[d]? =some (zU fr ub y F cb c)->c+t.size<=1000000->
  b++(downG more h (l7 R) y fr ub t s).1 <+: n->
  aK 174 #[aj tb,ae (t.root s:Nat),aj d] W (NI S W D d fr ub y F cb c b (downG more h (l7 R) y fr ub t s)):=by
 intro t
 induction t with
 |leaf a=>exact fun s W b D c k j o m hS f g i hF=>Dh F cb more R h cnt V lo hi tb fb d w0 S y fr ub n u p q v _ s W b D c k j o m hS f g i hF (fun l r e=>by cases e)
 |node l r w x=>
  intro s W b D c k j o m hS f g i hF;refine Dh F cb more R h cnt V lo hi tb fb d w0 S y fr ub n u p q v _ s W b D c k j o m hS f g i hF fun l' C e=>?_;cases e;have z:=FT.fF r j.2.1;have A:=j.2.2;have B:(FT.node l r).hi=r.hi:=rfl;exact⟨fun W b D c hS f g i hF=>w s W b D c k.left j.1 aa m.2.2.1 hS f g i hF,fun W b D c hS f g i hF=>x _ W b D c k.right j.2.1 aa m.2.2.2 hS f g i hF⟩
def AnyS (ob:Nat) (w0:World) (W:World) (acc:List Nat) (D:Nat->Prop):Prop:=
 Below w0.heap.size w0 W/\W.heap[ob]? =some (.cells #[.bool (decide (0<acc.length))] 4 (0,0))/\D=fun k=>k=ob
def UW (ob:Nat) (R:List Pt) (w0:World) (W:World) (acc:List Nat) (D:Nat->Prop):Prop:=
 Below w0.heap.size w0 W/\∃v,W.heap[ob]? =some (.cells #[v] 35 (0,0))/\W.ownsRow w0.heap.size 27 1 v acc.length ((acc.map (ku R)).map (Value.int .u32))/\D=fun k=>k=ob\/v.ownBlock=some k
theorem Ql:eU 154:=bP func154 aL rfl
theorem KI:eU 109:=bP func109 aL rfl
theorem Qm (R:List Pt) (ob:Nat) (w0:World) (n:List Nat) (t:w0.heap.size<=ob):
  Qk 154 #[aj ob] false R w0 n (AnyS ob w0) where
 enters:=Ql
 base:=fun W c D h=>h.1
 lt:=fun W c D h k f=>by
  obtain⟨d,b,rfl⟩:=h;have:=(bg.1 b).1;subst f;exact⟨t,this⟩
 jU:=fun W W' c D z h m l=>by
  obtain⟨d,b,rfl⟩:=h;exact⟨d.trans (m.toBelow d.size (fun k f=>(l k f).1)),(m.block ob (bg.1 b).1 (fun s=>(l ob s).2 rfl)).trans b,rfl⟩
 told:=fun W c D i h hi hF=>by
  obtain⟨d,b,rfl⟩:=h;have q:=af b;have g:=af d;have B:W.frozen? (ag ob 0)=false:=aI b;have A:W.cell? (ag ob 0)=some (.bool (decide (0<c.length))):=aI b;have u:ob<W.heap.size:=(bg.1 b).1;have j:Hid (∀o v,aB (fun k=>k=ob) W ((W.setCell (ag ob 0) v).alloc o)):=fun o v=>((aB.refl (fun k=>k=ob) W).set (a:=(ag ob 0)) _ (.inl rfl)).alloc _;have r:Hid (∀o,((W.setCell (ag ob 0) (.bool true)).alloc o).heap[ob]? =some (.cells #[.bool (decide (0<(c++[i]).length))] 4 (0,0))):=fun o=>by
   have e:decide (0<(c++[i]).length)=true:=ax;rw[e];exact(bU _ _ _ (aQ u)).trans (dC _ ob 0 _ _ _ q.o)
  generalize cu R i=p;have⟨x,y,w⟩:=p;show aK 154 #[jb x y w,aj ob] W _;go_enter func154,ntmps154;go_wp2;go_ret;exact⟨rfl,_,⟨g.o.trans ((j.o _ _).toBelow g.o.size (fun k h=>aa)),r.o _,rfl⟩,fun k h=>.inl h,j.o _ _⟩
theorem KJ (R:List Pt) (ob:Nat) (w0:World) (G:List Nat) (ay:G.length<=1000000) (U:w0.heap.size<=ob):
  Qk 109 #[aj ob] true R w0 G (UW ob R w0) where
 enters:=KI
 base:=fun W d D h=>h.1
 lt:=fun W d D h k hk=>by
  obtain⟨m,v,b,c,rfl⟩:=h;rcases hk with rfl|hk
  .exact⟨U,(bg.1 b).1⟩
  .exact c.lt k hk
 jU:=fun W W' d D au h y x=>by
  obtain⟨m,v,b,c,rfl⟩:=h;exact⟨m.trans (y.toBelow m.size (fun k hk=>(x k hk).1)),v,(y.block ob (bg.1 b).1 (fun h9=>(x ob h9).2 (.inl rfl))).trans b,aU c y (fun g e h9=>(x g h9).2 (.inr e)),rfl⟩
 told:=fun W d D i h hi hF=>by
  obtain⟨m,v,b,c,rfl⟩:=h;have Q:=hF.length_le;rw[bQ,Bq]at Q;have aq:(cu R i).2.2=ku R i:=rfl;have ab:Hid ((((d++[i]).map (ku R)).map (Value.int .u32))=((d.map (ku R)).map (Value.int .u32))++[.int .u32 (cu R i).2.2]):=by
   show _=_;rw[bJ,bJ];rfl
  have K:Hid ((d++[i]).length=d.length+1):=by show _=_;simp
  generalize cu R i=p at*;obtain⟨C,E,r⟩:=p;obtain⟨f,j,rfl⟩:=fK c;have V:ob<W.heap.size:=(bg.1 b).1;obtain⟨n,T⟩:∃n,n=d.length:=⟨_,rfl⟩;rw[<-T]at b c Q K |-;obtain⟨w1,s⟩:∃w1,w1=W.alloc (.cells #[ae C,ae E,ak r] 29):=⟨_,rfl⟩;have q:Below W.heap.size W w1:=by rw[s];exact(aJ _ _).alloc (aA _) _
  have Y:w1.heap[W.heap.size]? =some (.cells #[ae C,ae E,ak r] 29 (0,0)):=by rw[s];exact bY W _
  have z:=(q.block ob V).trans b;have av:w1.cell? (ag ob 0)=some (.slice f n j):=aI z;have aw:w1.cell? (ag W.heap.size 2)=some (ak r):=aI Y;have ah:Hid (w1.ownsRow w0.heap.size 27 1 (.slice f n j) n ((d.map (ku R)).map (Value.int .u32))):=az c q;have ac:=af z;have I:=af q;have H:=af m;have ao:w0.heap.size<=w1.heap.size:=bA m.size q.size;have ar:ob<w1.heap.size:=cO V q.size;have am:=af c.lt;have X:∀l,(Value.slice f n j).ownBlock=some l->ob≠l:=bz c b ai;have L:=af X;clear hF m b c Y z q X T aq;show aK 109 #[jb C E r,aj ob] W _;go_enter func109,ntmps109
  go_upto_region 1 with fail
  rw[<-s];clear s
  go_upto_region 1 with fail
  have an:Hid (∀(F:Value) (w2:World),w1.grownBy w2 (Value.slice f n j).ownBlock->w2.heap[ob]? =some (.cells #[.slice f n j] 35 (0,0))/\aB (fun k=>k=ob\/(Value.slice f n j).ownBlock=some k) W w2):=fun F w2 t=>by
   have N:aB (fun k=>(Value.slice f n j).ownBlock=some k) w1 w2:=(aB.refl _ _).grown t (fun k hk=>.inl hk);exact⟨(N.block ob ar (fun h=>L.o ob h rfl)).trans ac.o,((aB.refl _ W).below I.o).trans (N.mono fun k h=>.inr h)⟩
  go_wp2_with (at_builtin;refine cB vg w0.heap.size ah.o [.int .u32 r] rfl (by simp[Value.oneCell']) rfl _ _ rfl rfl _ rfl dE aa ao ?_;intro F w2 B t P;have h9:=an.o F w2 t;have ad:=af h9.1;have Z:=af h9.2;have A:=h9.1;have aC:(w2.frozen? (ag ob 0)=false):=(aI A);have ax:(w2.cell? (ag ob 0)=some (.slice f n j)):=(aI A);have J:=af P;have al:=af B;obtain⟨u,w,rfl⟩:=fK B;clear h9 A B P t)
  go_ret;have M:=(Z.o.set (a:=(ag ob 0)) (.slice u (n+1) w) (.inl (.inl rfl)));have ap:∀l,(Value.slice u (n+1) w).ownBlock=some l->l≠ob:=fun l e=>by
   rcases J.o with h9|h9
   .exact fun O=>L.o l (h9▸e) O.symm
   .rw[h9]at e;injection e with e;intro O;simp at e;omega
  refine⟨rfl,_,⟨H.o.trans (M.toBelow H.o.size (fun k h=>?_)),.slice u (n+1) w,dC _ ob 0 _ _ _ ad.o,?_,rfl⟩,fun k h=>?_,M⟩
  .rcases h with rfl|h
   .exact U
   .exact(am.o k h).1
  .have h9:=aU (S:=fun k=>k=ob) al.o ((aB.refl (fun k=>k=ob) w2).set (a:=(ag ob 0)) (.slice u (n+1) w) (.inl rfl)) ap;rw[K.o,ab.o];exact h9
  .rcases h with rfl|h
   .exact .inl (.inl rfl)
   .rcases J.o with h9|h9
    .exact .inl (.inr (h9▸h))
    .rw[h9]at h;injection h with h;have:=I.o.size;simp at h;right;omega
theorem SI {more:Bool} {R:List Pt} {h:iV} {x1 x2 y:Int} (a:R.length=0\/x2<x1):lC more R h x1 x2 y=([],0):=by unfold lC;rw[aO a]
theorem Di (F:Nat) (cb:Array Value) (more:Bool) (R:List Pt) (h:iV) (cnt:Int) (V:mQ) (lo hi tb fb:Nat) (w0 W:World) (S:World->List Nat->(Nat->Prop)->Prop) (D:Nat->Prop) (x1 x2 y:Int)
  (z:dz w0 lo hi tb fb R h cnt V) (I:mq R h) (ao:R.length<=20000) (s:Qk F cb more R w0 (lC more R h x1 x2 y).1 S) (hS:S W [] D):
  aK 108 #[aj tb,ae x1,ae x2,ae y,.func (.func F) #[] cb] W (Gc S W D (lC more R h x1 x2 y)):=by
 have J:=s.base W [] D hS;have l:=z.below J z.fM.2.2.2.2;have aw:=l.GV;have q:=l.blk;obtain⟨a4,a5,U⟩:=fK l.row;obtain⟨ab,ac,X,-,-,K⟩:=Rd.aD l.xs;rw[U,X]at q;have w:(cz R).length=R.length:=by unfold cz;rw[bK]
 rw[w]at q;have aL:W.cell? (ag tb 0)=some (.slice a4 R.length a5):=aI q;have Q:W.cell? (ag tb 1)=some (.slice ab R.length ac):=aI q;have T:W.cell? (ag tb 2)=some (aj fb):=aI q;have P:Hid (∀W',Below W.heap.size W W'->S W' [] D):=fun W' A=>s.jU W W' [] D (fun _=>False) hS ((aB.refl _ W).below A) (fun k h=>h.elim);by_cases v:R.length=0\/x2<x1
 .rw[SI v];have ak:Hid (Gc S W D ([],0) (.returned (ae 0)) W):=⟨rfl,D,hS,fun k h=>.inl h,aB.refl _ _⟩;clear z I s hS l q J P K U X Q T;generalize R.length=n at*;by_cases b:n=0
  .have d0:((n:Int)==0)=true:=by simp[b]
   have d1:(n==0)=true:=by simp[b]
   have d2:decide (n=0)=true:=by simp[b]
   clear b v w;go_enter func108,ntmps108;go_wp2;go_ret;exact ak.o
  .have d0:((n:Int)==0)=false:=by simp[b]
   have d1:(n==0)=false:=by simp[b]
   have d2:decide (n=0)=false:=by simp[b]
   have f1:decide (x1>x2)=true:=aH;have f2:decide (x2<x1)=true:=aH;clear b v w;go_enter func108,ntmps108;go_wp2;go_ret;exact ak.o
 .have b:0<R.length:=aa;have L:=af (fun W' (A:Below W.heap.size W W')=>Ga ab (cz R) ac x1 W' (K.below A) aa);have M:=af (fun W' (A:Below W.heap.size W W')=>Gb ab (cz R) ac x2 W' (K.below A) aa);have a2:=gN (fun i=>decide (x1<=(cz R).getD i 0)) (cz R).length;have a3:=gN (fun i=>decide (x2<(cz R).getD i 0)) (cz R).length;have be:(aZ (cz R) x1).2<=20000:=by unfold aZ;omega
  have bf:(aV (cz R) x2).2<=20000:=by unfold aV;omega
  obtain⟨ax,a6,a7⟩:=bR 0 R.length b;have aW:=fJ 0 R.length b;have B:Hid (∀a W' c,S W' [] D->¬D a->w0.heap.size<=a->W'.heap[a]? =some (zU (jG R x1) (mH R x2) y F cb c)->c<=40000->jG R x1<mH R x2->
    aK 174 #[aj tb,ae ((2*R.length-2:Nat):Int),aj a] W' (NI S W' D a (jG R x1) (mH R x2) y F cb c [] (downG more h (l7 R) y (jG R x1) (mH R x2) (dU 0 R.length) 0))):=fun a W' c aU aT u aX bb r=>by
   have d:=NJ F cb more R h cnt V lo hi tb fb a w0 S y (jG R x1) (mH R x2) _ s z ao u (dU 0 R.length) 0 W' [] D c (kH _ b) ax aa (I.ok b) aU aT aX aa (by
    unfold lC;rw[aN v,aO r];exact List.prefix_rfl)
   rw[show(dU 0 R.length).root 0=2*R.length-2 by unfold FT.root;omega]at d;exact d
  have bc:=(Iy I ao more x1 x2 y).2;have x:Hid (lC more R h x1 x2 y=if jG R x1<mH R x2 then((downG more h (l7 R) y (jG R x1) (mH R x2) (dU 0 R.length) 0).1,(aZ (cz R) x1).2+(aV (cz R) x2).2+(downG more h (l7 R) y (jG R x1) (mH R x2) (dU 0 R.length) 0).2.1)else([],(aZ (cz R) x1).2+(aV (cz R) x2).2)):=by
   show lC more R h x1 x2 y=_
   conv=>lhs;unfold lC
   rw[aN v]
  have O:Hid (jG R x1=(aZ (cz R) x1).1/\mH R x2=(aV (cz R) x2).1):=⟨rfl,rfl⟩;rw[<-O.o.1,w]at L;rw[<-O.o.2,w]at M;have C:=af l;have aE:=af (s.lt W [] D hS);have ba:=J.size;have f1:decide (x1>x2)=false:=aH;have f2:decide (x2<x1)=false:=aH;obtain⟨dg,au⟩:∃dg,dg=downG more h (l7 R) y (jG R x1) (mH R x2) (dU 0 R.length) 0:=⟨_,rfl⟩;rw[<-au]at B x;clear z I s hS l q J K U X v a2 a3 ax a6 a7 aW w au;generalize jG R x1=fr at*;generalize mH R x2=tu at*;generalize aY:(aZ (cz R) x1).2=f at*;generalize a0:(aV (cz R) x2).2=g at*;generalize lC more R h x1 x2 y=ask at*;clear aY a0 O;have aF:Hid (om W lo fb R.length V.fv):=C.o.iU;have aG:Hid (fb<W.heap.size):=cO C.o.fM.2.2.2.1 C.o.fM.2.2.2.2;clear C;generalize R.length=n at*;have d0:((n:Int)==0)=false:=aH;have d1:(n==0)=false:=aH;have d2:decide (n=0)=false:=aH;go_enter func108,ntmps108
  go_wp2_with fail
  refine(L.o W (aJ _ _)).mono ?_;rintro e w1 ⟨rfl,Y⟩;have aM:=(Y.cell (p:=(ag tb 1)) aw).trans Q;have E:=af Y;clear Y
  go_wp2_with fail
  refine(M.o w1 E.o).mono ?_;rintro e w2 ⟨rfl,aq⟩;have G:Hid (Below W.heap.size W w2):=E.o.trans (aq.mono E.o.size);clear aq aM L M E
  go_upto_region 6 with fail
  obtain⟨w3,H⟩:∃w3,w3=w2.alloc (.cells #[ae fr,ae tu,ae y,.func (.func F) #[] cb,ae ((f+g:Nat):Int)] 250):=⟨_,rfl⟩;have ar:Below w2.heap.size w2 w3:=by rw[H];exact(aJ _ _).alloc (aA _) _
  obtain⟨a,u⟩:∃a,a=w2.heap.size:=⟨_,rfl⟩;have t:w3.heap[a]? =some (zU fr tu y F cb (f+g)):=by rw[H,u];exact bY w2 _
  have j:Hid (Below W.heap.size W w3):=G.o.trans (ar.mono G.o.size);have a8:W.heap.size<=a:=by rw[u];exact G.o.size
  rw[show w2.alloc (.cells #[ae fr,ae tu,ae y,.func (.func F) #[] cb,ae ((f:Int)+(g:Int))] 250)=w3 by rw[H];rfl,<-u];have ai:=af t;have bd:=(j.o.cell (p:=(ag tb 2)) aw).trans T;have a9:a<w3.heap.size:=(bg.1 t).1;have aC:Hid (¬D a):=fun d=>by have:=(aE.o a d).2;omega
  clear H ar t u G aL Q T;by_cases r:fr<tu
  .have aQ:decide ((fr:Int)<(tu:Int))=true:=aH;have aR:decide (fr<tu)=true:=aH;have m:=x.o;rw[aO r]at m;have az:=af m;have av:=aF.o.blk;have Z:=(j.o.block fb aG.o).trans av;have ah:=af (jV fb n b aa w3 (aI Z) (aI Z));have ad:=af (B.o a w3 (f+g) (P.o w3 j.o) aC.o aa ai.o aa r);clear m r Z av B x
   go_wp2_with fail
   refine ah.o.mono ?_;rintro e w' ⟨rfl,aP⟩;subst aP
   go_wp2_with fail
   refine ad.o.mono ?_;rintro e w4 ⟨rfl,ay,ap,am,an,al⟩;have a1:w4.cell? (ag a 4)=some (ae ((f+g+dg.2.1:Nat):Int)):=aI al;have N:Hid (Gc S W D ask (.returned (ae ((f+g+dg.2.1:Nat):Int))) w4):=by
    rw[az.o];refine⟨rfl,ay,ap,fun k d=>(am k d).imp id fun aS=>by have:=j.o.size;omega,?_⟩;exact(((aB.refl (fun k=>D k\/W.heap.size<=k) W).below j.o).trans (an.mono fun k d=>d.imp id fun aS=>aa)).strip
   clear ap am an al ad ah;go_wp2;go_ret;exact N.o
  .have aQ:decide ((fr:Int)<(tu:Int))=false:=aH;have aR:decide (fr<tu)=false:=aH;have m:=x.o;rw[aN r]at m;have N:Hid (Gc S W D ask (.returned (ae ((f+g:Nat):Int))) w3):=by
    rw[m];exact⟨rfl,D,P.o w3 j.o,fun k h=>.inl h,(aB.refl _ W).below j.o⟩
   have t:=ai.o;have a1:w3.cell? (ag a 4)=some (ae ((f+g:Nat):Int)):=aI t;clear m r t B x;go_wp2;go_ret;exact N.o
def Xg (w:World) (R:List Pt) (r:List Nat×Nat) (e:Ending) (w':World):Prop:=
 ∃v,e=.returned (.tuple #[v,ae (r.2:Nat)])/\w'.ownsRow w.heap.size 27 1 v r.1.length ((dh (r.1.map (ku R))).map (Value.int .u32))/\Below w.heap.size w w'
theorem KL {w:World} {lo hi tb fb:Nat} {R:List Pt} {h:iV} {cnt:Int} {V:mQ} (x:dz w lo hi tb fb R h cnt V) (j:mq R h) (i:R.length<=20000) (x1 x2 y:Int):
  aK 41 #[aj tb,ae x1,ae x2,ae y] w (Xg w R (lC true R h x1 x2 y)):=by
 obtain⟨w1,c⟩:∃w1,w1=w.alloc (.cells #[aM] 35):=⟨_,rfl⟩;have z:Below w.heap.size w w1:=by rw[c];exact(aJ _ _).alloc (aA _) _
 have B:w1.heap[w.heap.size]? =some (.cells #[aM] 35 (0,0)):=by rw[c];exact bY w _
 have hS:UW w.heap.size R w w1 [] (fun k=>k=w.heap.size\/(aM).ownBlock=some k):=⟨z,aM,B,cZ _ _ _ _,rfl⟩;have⟨N,M⟩:=Iy j i true x1 x2 y;have m:=Di 109 #[aj w.heap.size] true R h cnt V lo hi tb fb w w1 (UW w.heap.size R w) _ x1 x2 y x j i
  (KJ R w.heap.size w _ aa (aA _)) hS
 generalize lC true R h x1 x2 y=r at*;have p:=af m;have O:r.1.length<=40000:=aa;go_enter func41,ntmps41
 go_wp2_with fail
 rw[<-c];refine p.o.mono ?_;rintro e w2 ⟨rfl,I,⟨A,v,a,b,rfl⟩,K,L⟩;have s:=af b;have d:=af A;have J:=af a;have F:w2.cell? (ag w.heap.size 0)=some v:=aI a;have E:∀f,v.ownBlock=some f->w.heap.size≠f:=bz b a ai;have u:=af E;have C:=(bg.1 a).1;have n:=af (A7 (l:=r.1.map (ku R)) b aa);obtain⟨G,H,rfl⟩:=fK b
 go_wp2_with fail
 refine n.o.mono ?_;rintro e w3 ⟨rfl,D,g⟩;have t:=af D;have P:w3.cell? (ag w.heap.size 0)=some (.slice G r.1.length H):=((di g C (fun h=>u.o _ h rfl)).1 0).trans F;have q:Hid (Below w.heap.size w w3):=d.o.trans (g.toBelow d.o.size (fun k h=>(s.o.lt k h).1));go_wp2;go_ret2;exact⟨_,rfl,t.o,q.o⟩
theorem Qn {w:World} {lo hi tb fb:Nat} {R:List Pt} {h:iV} {cnt:Int} {V:mQ} (l:dz w lo hi tb fb R h cnt V) (n:mq R h) (m:R.length<=20000) (x1 x2 y:Int):
  aK 75 #[aj tb,ae x1,ae x2,ae y] w fun e w'=>
   e=.returned (.tuple #[.bool (decide (0<(lC false R h x1 x2 y).1.length)),ae (lC false R h x1 x2 y).2])/\Below w.heap.size w w':=by
 obtain⟨w1,b⟩:∃w1,w1=w.alloc (.cells #[.bool false] 4):=⟨_,rfl⟩;have p:Below w.heap.size w w1:=by rw[b];exact(aJ _ _).alloc (aA _) _
 have s:w1.heap[w.heap.size]? =some (.cells #[.bool false] 4 (0,0)):=by rw[b];exact bY w _
 have hS:AnyS w.heap.size w w1 [] (fun k=>k=w.heap.size):=⟨p,s,rfl⟩;have f:=Di 154 #[aj w.heap.size] false R h cnt V lo hi tb fb w w1 (AnyS w.heap.size w) _ x1 x2 y l n m
  (Qm R w.heap.size w _ (aA _)) hS
 generalize lC false R h x1 x2 y=r at*;have j:=af f;go_enter func75,ntmps75
 go_wp2_with fail
 rw[<-b];refine j.o.mono ?_;rintro e w2 ⟨rfl,t,⟨q,d,rfl⟩,u,v⟩;have g:=af q;obtain⟨a,c⟩:∃a,a=decide (0<r.1.length):=⟨_,rfl⟩;rw[<-c]at d;have i:=af c;have x:w2.cell? (ag w.heap.size 0)=some (.bool a):=aI d;go_wp2;go_ret2;rw[<-i.o];exact⟨rfl,g.o⟩
theorem Qo (p q:Pt) (w:World):aK 71 #[jb p.1 p.2.1 p.2.2,jb q.1 q.2.1 q.2.2] w (gD w (ae (oO p q))):=
 (UD p q w).mono fun e w' ⟨a,b⟩=>⟨a,b.below (aA _)⟩
def Eb (lb:Nat->Nat->Bool) (h:iV):FT->Nat->Int
 |.leaf _,_=>-1
 |.node l r,s=>match h (l.root s),h (r.root (s+l.size))with
  |none,none=>-1
  |some _,none=>(l.root s:Nat)
  |none,some _=>(r.root (s+l.size):Nat)
  |some i,some j=>if lb i j then(l.root s:Nat)else(r.root (s+l.size):Nat)
theorem II {w:World} {lo hi tb fb:Nat} {cnt:Int} {R:List Pt} {h:iV} {V:mQ} (H:dz w lo hi tb fb R h cnt V) (bd:R.length<=20000) {t:FT} {s:Nat} (D:FT.At (bf R.length) t s) (F:∀k i,k<(bf R.length).length->h k=some i->i<R.length):
  aK 195 #[aj tb,ae (t.root s:Nat)] w (gD w (ae (Eb (D9 R) h t s))):=by
 have aU:=D.lt;have bc:(bf R.length).length<=40000:=by rw[dB];omega
 have an:0<R.length:=by have:=dB R.length;omega
 obtain⟨a9,off,cn,env,a2⟩:=H.nodes an;obtain⟨J,ch,aH,-,-,-,-,ap,aQ,-⟩:=H.holds an;obtain⟨a0,a1,aM,-,-,a3⟩:=bV.aD bq ai H.row;have E:=H.blk;rw[env,aH,aM]at E;have aw:=H.GV;obtain⟨bJ,n0,bn,bo,bp,br,bs,bt⟩:=nJ a2 D.get;have al:w.cell? (ag tb 0)=some (.slice a0 R.length a1):=aI E;have a7:w.cell? (ag tb 3)=some (.slice (some (ag a9 off)) (bf R.length).length cn):=aI E;have am:w.cell? (ag tb 4)=some (aC J (bf R.length).length ch):=aI E;have ac:=af aQ;have a6:=af a3;have ad:=af F;obtain⟨M,ao⟩:∃M,M=(bf R.length).length:=⟨_,rfl⟩;obtain⟨z,ar⟩:∃z,z=R.length:=⟨_,rfl⟩;obtain⟨K,aP⟩:∃K,K=t.root s:=⟨_,rfl⟩;rw[<-ao]at a7 am bc aU;rw[<-ar]at al bd an;rw[<-aP]at n0 bn bo bp br bs bt aU |-;have ak:Hid (M=(bf R.length).length/\z=R.length):=⟨ao,ar⟩;obtain⟨w1,v⟩:∃w1,w1=w.alloc (.cells #[.int .u8 (t.top s).kind,ae (t.top s).l,ae (t.top s).r,ae (t.top s).fr,ae (t.top s).Lu,ae 0,ae (t.top s).item] 163):=⟨_,rfl⟩;have L:Below w.heap.size w w1:=by rw[v];exact(aJ _ _).alloc (aA _) _
 have G:w1.heap[w.heap.size]? =some (.cells #[.int .u8 (t.top s).kind,ae (t.top s).l,ae (t.top s).r,ae (t.top s).fr,ae (t.top s).Lu,ae 0,ae (t.top s).item] 163 (0,0)):=by rw[v];exact bY w _
 have bP:w1.cell? (ag w.heap.size 0)=some (.int .u8 (t.top s).kind):=aI G;have x1:w1.cell? (ag w.heap.size 1)=some (ae (t.top s).l):=aI G;have x2:w1.cell? (ag w.heap.size 2)=some (ae (t.top s).r):=aI G;have A:=af L;have S:=(L.cell (p:=(ag tb 0)) aw).trans al;have ax:=(L.cell (p:=(ag tb 4)) aw).trans am;have y:w.heap.size<w1.heap.size:=(bg.1 G).1;have aY:tb<w1.heap.size:=wo aw y;have bI:J<w1.heap.size:=wo ap y;clear aQ a3 F ao ar E env aH aM a2 L G aP;cases t with
 |leaf a=>
  have d1:(((FT.leaf a).top s).kind !=(2:Int))=true:=rfl;clear x1 x2 S ax al am;generalize(FT.leaf a).top s=d at*;go_enter func195,ntmps195
  go_upto_region 2 with fail
  rw[<-v];clear v;go_wp2;go_ret;exact⟨rfl,A.o⟩
 |node l r=>
  have d1:(((FT.node l r).top s).kind !=(2:Int))=false:=rfl;have aq:=D.left.lt;have av:=D.right.lt;have aS:((FT.node l r).top s).l=((l.root s:Nat):Int):=by show((s+l.size:Nat):Int)-1=_;unfold FT.root;have:=l.size_pos;omega
  have aT:((FT.node l r).top s).r=((r.root (s+l.size):Nat):Int):=by show((s+l.size+r.size:Nat):Int)-1=_;unfold FT.root;have:=r.size_pos;omega
  rw[aS]at x1;rw[aT]at x2;have B:=(A.o.cell (p:=(ag J (l.root s))) ap).trans (ac.o _ aq).1;have C:=(A.o.cell (p:=(ag J (r.root (s+l.size)))) ap).trans (ac.o _ av).1;have aG:Hid (∀g f,h (l.root s)=g->h (r.root (s+l.size))=f->Eb (D9 R) h (.node l r) s=match g,f with|none,none=>-1|some _,none=>(l.root s:Nat)|none,some _=>(r.root (s+l.size):Nat)|some i,some j=>if D9 R i j then(l.root s:Nat)else(r.root (s+l.size):Nat)):=fun g f ba bb=>by subst ba bb;rfl
  have aV:=aq;have aW:=av;rw[<-ak.o.1]at aq av;obtain⟨g,O⟩:∃g,g=h (l.root s):=⟨_,rfl⟩;obtain⟨f,P⟩:∃f,f=h (r.root (s+l.size)):=⟨_,rfl⟩;have I:=af (aG.o g f O.symm P.symm);have az:Hid (∀i,g=some i->i<R.length):=fun i e=>ad.o _ i aV (O▸e);have aB:Hid (∀i,f=some i->i<R.length):=fun i e=>ad.o _ i aW (P▸e);rw[<-O]at B;rw[<-P]at C;clear aS aT aG O P ad ac D aV aW;generalize Eb (D9 R) h (.node l r) s=res at*;generalize(FT.node l r).top s=d at*;generalize l.root s=kl at*;generalize r.root (s+l.size)=kr at*;have bB:=ah ax;have bC:=ah x1;have bD:=ah x2;have bE:=ah B;have bF:=ah C;go_enter func195,ntmps195
  go_upto_region 2 with fail
  rw[<-v];clear v
  go_upto_region 4 with fail
  refine au (fun W=>∃p:aR w1,W=p.W) [17] [(0,false),(1,false),(2,false),(3,true),(4,false),(5,true),(6,false),(7,true),(8,false),(9,false),(10,false),(11,true),(12,false),(13,true),(14,false),(15,true),(16,false)] ⟨⟨_,(aJ _ _).drew⟩,rfl⟩ 1 ?_;refine aF [17] ?_;have m:Hid (Below w.heap.size w w1.drew):=A.o.drew;have S:w1.drew.cell? (ag tb 0)=some (.slice a0 z a1):=S;have x1:w1.drew.cell? (ag w.heap.size 1)=some (ae kl):=x1;have x2:w1.drew.cell? (ag w.heap.size 2)=some (ae kr):=x2;have y:w.heap.size<w1.drew.heap.size:=y;have aY:tb<w1.drew.heap.size:=aY;clear bB bC bD bE bF ax B C A;generalize w1.drew=w2 at*;cases g with
  |none=>
   cases f with
   |none=>
    simp only[oW];have c:=I.o;simp only at c;subst c;go_wp2;go_ret;exact⟨rfl,m.o⟩
   |some j=>
    simp only[oW];have c:=I.o;simp only at c;subst c;have B:((j:Int)==-1)=false:=by first|(simp;done)|(simp;omega)
    have C:decide ((j:Int)=-1)=false:=by first|(simp;done)|(simp;omega)
    have ab:Hid (∀n,Below w.heap.size w (w2.drewN n)):=fun n=>m.o.trans ((Below.aX _ n).mono m.o.size)
    go_upto_region 7 with fail
    go_quiet (fail)
    go_wp2;go_ret;exact⟨rfl,ab.o _⟩
  |some i=>
   have B:((i:Int)==-1)=false:=by first|(simp;done)|(simp;omega)
   have C:decide ((i:Int)=-1)=false:=by first|(simp;done)|(simp;omega)
   have bH:((i:Int)!=-1)=true:=by first|(simp;done)|(simp;omega)
   cases f with
   |none=>
    simp only[oW];have c:=I.o;simp only at c;subst c;have ab:Hid (∀n,Below w.heap.size w (w2.drewN n)):=fun n=>m.o.trans ((Below.aX _ n).mono m.o.size)
    go_upto_region 7 with fail
    go_quiet (fail)
    go_wp2;go_ret;exact⟨rfl,ab.o _⟩
   |some j=>
    have f1:((j:Int)==-1)=false:=by first|(simp;done)|(simp;omega)
    have f2:decide ((j:Int)=-1)=false:=by first|(simp;done)|(simp;omega)
    simp only[oW];have hi:=az.o i rfl;have x:=aB.o j rfl;obtain⟨bN,bO,a8,bM,u⟩:=(a6.o.below m.o).get aa;have T:=u i hi 0 aa;have U:=u i hi 1 aa;have X:=u i hi 2 aa;have Y:=u j x 0 aa;have v1:=u j x 1 aa;have Z:=u j x 2 aa;simp only[bX,eG,eQ,df]at T U X Y v1 Z;rw[<-dK hi]at T U X;rw[<-dK x]at Y v1 Z;subst a8;have aE:Hid (D9 R i j=decide (oO (cu R i) (cu R j)<0)):=by
     show _=_;unfold D9;rw[pF,rq]
    have bK:i<z:=by rw[ak.o.2];exact hi
    have bL:j<z:=by rw[ak.o.2];exact x
    have c:=I.o;simp only at c;rw[aE.o]at c;clear u hi x aE az aB;generalize cu R i=p at*;generalize cu R j=q at*;have a4:=af (fun W=>Qo p q W);generalize oO p q=Q at*;obtain⟨bv,bw,bu⟩:=p;obtain⟨bz,bA,bx⟩:=q;simp only at T U X Y v1 Z;have a5:Hid (∀b:aR w2,aK 71 #[jb bv bw bu,jb bz bA bx] b.W fun e w'=>e=.returned (ae Q)/\Below b.W.heap.size b.W w'):=fun b=>a4.o b.W;have be:=ah S;have bh:=ah T;have bi:=ah U;have bj:=ah X;have bk:=ah Y;have bl:=ah v1;have bm:=ah Z
    go_upto_region 7 with fail
    refine bG aL aL ?_
    repeat(quiet_step ((go_at_call 71;exact dH (a5.o _))))
    refine jS ?_;intro w4 aZ;have N:Below w2.heap.size w2 w4:=by obtain⟨b,rfl⟩:=aZ;exact b.h
    have x1:=(N.cell (p:=(ag w.heap.size 1)) y).trans x1;have x2:=(N.cell (p:=(ag w.heap.size 2)) y).trans x2;have ay:Hid (Below w.heap.size w w4):=m.o.trans (N.mono m.o.size);clear aZ N be bh bi bj bk bl bm;by_cases F:Q<0
    .have d1:decide (Q<0)=true:=by simp[F]
     rw[d1,aO rfl]at c;subst c;go_wp2;go_ret;exact⟨rfl,ay.o⟩
    .have d1:decide (Q<0)=false:=by simp[F]
     rw[d1,aN ai]at c;subst c;go_wp2;go_ret;exact⟨rfl,ay.o⟩
theorem NK {lb:Nat->Nat->Bool} {N:List Nd} {t:FT} {s:Nat} {h:iV} (d:FT.At N t s):
  (Eb lb h t s=-1/\pullH lb t s h=gU h (t.root s) none)\/
  ∃t2 e i,Eb lb h t s=((t2.root e:Nat):Int)/\FT.At N t2 e/\t2.size<t.size/\h (t2.root e)=some i/\pullH lb t s h=pullH lb t2 e (gU h (t.root s) (some i)):=by
 cases t with
 |leaf a=>exact .inl ⟨rfl,rfl⟩
 |node l r=>
  have g:(FT.node l r).size=l.size+r.size+1:=rfl;have pl:=l.size_pos;have k:=r.size_pos;cases c:h (l.root s)with
  |none=>
   cases b:h (r.root (s+l.size))with
   |none=>left;simp only[Eb,pullH];rw[c,b];exact⟨rfl,rfl⟩
   |some j=>right;refine⟨r,s+l.size,j,?_,d.right,aa,b,?_⟩<;>simp only[Eb,pullH]<;>rw[c,b]
  |some i=>
   cases b:h (r.root (s+l.size))with
   |none=>right;refine⟨l,s,i,?_,d.left,aa,c,?_⟩<;>simp only[Eb,pullH]<;>rw[c,b]
   |some j=>
    right;cases f:lb i j with
    |true=>refine⟨l,s,i,?_,d.left,aa,c,?_⟩<;>simp only[Eb,pullH]<;>rw[c,b]<;>simp[f]
    |false=>refine⟨r,s+l.size,j,?_,d.right,aa,b,?_⟩<;>simp only[Eb,pullH]<;>rw[c,b]<;>simp[f]
theorem KM:eU 194:=bP func194 aL rfl
theorem KN {w:World} {lo hi tb fb:Nat} {R:List Pt} {h:iV} {cnt:Int} {V:mQ} (H:dz w lo hi tb fb R h cnt V) (tc ac x k:Nat) (t:w.cell? (ag tc 0)=some (aj tb)) (r:w.cell? (ag ac 0)=some (ae x)) (j:k<(bf R.length).length) (q:R.length<=20000):
  aK 194 #[ae k,aj tc,aj ac] w (gD w (.bool (decide (h k=some x)))):=by
 have i:0<R.length:=by have:=dB R.length;omega
 have p:(bf R.length).length<=40000:=by rw[dB];omega
 obtain⟨g,ch,d,-,-,-,-,s,e,-⟩:=H.holds i;have b:=H.blk;rw[d]at b;have l:w.cell? (ag tb 4)=some (aC g (bf R.length).length ch):=aI b;have m:=(e k j).1;have f:decide (h k=some x)=decide (oW (h k)=(x:Int)):=by rw[pF,SH]
 rw[f];have c:Hid (∀n,Below w.heap.size w (w.drewN n)):=fun n=>Below.aX _ _;clear e b d H f;generalize(bf R.length).length=M at*;generalize oW (h k)=v at*;go_enter func194,ntmps194
 go_upto_region 1 with fail
 by_cases a:v=x
 .have d1:(v==(x:Int))=true:=by simp[a]
  have d2:decide (v=(x:Int))=true:=by simp[a]
  clear a
  go_quiet (fail)
  go_wp2;go_ret;rw[d2];exact⟨rfl,c.o _⟩
 .have d1:(v==(x:Int))=false:=by simp[a]
  have d2:decide (v=(x:Int))=false:=by simp[a]
  clear a
  go_quiet (fail)
  go_wp2;go_ret;rw[d2];exact⟨rfl,c.o _⟩
def V4 (w:World) (h:iV) (x:Nat) (P:List Nat) (e:Ending) (w':World):Prop:=
 ∃r:Int,e=.returned (ae r)/\Below w.heap.size w w'/\((r=-1/\∀k∈P,h k≠some x)\/∃j k:Nat,r=j/\P[j]? =some k/\h k=some x/\∀i<j,∀k',P[i]? =some k'->h k'≠some x)
theorem Qp {w:World} {lo hi tb fb:Nat} {R:List Pt} {h:iV} {cnt:Int} {V:mQ} (H:dz w lo hi tb fb R h cnt V) (K:R.length<=20000) (tc ac x:Nat) (u:w.cell? (ag tc 0)=some (aj tb)) (m:w.cell? (ag ac 0)=some (ae x))
  (P:List Nat) (hP:∀k∈P,k<(bf R.length).length) (F:Option Addr) (N:Nat) (hp:Rd fT w F P) (L:P.length<=40000):
  aK 193 #[.slice F P.length N,.func (.func 194) #[] #[aj tc,aj ac]] w (V4 w h x P):=by
 have E:=iF w _ u;have B:=iF w _ m;simp only at E B;have G:Hid (∀W k,Below w.heap.size w W->k∈P->aK 194 #[ae k,aj tc,aj ac] W (gD W (.bool (decide (h k=some x))))):=fun W k q s=>
  KN (H.below q H.fM.2.2.2.2) tc ac x k ((q.cell (p:=(ag tc 0)) E).trans u) ((q.cell (p:=(ag ac 0)) B).trans m) (hP k s) K
 have J:=af hp;have S:=KM;clear H hp hP u m;unfold V4;obtain⟨n,t⟩:∃n,n=P.length:=⟨_,rfl⟩;have z:=af t;rw[<-t]at L |-;clear t;go_enter func193,ntmps193;go_wp2
 go_loopg [8] n (fun M O wr=>∃j:Nat,O=.int .i64 j/\j<=n/\n-j<=M/\Hid (Below w.heap.size w wr)/\Hid (∀i<j,∀k',P[i]? =some k'->h k'≠some x))
 case atStart=>exact⟨0,rfl,aT _,aa,aJ _ _,fun i hi=>absurd hi (kz _)⟩
 case round=>
  obtain⟨j,rfl,U,X,a,g⟩:=hrel;by_cases Y:j<n
  .have f:j<P.length:=by have:=z.o;omega
   obtain⟨b,off,A,T,C⟩:=(J.o.below a.o).get aa;have Q:=C j f;simp only[fT]at Q;have d:=af (G.o wr P[j] a.o (bC f));have y:Hid (P[j]? =some P[j]):=cK f;have v:=af A;clear C A;generalize P[j]=k at*;obtain rfl:=v.o;clear v f;by_cases c:h k=some x
   .have hd:decide (h k=some x)=true:=by simp[c]
    rw[hd]at d;have l:=af c;clear hd c
    go_wp2_with (go_at_fn 194;refine d.o.mono ?_;rintro e w' ⟨rfl,r⟩)
    go_ret;exact⟨_,rfl,a.o.trans (r.mono a.o.size),.inr ⟨j,k,rfl,y.o,l.o,g.o⟩⟩
   .have hd:decide (h k=some x)=false:=by simp[c]
    rw[hd]at d;have l:=af c;clear hd c
    go_wp2_with (go_at_fn 194;refine d.o.mono ?_;rintro e w' ⟨rfl,r⟩)
    go_roundg (n-(j+1))
    case measure=>omega
    case rel=>
     refine⟨j+1,by go_num,aa,aA _,a.o.trans (r.mono a.o.size),fun i hi k' D=>?_⟩;by_cases e:i=j
     .subst e;have:=y.o;rw[D]at this;injection this with this;rw[this];exact l.o
     .exact g.o i aa k' D
  .obtain rfl:j=n:=aa;have I:Hid (∀k∈P,h k≠some x):=fun k s=>by
    obtain⟨i,hi,rfl⟩:=iN s;exact g.o i (by have:=z.o;omega) _ (cK hi)
   go_wp2;go_ret;exact⟨_,rfl,a.o,.inl ⟨rfl,I.o⟩⟩
theorem IJ:eU 191:=bP func191 aL rfl
theorem Qq:eU 192:=bP func192 aL rfl
def Dj (w:World) (tb:Nat) (px py pi:Int):World:=(w.alloc (.cells #[aj tb] 87)).alloc (.cells #[ae px,ae py,ak pi] 29)
theorem IK (w:World) (tb:Nat) (b c a:Int):Below w.heap.size w (Dj w tb b c a)/\(Dj w tb b c a).heap[w.heap.size]? =some (.cells #[aj tb] 87 (0,0))/\(Dj w tb b c a).heap[w.heap.size+1]? =some (.cells #[ae b,ae c,ak a] 29 (0,0))/\(Dj w tb b c a).heap.size=w.heap.size+2:=
 ⟨((aJ _ _).alloc (aA _) _).alloc ax _,FR w _ _,Ci w _ _,by simp[Dj]⟩
theorem Dk {h:iV}:∀{t:FT} {s:Nat},∀p∈t.subs s,∀i∈held h p.1 p.2,i∈held h t s
 |.leaf a,s,p,hp,i,hi=>by
  have:p=(.leaf a,s):=by simpa[FT.subs]using hp
  subst this;exact hi
 |.node l r,s,p,hp,i,hi=>by
  simp only[FT.subs,bW,lS]at hp;simp only[held,bW];rcases hp with(hp|hp)|hp
  .exact .inr (.inl (Dk p hp i hi))
  .exact .inr (.inr (Dk p hp i hi))
  .subst hp;simpa only[held,bW]using hi
def KO (w:World) (lo hi tb fb:Nat) (R:List Pt) (h:iV) (cnt:Int) (V:mQ) (x:Nat) (e:Ending) (w':World):Prop:=
 (x∉oU R h/\e=.returned (.bool false)/\Below w.heap.size w w')\/(x∈oU R h/\e=.returned (.bool true)/\dz w' lo hi tb fb R (Ea R x h) (cnt-1) V/\aB (fun k=>lo<=k/\k<hi) w w')
theorem Gx {w:World} {lo hi tb fb:Nat} {R:List Pt} {h:iV} {cnt:Int} {V:mQ} (Y:dz w lo hi tb fb R h cnt V) (bu:mq R h) (dh:R.length<=20000) (dP:0<=cnt) (dQ:cnt<=20000) {x:Nat} (a0:x<R.length) (p:Pt) (hp:R[x]=p):
  aK 126 #[aj tb,jb p.1 p.2.1 p.2.2] w (KO w lo hi tb fb R h cnt V x):=by
 have O:=Y.blk;have dw:=Y.GV;have b6:=Y.fM;obtain⟨a6,a7,bO,-,-,b3⟩:=bV.aD bq ai Y.row;rw[bO]at O;have CB:=af (fun W (O:Below w.heap.size w W)=>PW a6 R R.length a7 p W rfl aa (b3.below O) bu.Cm);have bw:=Gp bu.Cm a0;rw[hp]at bw;rw[bw.1,bw.2]at CB;have c5:=af b3;have cH:cu R x=p:=by rw[dK a0];exact hp
 have c3:=af cH;have bj:=af a0;have dG:=af bO;obtain⟨an,ao,am⟩:=p;obtain⟨bv,b5,aV,cI⟩:=IK w tb an ao am;obtain⟨w1,bm⟩:∃w1,w1=Dj w tb an ao am:=⟨_,rfl⟩;rw[<-bm]at bv b5 aV cI;unfold Dj at bm;have cE:=(bv.block tb dw).trans O;have aL:w1.cell? (ag tb 0)=some (.slice a6 R.length a7):=aI cE;have t0:w1.cell? (ag w.heap.size 0)=some (aj tb):=aI b5;have a1:w1.cell? (ag (w.heap.size+1) 0)=some (ae an):=aI aV;have a2:w1.cell? (ag (w.heap.size+1) 1)=some (ae ao):=aI aV;have a3:w1.cell? (ag (w.heap.size+1) 2)=some (ak am):=aI aV;have al:0<R.length:=aa;have cL:=a0;obtain⟨n,b2⟩:∃n,n=R.length:=⟨_,rfl⟩;rw[<-b2]at dh aL CB al cL;have l:=af b2;have ba:=af bv;have ci:=af Y;have cq:=af bu;have cJ:tb<w1.heap.size:=aa;have b8:w.heap.size<w1.heap.size:=aa;have bA:w.heap.size+1<w1.heap.size:=aa;clear Y b3 O bO b2 bv b5 aV cE cI bw hp a0 bu cH;have d0:((n:Int)==0)=false:=aH;have d1:(n==0)=false:=aH;have d2:decide (n=0)=false:=aH;obtain⟨tc,b7⟩:∃tc,tc=w.heap.size:=⟨_,rfl⟩;have cp:=af b7;go_enter func126,ntmps126
 go_upto_region 1 with fail
 rw[<-bm];clear bm;rw[<-b7]at t0 a1 a2 a3 b8 bA |-;clear b7
 go_upto_region 3 with fail
 have cj:Hid (∀b:aR w1,aK 191 #[.slice a6 n a7,jb an ao am,.func (.func 94) #[] #[]] b.W fun e w'=>e=.returned (.tuple #[ae (x:Nat),.bool true])/\Below b.W.heap.size b.W w'):=fun b=>CB.o b.W (ba.o.trans (b.h.mono ba.o.size));clear CB
 go_cut [5,6]from 5 (fun dD dE cR=>∃z:Nat,dD=aj z/\dE=.bool true/\Hid (Below w1.heap.size w1 cR)/\Hid (cR.heap[z]? =some (.cells #[ae (x:Nat)] 3 (0,0))))
 case first=>
  have bp:=ah aL;have br:=ah t0;have bs:=ah a1;have dL:=ah a2;have dM:=ah a3;refine au (fun W=>∃p:aR w1,W=p.W) [11] [(0,true),(1,false),(2,false),(3,true),(4,true)] ⟨⟨_,(aJ _ _).drew⟩,rfl⟩ 7 ?_;have C:Below w1.heap.size w1 w1.drew:=(aJ _ _).drew;refine iH 5 9 rfl rfl (fun K c=>?_) (fun K c=>?_)
  .refine aY IJ rfl _ _ rfl (vals:=#[.slice a6 n a7,jb an ao am,.func (.func 94) #[] #[]]) rfl (cj.o ⟨w1.drew,C⟩) ?_;rintro e w3 ⟨rfl,A⟩;have f:Below w1.heap.size w1 w3:=C.trans A;refine⟨_,rfl,c _ _ (fun _ _=>⟨⟨_,f⟩,rfl⟩) ?_⟩;clear c K;refine aW [(6,false),(7,false),(8,false)] ⟨⟨_,f⟩,rfl⟩ rfl ?_;have av:Hid (Below w1.heap.size w1 (w3.alloc (.cells #[ae (x:Nat)] 3))):=f.alloc f.size _;have bK:=af (bY w3 (.cells #[ae (x:Nat)] 3));refine ay 9 rfl fun K c=>?_;go_simp;refine c _ _ (fun _ _=>⟨⟨_,f.alloc f.size _⟩,rfl⟩) ?_;clear c K;refine ay 10 rfl fun K c=>?_;go_simp;refine c _ _ (fun _ _=>⟨⟨_,av.o⟩,rfl⟩) ?_;clear c K;refine aF [11] ?_;clear f A;go_wp2;go_meet;exact⟨_,rfl,rfl,av.o,bK.o⟩
  .obtain⟨w2,bn⟩:∃w2,w2=(w1.alloc (.cells #[ae 0] 3)).drew:=⟨_,rfl⟩;have aO:Below w1.heap.size w1 w2:=by rw[bn];exact((aJ _ _).alloc (aA _) _).drew
   have ca:w2.heap[w1.heap.size]? =some (.cells #[ae 0] 3 (0,0)):=by rw[bn];exact bY w1 _
   go_simp;rw[<-bn];clear bn;refine c _ _ (fun _ _=>⟨⟨_,aO⟩,rfl⟩) ?_;clear c K;refine ay 5 rfl fun K c=>?_;refine aY IJ rfl _ _ rfl (vals:=#[.slice a6 n a7,jb an ao am,.func (.func 94) #[] #[]]) rfl (cj.o ⟨w2,aO⟩) ?_;rintro e w3 ⟨rfl,A⟩;have f:Below w1.heap.size w1 w3:=aO.trans (A.mono aO.size);have bE:=(A.block _ (bg.1 ca).1).trans ca;refine⟨_,rfl,c _ _ (fun _ _=>⟨⟨_,f⟩,rfl⟩) ?_⟩;clear c K;refine aW [(6,false),(7,false),(8,false)] ⟨⟨_,f⟩,rfl⟩ rfl ?_;have ap:w3.cell? (ag w1.heap.size 0)=some (ae 0):=aI bE;have aq:w3.frozen? (ag w1.heap.size 0)=false:=aI bE;have av:Hid (Below w1.heap.size w1 (w3.setCell (ag w1.heap.size 0) (.int .i64 (x:Nat)))):=⟨f.os,f.tape,f.output,aQ f.size,fun b O=>(aG (show w1.heap.size≠b by omega)).trans (f.block b O)⟩;have bK:Hid ((w3.setCell (ag w1.heap.size 0) (.int .i64 (x:Nat))).heap[w1.heap.size]? =some (.cells #[ae (x:Nat)] 3 (0,0))):=dC w3 _ 0 _ _ _ bE;refine ay 10 rfl fun K c=>?_;go_simp;refine c _ _ (fun _ _=>⟨⟨_,av.o⟩,rfl⟩) ?_;clear c K;refine aF [11] ?_;clear f A aO ca bE ap aq;go_wp2;go_meet;exact⟨_,rfl,rfl,av.o,bK.o⟩
 case rest=>
  obtain⟨z,rfl,rfl,cW,cV⟩:=hcut;have bQ:=cV.o;have D:=cW.o;have ar:Hid (Below w.heap.size w wc):=ba.o.trans (D.mono ba.o.size);have J:wc.cell? (ag z 0)=some (ae (x:Nat)):=aI bQ;have Z:z<wc.heap.size:=(bg.1 bQ).1;have aL:=(D.cell (p:=(ag tb 0)) cJ).trans aL;have t0:=(D.cell (p:=(ag tc 0)) b8).trans t0;have a1:=(D.cell (p:=(ag (tc+1) 0)) bA).trans a1;have a2:=(D.cell (p:=(ag (tc+1) 1)) bA).trans a2;have a3:=(D.cell (p:=(ag (tc+1) 2)) bA).trans a3;have y:tc<wc.heap.size:=cO b8 D.size;have bh:Hid (dz wc lo hi tb fb R h cnt V):=ci.o.below ar.o b6.2.2.2.2;have cC:=bh.o.blk;have bk:wc.cell? (ag tb 2)=some (aj fb):=aI cC;obtain⟨b,off,da,dk,v⟩:=(c5.o.below ar.o).get (by have:=l.o;omega);have cb:=v x bj.o 0 aa;have cc:=v x bj.o 1 aa;have cd:=v x bj.o 2 aa;rw[<-dK bj.o,c3.o]at cb cc cd;simp only[bX,eG,eQ,df]at cb cc cd;subst da;have dV:tb<wc.heap.size:=cO cJ D.size;clear v bQ D cC ci
  go_upto_region 4 with fail
  go_quiet (fail)
  obtain⟨w3,G⟩:∃w3,w3=wc.drewN nq:=⟨_,rfl⟩;have A:Below wc.heap.size wc w3:=by rw[G];exact Below.aX _ _
  have J:w3.cell? (ag z 0)=some (ae (x:Nat)):=by rw[G];exact J
  have t0:w3.cell? (ag tc 0)=some (aj tb):=by rw[G];exact t0
  have bk:w3.cell? (ag tb 2)=some (aj fb):=by rw[G];exact bk
  have aE:Hid (dz w3 lo hi tb fb R h cnt V):=bh.o.below A bh.o.fM.2.2.2.2;have bb:Hid (Below w.heap.size w w3):=ar.o.trans (A.mono ar.o.size);have Z:z<w3.heap.size:=by rw[G];exact Z
  have y:tc<w3.heap.size:=by rw[G];exact y
  go_upto_region 6 with fail
  rw[<-G];clear G A bh ar cb cc cd a1 a2 a3 aL dk;have C:Below w3.heap.size w3 w3.drew:=(aJ _ _).drew;have cg:=af (wI lo fb n x V.fv aa cL w3.drew (by rw[l.o];exact(aE.o.below C aE.o.fM.2.2.2.2).iU));have bp:=ah t0;have br:=ah bk;have bs:=ah J;refine au (fun W=>∃p:aR w3,W=p.W) [5,6,7,8,9,10] [(0,true),(1,false),(2,false),(3,true),(4,true)] ⟨⟨_,(aJ _ _).drew⟩,rfl⟩ 6 ?_;refine ay 5 rfl fun K c=>?_;refine aY Qq rfl _ _ rfl (vals:=#[aj fb,ae (x:Nat)]) rfl cg.o ?_;rintro e w4 ⟨pv,rfl,bC,cB⟩;have H:Below w3.heap.size w3 w4:=C.trans cB;refine⟨_,rfl,c _ _ (fun _ h=>absurd ax h) ?_⟩;clear c K;refine aW [(6,false),(7,false),(8,false)] ⟨⟨_,H⟩,rfl⟩ rfl ?_;refine aF [9,10] ?_;have bd:Hid (dz w4 lo hi tb fb R h cnt V):=aE.o.below H aE.o.fM.2.2.2.2;have bH:Hid (Below w.heap.size w w4):=bb.o.trans (H.mono bb.o.size);have t0:=(H.cell (p:=(ag tc 0)) y).trans t0;have J:=(H.cell (p:=(ag z 0)) Z).trans J;have y:tc<w4.heap.size:=cO y H.size;have Z:z<w4.heap.size:=cO Z H.size;obtain⟨P,aN⟩:∃P,P=(dU 0 n).path 0 x:=⟨_,rfl⟩;rw[<-aN]at bC;have dO:P.length<=n+1:=by
   have cw:=FT.pG (dU 0 n) 0 x;have bP:=wE 0 n n (wm (Fy));rw[aN];omega
  obtain⟨b9,dr,dn⟩:=bR 0 n al;have bt:=kH n al;rw[gm al]at bt;have cA:∀k∈P,k<(bf R.length).length:=fun k ac=>by
   rw[aN]at ac;obtain⟨⟨t,s⟩,dy,dx,-,-⟩:=FT.nM (dU 0 n) 0 x b9 aa aa k ac;have dj:FT.At (bf n) t s:=by rw[gm al];exact FT.lG _ 0 bt _ dy
   have:=dj.lt;simp only at dx;rw[<-l.o];omega
  have bB:=zO (lt:=AU R) (lb:=D9 R) (dU 0 n) 0 h x b9 (by have:=cq.o.ok (by have:=l.o;omega);rw[<-l.o]at this;exact this) aa aa;rw[<-aN]at bB;have bW:oU R h=held h (dU 0 n) 0:=by rw[oq (by have:=l.o;omega),l.o]
  have cm:Hid (((∀k∈P,h k≠some x)->x∉oU R h)/\∀m k:Nat,P[m]? =some k->h k=some x->(∀i<m,∀k',P[i]? =some k'->h k'≠some x)->∃E I,FT.At (bf R.length) E I/\k=E.root I/\Ea R x h=pullH (D9 R) E I h/\x∈oU R h):=by
   refine⟨fun cx=>by rw[bW];exact bB.1 cx,fun m k cw bP dg=>?_⟩;obtain⟨E,I,a4,a5,bF⟩:=bB.2 m k cw bP dg;refine⟨E,I,?_,a5,?_,?_⟩
   .rw[<-l.o,gm al];exact FT.lG _ 0 bt _ a4
   .unfold Ea;rw[<-l.o];exact bF
   .rw[bW];refine Dk _ a4 x ?_;obtain⟨L,c9⟩:=qf (t:=E) (s:=I) (h:=h) (by rw[<-a5];exact bP);rw[c9];simp
  obtain⟨cN,cP,rfl,-,-,b4⟩:=Rd.aD (enc:=fT) bC;have co:Hid (w4.ownsRow w3.heap.size 3 1 (.slice cN P.length cP) P.length (P.map fT)):=bM bC (aA _);have dS:w.heap.size<=w3.heap.size:=bb.o.size;have c6:=af b4;have cf:=af (Qp bd.o (by have:=l.o;omega) tc z x t0 J P cA cN cP b4 aa);clear bB bW cA aN b9 dr dn bt bC b4 H cB C bp br bs cg aE bb bk
  go_wp2_with fail
  refine cf.o.mono ?_;rintro e F ⟨dY,rfl,ab,dl⟩;have be:Hid (dz F lo hi tb fb R h cnt V):=bd.o.below ab bd.o.fM.2.2.2.2;have bI:Hid (Below w.heap.size w F):=bH.o.trans (ab.mono bH.o.size);have t0:=(ab.cell (p:=(ag tc 0)) y).trans t0;have y:tc<F.heap.size:=cO y ab.size;have bL:=af (az co.o ab);clear ab cf bd bH c6 J Z;rcases dl with⟨rfl,cG⟩|⟨j,k,rfl,bx,b1,cD⟩
  .have T:Hid (KO w lo hi tb fb R h cnt V x (.returned (.bool false)) F):=.inl ⟨cm.o.1 cG,rfl,bI.o⟩;clear cG;go_wp2;go_ret;exact T.o
  .obtain⟨E,I,a4,a5,bF,cQ⟩:=cm.o.2 j k bx b1 cD;have dp:j<P.length:=(fI.1 bx).1;have cz:P[j]=k:=(fI.1 bx).2;have cU:=af a4;have c0:=af a5;have c2:=af bF;have cX:=af cQ;have bS:=be.o.blk;have c8:F.cell? (ag tb 5)=some (ae cnt):=aI bS;have dF:F.frozen? (ag tb 5)=false:=aI bS;have dJ:decide ((j:Int)<0)=false:=ax;have dT:=be.o.GV;have cF:j<P.length:=dp;have c4:=af cz;clear cz bS a4 a5 bF cQ bx b1 cD
   go_upto_region 11 with fail
   obtain⟨w6,bo⟩:∃w6,w6=F.setCell (ag tb 5) (.int .i64 (cnt-1)):=⟨_,rfl⟩;have c1:Hid (dz w6 lo hi tb fb R h (cnt-1) V):=by rw[bo];exact be.o.CY (cnt-1)
   have aT:aB (fun k=>k=tb) F w6:=by rw[bo];exact(aB.refl (fun k=>k=tb) F).set (a:=(ag tb 5)) _ (.inl rfl)
   have cZ:Hid (aB (fun k=>lo<=k/\k<hi) w w6):=((aB.refl _ w).below bI.o).trans (aT.mono fun k h=>by subst h;exact⟨b6.1,b6.2.1⟩);have dv:tc≠tb:=by have:=cp.o;omega
   have t0:=((di aT y dv).1 0).trans t0;have y:tc<w6.heap.size:=cO y aT.size;have bD:=aU bL.o aT (fun g e cx=>by have:=(bL.o.lt g e).1;omega);obtain⟨dN,dI,cv,-,-⟩:=aS bD aa;rw[cv]at bD;injection cv with db dc dd;have cS:=bD.cellAt j aa;rw[ib,cK cF,c4.o]at cS;simp only[eP,fT]at cS;rw[<-bo];subst db;clear bo c8 dF aT bD dc dd be bI bL co cF
   go_wp2_with fail
   go_loopg [10] E.size (fun dA dB wr=>∃(t:FT) (s:Nat) (u:iV),dB=.int .i64 (t.root s:Nat)/\t.size<=dA/\Hid (FT.At (bf R.length) t s)/\Hid (dz wr lo hi tb fb R u (cnt-1) V)/\Hid (pullH (D9 R) t s u=Ea R x h)/\Hid (∀k i,k<(bf R.length).length->u k=some i->i<R.length)/\Hid (aB (fun k=>lo<=k/\k<hi) w wr)/\wr.cell? (ag tc 0)=some (aj tb))
   case atStart=>exact⟨E,I,h,by rw[c0.o],aA _,cU,c1,c2.o.symm,fun k i ac e=>cq.o.pl ac e,cZ,t0⟩
   case round=>
    obtain⟨t,s,u,rfl,b1,bG,U,bN,bc,ck,a8⟩:=hrel;have S:=af (II U.o (by have:=l.o;omega) bG.o bc.o);have dt:=NK (lb:=D9 R) (h:=u) bG.o;have ad:=bG.o.lt;have dX:=U.o.GV;have aZ:tc<wr.heap.size:=iF wr _ a8;rcases dt with⟨aM,X⟩|⟨t2,ce,i,aM,X,cr,cs,ct⟩
    .rw[aM]at S;have bi:=af X;clear aM X
     go_wp2_with fail
     refine S.o.mono ?_;rintro e d ⟨rfl,B⟩;have r:Hid (dz d lo hi tb fb R u (cnt-1) V):=U.o.below B U.o.fM.2.2.2.2;have aw:Hid (aB (fun k=>lo<=k/\k<hi) w d):=ck.o.below B;have t7:=(B.cell (p:=(ag tc 0)) aZ).trans a8;obtain⟨q,ch,N,bT,bU,-,-,dm,v,-⟩:=r.o.holds (by have:=l.o;omega);obtain⟨ap,aq⟩:=v _ ad;have Q:=r.o.blk;rw[N]at Q;have bl:d.cell? (ag tb 4)=some (aC q (bf R.length).length ch):=aI Q;have T:Hid (KO w lo hi tb fb R h cnt V x (.returned (.bool true)) (d.setCell (ag q (t.root s)) (.int .i64 (-1)))):=by
      refine .inr ⟨cX.o,rfl,?_,aw.o.set (a:=(ag q (t.root s))) _ (.inl ⟨bT,bU⟩)⟩;have:=r.o.ou N ad none;rw[<-bi.o,bN.o]at this;exact this
     clear B Q v N r aw S a8 aZ;generalize t.root s=kr at*;generalize(bf R.length).length=M at*;go_wp2;go_ret;exact T.o
    .rw[aM]at S;have bi:=af ct;have cT:=af X;have c7:=af cr;have bJ:=af cs;have bz:=X.lt;clear aM X cr cs ct
     go_wp2_with fail
     refine S.o.mono ?_;rintro e d ⟨rfl,B⟩;have r:Hid (dz d lo hi tb fb R u (cnt-1) V):=U.o.below B U.o.fM.2.2.2.2;have aw:Hid (aB (fun k=>lo<=k/\k<hi) w d):=ck.o.below B;have t7:=(B.cell (p:=(ag tc 0)) aZ).trans a8;have du:tc<d.heap.size:=cO aZ B.size;obtain⟨q,ch,N,bT,bU,-,-,dm,v,-⟩:=r.o.holds (by have:=l.o;omega);obtain⟨ap,aq⟩:=v _ ad;obtain⟨y1,-⟩:=v _ bz;rw[bJ.o]at y1;simp only[oW]at y1;have Q:=r.o.blk;rw[N]at Q;have bl:d.cell? (ag tb 4)=some (aC q (bf R.length).length ch):=aI Q;have dW:=r.o.GV;have dR:=bc.o _ i bz bJ.o;have T:Hid (∀a9,a9=d.drew.setCell (ag q (t.root s)) (.int .i64 (i:Nat))->dz a9 lo hi tb fb R (gU u (t.root s) (some i)) (cnt-1) V/\aB (fun k=>lo<=k/\k<hi) w a9/\a9.cell? (ag tc 0)=some (aj tb)):=fun a9 de=>by
      subst de;have C:Below d.heap.size d d.drew:=(aJ _ _).drew;have ds:=r.o.below C r.o.fM.2.2.2.2;refine⟨ds.ou N ad (some i),(aw.o.below C).set (a:=(ag q (t.root s))) _ (.inl ⟨bT,bU⟩),?_⟩;have dq:aB (fun k=>k=q) d.drew (d.drew.setCell (ag q (t.root s)) (.int .i64 (i:Nat))):=(aB.refl (fun k=>k=q) _).set (a:=(ag q (t.root s))) _ (.inl rfl);exact((di dq (show tc<d.drew.heap.size from du) (by have:=cp.o;omega)).1 0).trans t7
     have cl:Hid (∀k j,k<(bf R.length).length->gU u (t.root s) (some i) k=some j->j<R.length):=fun k j ac aP=>by
      by_cases e:k=t.root s
      .subst e;rw[gG]at aP;injection aP with aP;omega
      .rw[iL e]at aP;exact bc.o k j ac aP
     have cn:Hid (pullH (D9 R) t2 ce (gU u (t.root s) (some i))=Ea R x h):=by
      show _=_;rw[<-bi.o];exact bN.o
     clear B Q v N r aw S a8 aZ bi bJ bc bN;obtain⟨kr,b0⟩:∃kr,kr=t.root s:=⟨_,rfl⟩;obtain⟨cM,bZ⟩:∃cM,cM=t2.root ce:=⟨_,rfl⟩;obtain⟨M,cy⟩:∃M,M=(bf R.length).length:=⟨_,rfl⟩;rw[<-b0]at ap aq ad T cn cl |-;rw[<-bZ]at y1 bz |-;rw[<-cy]at bl ad bz;have cY:=af bZ;have dH:=af b0;clear b0 bZ cy;have bp:=ah t7;have br:=ah bl;have bs:=ah y1
     go_upto_region 16 with fail
     refine au (fun W=>∃p:aR d,W=p.W) [12,13] [(0,true),(1,false),(2,false),(3,true),(4,false),(5,true),(6,false),(7,false),(8,true),(9,false),(10,false),(11,true)] ⟨⟨_,(aJ _ _).drew⟩,rfl⟩ 2 ?_;refine aF [12,13] ?_;have ap:d.drew.cell? (ag q kr)=some (ae (oW (u kr))):=ap;have aq:d.drew.frozen? (ag q kr)=false:=aq;clear bp br bs y1 t7 bl;generalize d.drew=dZ at*;go_wp2
     go_roundg (t2.size)
     case measure=>have:=c7.o;omega
     case rel=>
      obtain⟨f1,f2,f3⟩:=T.o _ rfl;exact⟨t2,ce,_,by rw[cY.o],aA _,cT,f1,cn,cl,f2,f3⟩
theorem NL {P:Program} {ops:Array Oper} {rest:List Oper} {op:Oper} {a:Act} {Q:Exit->Act->World->Prop} {α:Type} {enc:α->Value} {t e:TypeId} {bytes:Nat} (g:eY P t e 1 bytes) {W:World} {ad:Option Addr} {l:List α} {c n:Nat} (p:Rd enc W ad l) (r:l.length=n) (k:n<=c) (lo hi:Nat) (i:lo<=hi) (j:hi<=n)
  (m:op.guard=none) (x:Operand) (d b:Option Operand) (s:op.op=.slice t x d b none) (u:a.eval x=.slice ad n c)
  (q:(d.map a.eval).getD (.int .i64 0)=.int .i64 lo) (o:(b.map a.eval).getD (.int .i64 n)=.int .i64 hi)
  (h:∀f,bV (fun x=>[enc x]) 1 W f ((l.take hi).drop lo)->wpList P ops Q rest (a.put op.dst (.slice f (hi-lo) (c-lo))) W):wpList P ops Q (op::rest) a W:=by
 subst r;exact zo g p.WT k lo hi i j m x d b s u q o h
theorem Rd.XL {α:Type} {enc:α->Value} {w:World} {a:Option Addr} {l:List α} (h:bV (fun x=>[enc x]) 1 w a l):Rd enc w a l:=by
 rcases h with h|⟨b,off,rfl,c,d⟩
 .exact .inl h
 .exact .inr ⟨b,off,rfl,c,fun i hi=>by simpa using d i hi 0 aa⟩
def Vy (a:Option Addr) (v:Value):Prop:=∀ad,a=some ad->v.ownBlock≠some ad.block
def Dl (W:World) (lo hi tb fb:Nat) (R:List Pt) (h':iV) (cnt:Int) (V:mQ) (e:Ending) (w':World):Prop:=
 e=.returned (.tuple #[])/\dz w' lo hi tb fb R h' cnt V/\aB (fun k=>V.hv.ownBlock=some k) W w'
theorem rW (p:Nat->Bool) (L:List Nat) {i:Nat} (h:i<L.length):(L.take (i+1)).filter p=(L.take i).filter p++(if p L[i]then[L[i]]else[]):=by
 rw[gT h,kW];congr 1;rw[lT];split<;>rfl
theorem Dm {lo hi tb fb:Nat} {R:List Pt} {cnt:Int} {V:mQ} (dy:R.length<=20000) (t:FT) (s:Nat) (bo:FT.At (bf R.length) t s) (bE:t.wf) (dG:t.hi<=R.length) (L:List Nat) (W:World) (h:iV) (x:Option Addr) (P:Nat)
  (H:dz W lo hi tb fb R h cnt V) (hp:Rd fT W x L) (cp:L.length<=20000) (bs:L.length<=P) (cv:Vy x V.hv) (cd:∀i∈L,i<=1000000)
  (bD:∀l r,t=.node l r->(∀(L:List Nat) (W:World) (h:iV) (x:Option Addr) (P:Nat),dz W lo hi tb fb R h cnt V->Rd fT W x L->L.length<=20000->L.length<=P->Vy x V.hv->(∀i∈L,i<=1000000)->
    aK 101 #[aj tb,ae (l.root s:Nat),.slice x L.length P] W (Dl W lo hi tb fb R (fillH l s L h) cnt V))/\
    ∀(L:List Nat) (W:World) (h:iV) (x:Option Addr) (P:Nat),dz W lo hi tb fb R h cnt V->Rd fT W x L->L.length<=20000->L.length<=P->Vy x V.hv->(∀i∈L,i<=1000000)->
    aK 101 #[aj tb,ae (r.root (s+l.size):Nat),.slice x L.length P] W (Dl W lo hi tb fb R (fillH r (s+l.size) L h) cnt V)):
  aK 101 #[aj tb,ae (t.root s:Nat),.slice x L.length P] W (Dl W lo hi tb fb R (fillH t s L h) cnt V):=by
 have a4:=bo.lt;have bl:0<R.length:=by have:=t.fF bE;omega
 cases L with
 |nil=>
  rw[zM];have cP:Hid (Dl W lo hi tb fb R h cnt V (.returned (.tuple #[])) W):=⟨rfl,H,aB.refl _ _⟩;clear H hp bD;simp only[fE];go_enter func101,ntmps101;go_wp2
  go_end0
  exact cP.o
 |cons i L=>
  obtain⟨a1,off,cn,env,aN⟩:=H.nodes bl;obtain⟨f,ch,Z,dC,dD,-,-,c6,az,-⟩:=H.holds bl;obtain⟨a8,a9⟩:=az _ a4;have bp:=H.blk;rw[env,Z]at bp;have bj:W.cell? (ag tb 4)=some (aC f (bf R.length).length ch):=aI bp;obtain⟨b,o,ar,ce,bz⟩:=hp.get ax;have aO:=bz 0 ax;simp only[ni,fT,df]at aO;have dc:b≠f:=fun e=>by
   have:=cv _ ar;rw[Z]at this;exact this (by rw[e];rfl)
  obtain⟨w1,av⟩:∃w1,w1=W.drew.setCell (ag f (t.root s)) (.int .i64 (i:Nat)):=⟨_,rfl⟩;have a3:aB (fun k=>k=f) W w1:=by rw[av];exact((aB.refl (fun k=>k=f) W).drew).set (a:=(ag f (t.root s))) _ (.inl rfl)
  have am:Hid (dz w1 lo hi tb fb R (gU h (t.root s) (some i)) cnt V):=by
   rw[av];exact(H.below (aJ W.heap.size W).drew H.fM.2.2.2.2).ou Z a4 (some i)
  have bT:Hid (aB (fun k=>V.hv.ownBlock=some k) W w1):=a3.mono fun k e=>by subst e;rw[Z];rfl
  have cw:Rd fT w1 (some (ag b o)) (i::L):=.inr ⟨b,o,rfl,cO ce a3.size,fun j cl=>((di a3 ce dc).1 _).trans (bz j cl)⟩;have cM:=af cw;have bb:=af cd;have bi:=af bD;have aP:=af bo;have bd:=af Z;have cQ:=af bE;have c5:(bf R.length).length<=40000:=by rw[dB];omega
  simp only[eH]at cp bs |-;have d0:(((L.length+1:Nat):Int)==0)=false:=by first|(simp;done)|(simp;omega)
  subst ar;clear az bp env Z H hp bz cv cd bD a3 cw bo aN bE;obtain⟨n,bw⟩:∃n,n=L.length:=⟨_,rfl⟩;have an:=af bw;rw[<-bw]at cp bs d0 |-;obtain⟨K,bm⟩:∃K,K=t.root s:=⟨_,rfl⟩;have cF:=af bm;obtain⟨M,bn⟩:∃M,M=(bf R.length).length:=⟨_,rfl⟩;have bV:=af bn;rw[<-bm]at a8 a9 a4 av |-;rw[<-bn]at bj a4 c5;clear bw bm bn;have c2:=ah bj;have c3:=ah aO;go_enter func101,ntmps101
  go_upto_region 1 with fail
  refine au (fun W'=>∃p:aR W,W'=p.W) [8,9] [(0,false),(1,false),(2,false),(3,true),(4,false),(5,false),(6,false),(7,true)] ⟨⟨_,(aJ _ _).drew⟩,rfl⟩ 2 ?_;refine aF [8,9] ?_;have a8:W.drew.cell? (ag f K)=some (ae (oW (h K))):=a8;have a9:W.drew.frozen? (ag f K)=false:=a9;clear c2 c3 bj aO
  go_upto_region 2 with fail
  rw[show(W.setCell (ag f K) (.int .i64 (i:Nat))).drew=w1 by rw[av];rfl];clear av a8 a9;obtain⟨a1,off,cn,env,aN⟩:=am.o.nodes bl;have bq:=am.o.blk;rw[env]at bq;have b3:w1.cell? (ag tb 3)=some (.slice (some (ag a1 off)) M cn):=by simp[World.cell?,bq];exact bV.o.symm
  obtain⟨c7,n0,bF,bG,bK,bL,cD,bM⟩:=nJ aN aP.o.get;rw[<-cF.o]at n0 bF bG bK bL cD bM;have de:=am.o.GV;have bZ:=af aN;obtain⟨d,hd⟩:∃d,d=t.top s:=⟨_,rfl⟩;rw[<-hd]at n0 bF bG bK bL bM;have aQ:=af hd;clear hd;obtain⟨w2,a0⟩:∃w2,w2=w1.alloc (.cells #[.int .u8 d.kind,ae d.l,ae d.r,ae d.fr,ae d.Lu,ae 0,ae d.item] 163):=⟨_,rfl⟩;have ab:Below w1.heap.size w1 w2:=by rw[a0];exact(aJ _ _).alloc (aA _) _
  have aL:w2.heap[w1.heap.size]? =some (.cells #[.int .u8 d.kind,ae d.l,ae d.r,ae d.fr,ae d.Lu,ae 0,ae d.item] 163 (0,0)):=by rw[a0];exact bY w1 _
  have aO:w2.cell? (ag w1.heap.size 0)=some (.int .u8 d.kind):=aI aL;have x1:w2.cell? (ag w1.heap.size 1)=some (ae d.l):=aI aL;have x2:w2.cell? (ag w1.heap.size 2)=some (ae d.r):=aI aL;have aM:=(ab.cell (p:=(ag tb 3)) de).trans b3;have al:w1.heap.size<w2.heap.size:=(bg.1 aL).1;have bS:=af ab;have aV:Hid (dz w2 lo hi tb fb R (gU h (t.root s) (some i)) cnt V):=am.o.below ab am.o.fM.2.2.2.2;have bU:Hid (aB (fun k=>V.hv.ownBlock=some k) W w2):=bT.o.below ab;have cN:Hid (Rd fT w2 (some (ag b o)) (i::L)):=cM.o.below ab;clear env aN bq ab aL
  go_upto_region 3 with fail
  rw[<-a0];clear a0 n0 bF bG bK bL cD bM b3;cases t with
  |leaf a=>
   have d1:(d.kind !=(2:Int))=true:=by rw[aQ.o];rfl
   have bc:Hid (Dl W lo hi tb fb R (fillH (.leaf a) s (i::L) h) cnt V (.returned (.tuple #[])) w2):=⟨rfl,aV.o,bU.o⟩;clear x1 x2 bi;go_wp2
   go_end0
   exact bc.o
  |node l r=>
   have d1:(d.kind !=(2:Int))=false:=by rw[aQ.o];rfl
   have cq:=aP.o.left.lt;have cA:=aP.o.right.lt;have ci:d.l=((l.root s:Nat):Int):=by rw[aQ.o];show((s+l.size:Nat):Int)-1=_;unfold FT.root;have:=l.size_pos;omega
   have cj:d.r=((r.root (s+l.size):Nat):Int):=by rw[aQ.o];show((s+l.size+r.size:Nat):Int)-1=_;unfold FT.root;have:=r.size_pos;omega
   rw[ci]at x1;rw[cj]at x2;obtain⟨b0,b1⟩:=bi.o l r rfl;have be:=af b0;have bh:=af b1;obtain⟨m0,m1,m2,m3,m4,N,dj,dk⟩:=nJ (bZ.o.below bS.o) aP.o.left.get;rw[FT.wF]at N;have bv:=cQ.o;have db:l.hi<=20000:=by
    have:=FT.fF r bv.2.1;have ay:(FT.node l r).hi=r.hi:=rfl;have:=bv.2.2;omega
   have cI:Hid (∃c,c=l.hi):=⟨_,rfl⟩;rw[<-bV.o]at cq cA;clear ci cj b0 b1 bi m1 m2 m3 m4 dj dk bv bZ;have bX:Hid (fillH (.node l r) s (i::L) h=fillH r (s+l.size) (L.filter fun j=>!decide (j<l.hi)) (fillH l s (L.filter fun j=>decide (j<l.hi)) (gU h ((FT.node l r).root s) (some i)))):=rfl;obtain⟨c,cr⟩:∃c,c=l.hi:=⟨_,rfl⟩;obtain⟨kl,cm⟩:∃kl,kl=l.root s:=⟨_,rfl⟩;obtain⟨kr,co⟩:∃kr,kr=r.root (s+l.size):=⟨_,rfl⟩;rw[<-cr]at N db bX;rw[<-cm]at N x1 be cq;rw[<-co]at x2 bh cA;clear cr cm co cI
   go_upto_region 5 with fail
   have cs:(i::L).length=n+1:=by simp[an.o]
   have bW:=af cs;clear cs
   go_wp2_with (refine NL nX cN.o bW.o bs 1 (n+1) aa (aA _) rfl _ _ _ rfl rfl rfl rfl ?_;intro cR cx;simp only[Fz])
   have b5:Rd fT w2 cR L:=by
    have y:=Rd.XL cx;rw[<-bW.o,iE]at y;exact y
   have cJ:=af b5;clear cx b5;obtain⟨O,cu⟩:∃O,O=w1.heap.size:=⟨_,rfl⟩;have ck:f<w1.heap.size:=cO c6 bT.o.size;rw[<-cu]at aO x1 x2 al ck |-;clear cu;have dg:tb<w2.heap.size:=aV.o.GV;have c8:a1<w2.heap.size:=cO c7 bS.o.size;have c9:hi<=w2.heap.size:=aV.o.fM.2.2.2.2
   go_loopg [7,8,36] n (fun dh dm dn dl wr=>∃(j:Nat) (a5 a6:Value),dl=.int .i64 j/\dm=a5/\dn=a6/\j<=n/\n-j<=dh/\Hid (Below w2.heap.size w2 wr)/\
    Hid (wr.ownsRow w2.heap.size 3 1 a5 ((L.take j).filter fun k=>decide (k<c)).length (((L.take j).filter fun k=>decide (k<c)).map fT))/\
    Hid (wr.ownsRow w2.heap.size 3 1 a6 ((L.take j).filter fun k=>!decide (k<c)).length (((L.take j).filter fun k=>!decide (k<c)).map fT))/\Hid (∀g,a5.ownBlock=some g->a6.ownBlock≠some g))
   case atStart=>exact⟨0,_,_,rfl,rfl,rfl,aT _,aa,aJ _ _,cZ _ _ _ _,cZ _ _ _ _,fun g h=>by cases h⟩
   case round=>
    obtain⟨j,a5,a6,rfl,rfl,rfl,cl,dI,u,J,D,I⟩:=hrel;obtain⟨aY,aZ,rfl⟩:=fK J.o;obtain⟨aq,cb,rfl⟩:=fK D.o;by_cases dJ:j<n
    .have aG:j<L.length:=by have:=an.o;omega
     obtain⟨ds,dK,ar,dA,az⟩:=(cJ.o.below u.o).get aa;have a7:=az j aG;simp only[fT]at a7;have ao:=af (rW (fun k=>decide (k<c)) L aG);have ap:=af (rW (fun k=>!decide (k<c)) L aG);have da:=bb.o L[j] (lM _ (bC aG));obtain⟨k,ac⟩:∃k,k=L[j]:=⟨_,rfl⟩;rw[<-ac]at a7 ao ap da;have bt:((L.take j).filter fun k=>decide (k<c)).length<=n:=bA (fq _ _) (by rw[dO];omega);have bu:((L.take j).filter fun k=>!decide (k<c)).length<=n:=bA (fq _ _) (by rw[dO];omega);generalize(L.take j).filter (fun k=>decide (k<c))=A at*;generalize(L.take j).filter (fun k=>!decide (k<c))=B at*;have aM:=(u.o.cell (p:=(ag tb 3)) dg).trans aM;have x1:=(u.o.cell (p:=(ag O 1)) al).trans x1;have N:=(u.o.cell (p:=(ag a1 (off+kl*7+4))) c8).trans N;have bR:=af ar;clear az ac ar;obtain⟨z,ai⟩:∃z,z=A.length:=⟨_,rfl⟩;obtain⟨C,ak⟩:∃C,C=B.length:=⟨_,rfl⟩;rw[<-ai]at bt J I |-;rw[<-ak]at bu D I |-;have aW:Hid (z=A.length/\C=B.length):=⟨ai,ak⟩;clear ai ak;have F:∀q,Below w2.heap.size w2 (wr.drewN q)/\(wr.drewN q).ownsRow w2.heap.size 3 1 (.slice aY z aZ) z (A.map fT)/\(wr.drewN q).ownsRow w2.heap.size 3 1 (.slice aq C cb) C (B.map fT)/\w2.heap.size<=(wr.drewN q).heap.size:=fun q=>
      ⟨u.o.trans ((Below.aX _ q).mono u.o.size),J.o.aX q,D.o.aX q,u.o.size⟩
     have aS:=af F;clear F;obtain rfl:=bR.o;clear bR J D aG;by_cases dH:k<c
     .have cS:decide ((k:Int)<(c:Int))=true:=aH;have bk:decide (k<c)=true:=aH;rw[bk]at ao ap
      go_upto_region 8 with fail
      go_quiet (fail)
      obtain⟨f1,f2,f3,f4⟩:=aS.o nq;have Q:=af f1;have S:=af f2;have T:=af f3;obtain⟨G,aw⟩:∃G,G=wr.drewN nq:=⟨_,rfl⟩;rw[<-aw]at Q S T f4 |-;clear aw f1 f2 f3 aS aM x1 N a7
      go_wp2_with (at_builtin;refine cB nX w2.heap.size S.o [.int .i64 k] rfl (by simp[Value.oneCell']) rfl _ _ rfl rfl _ rfl dE aa f4 ?_;intro bO w6 bx aE br)
      go_roundg (n-(j+1))
      case measure=>omega
      case rel=>
       have cC:∀g,(Value.slice aq C cb).ownBlock=some g->(Value.slice aY z aZ).ownBlock≠some g:=fun g E w=>I.o g w E;have K:aB (fun q=>(Value.slice aY z aZ).ownBlock=some q) G w6:=(aB.refl _ G).grown aE (fun q bB=>.inl bB);refine⟨j+1,bO,_,by go_num,rfl,rfl,aa,aA _,bH Q.o S.o aE Q.o.size (aA _),?_,?_,?_⟩
       .show World.ownsRow _ _ _ _ _ _ _;rw[ao.o];simp only[gJ];rw[bJ,bQ,<-aW.o.1];exact bx
       .show World.ownsRow _ _ _ _ _ _ _;rw[ap.o];simp only[y5,pq,jC,je];rw[<-aW.o.2];exact aU T.o K (fun g E w=>cC g E w)
       .intro g e y;rcases gy br with Y|⟨q,Y,c4⟩
        .exact cC g y (Y▸e)
        .rw[Y]at e;injection e with e;have:=(T.o.lt g y).2;omega
     .have cS:decide ((k:Int)<(c:Int))=false:=aH;have bk:decide (k<c)=false:=aH;rw[bk]at ao ap
      go_upto_region 8 with fail
      go_quiet (fail)
      obtain⟨f1,f2,f3,f4⟩:=aS.o nq;have Q:=af f1;have S:=af f2;have T:=af f3;obtain⟨G,aw⟩:∃G,G=wr.drewN nq:=⟨_,rfl⟩;rw[<-aw]at Q S T f4 |-;clear aw f1 f2 f3 aS aM x1 N a7
      go_wp2_with (at_builtin;refine cB nX w2.heap.size T.o [.int .i64 k] rfl (by simp[Value.oneCell']) rfl _ _ rfl rfl _ rfl dE aa f4 ?_;intro bO w6 bx aE br)
      go_roundg (n-(j+1))
      case measure=>omega
      case rel=>
       have K:aB (fun q=>(Value.slice aq C cb).ownBlock=some q) G w6:=(aB.refl _ G).grown aE (fun q bB=>.inl bB);refine⟨j+1,_,bO,by go_num,rfl,rfl,aa,aA _,bH Q.o T.o aE Q.o.size (aA _),?_,?_,?_⟩
       .show World.ownsRow _ _ _ _ _ _ _;rw[ao.o];simp only[pq,jC,je];rw[<-aW.o.1];exact aU S.o K (fun g E w=>I.o g E w)
       .show World.ownsRow _ _ _ _ _ _ _;rw[ap.o];simp only[Bool.not_false,gJ];rw[bJ,bQ,<-aW.o.2];exact bx
       .intro g e y;rcases gy br with Y|⟨q,Y,c4⟩
        .exact I.o g e (Y▸y)
        .rw[Y]at y;injection y with y;have:=(S.o.lt g e).2;omega
    .obtain rfl:j=n:=aa;have b9:L.take j=L:=by rw[an.o,iE]
     rw[b9]at J D I |-;have cK:Hid (dz wr lo hi tb fb R (gU h ((FT.node l r).root s) (some i)) cnt V):=aV.o.below u.o c9;have cG:Hid (aB (fun k=>V.hv.ownBlock=some k) W wr):=bU.o.below u.o;have ca:∀k∈L.filter (fun k=>decide (k<c)),k<=1000000:=fun k ac=>bb.o k (lM _ (bI.1 ac).1);have cc:∀k∈L.filter (fun k=>!decide (k<c)),k<=1000000:=fun k ac=>bb.o k (lM _ (bI.1 ac).1);have bt:(L.filter fun k=>decide (k<c)).length<=j:=bA (fq _ _) (by rw[an.o];exact aA _);have bu:(L.filter fun k=>!decide (k<c)).length<=j:=bA (fq _ _) (by rw[an.o];exact aA _);generalize L.filter (fun k=>decide (k<c))=A at*;generalize L.filter (fun k=>!decide (k<c))=B at*;have x1:=(u.o.cell (p:=(ag O 1)) al).trans x1;have x2:=(u.o.cell (p:=(ag O 2)) al).trans x2;have dd:O<wr.heap.size:=cO al u.o.size;obtain⟨dq,dt,cT,-,cf,cy⟩:=Rd.aD (enc:=fT) J.o;injection cT with cU cV cW;subst cU cW;have dF:f<w2.heap.size:=wo ck al;have bN:∀{v:Value} {m:Nat} {X:List Value} {a:Option Addr} {n' b2:Nat} {w':World},w'.ownsRow w2.heap.size 3 1 v m X->v=.slice a n' b2->Vy a V.hv:=fun{v m X a n' b2 w'} E w ad e ay=>by
      subst w e;rcases E.2 with⟨U,-⟩|⟨g,dv,dw,U,dx,-⟩
      .cases U
      .injection U with U;injection U with U;subst U;rw[bd.o]at ay;injection ay with ay;simp only at ay;omega
     have ba:=af (be.o A wr _ aY aZ cK.o cy aa cf (bN J.o rfl) ca);have cE:=af cc;have cL:Hid (Vy aq V.hv):=bN D.o rfl;clear b9 cy J bN ca cc be N aM cV;obtain⟨z,ai⟩:∃z,z=A.length:=⟨_,rfl⟩;rw[<-ai]at ba cf bt I |-;clear ai
     go_wp2_with fail
     refine ba.o.mono ?_;rintro e w6 ⟨rfl,b6,a2⟩;have ct:¬V.hv.ownBlock=some O:=fun e=>by
      rw[bd.o]at e;have e:f=O:=BU e;omega
     have x2:=((di a2 dd ct).1 2).trans x2;have b8:=aU D.o a2 (fun g E w=>by
      rw[bd.o]at w;have w:f=g:=BU w;have:=(D.o.lt g E).1;omega)
     obtain⟨dr,du,cX,-,cg,cz⟩:=Rd.aD (enc:=fT) b8;injection cX with cY c0 c1;subst cY c1;have bP:=af (bh.o B w6 _ aq cb b6 cz aa cg cL.o cE.o);have cH:Hid (aB (fun k=>V.hv.ownBlock=some k) W w6):=cG.o.trans a2;clear b8 cz b6 a2 ct ba bh D c0;obtain⟨C,ak⟩:∃C,C=B.length:=⟨_,rfl⟩;rw[<-ak]at bP cg bu I |-;clear ak
     go_wp2_with fail
     refine bP.o.mono ?_;rintro e dp ⟨rfl,b7,b4⟩;have bc:Hid (Dl W lo hi tb fb R (fillH (.node l r) s (i::L) h) cnt V (.returned (.tuple #[])) dp):=by
      rw[bX.o];exact⟨rfl,b7,cH.o.trans b4⟩
     clear b7 b4;go_wp2
     go_end0
     exact bc.o
theorem NM {lo hi tb fb:Nat} {R:List Pt} {cnt:Int} {V:mQ} (o:R.length<=20000):∀(t:FT) (s:Nat),FT.At (bf R.length) t s->t.wf->t.hi<=R.length->∀(L:List Nat) (W:World) (h:iV) (b:Option Addr) (c:Nat),
  dz W lo hi tb fb R h cnt V->Rd fT W b L->L.length<=20000->L.length<=c->Vy b V.hv->(∀i∈L,i<=1000000)->
  aK 101 #[aj tb,ae (t.root s:Nat),.slice b L.length c] W (Dl W lo hi tb fb R (fillH t s L h) cnt V):=by
 intro t
 induction t with
 |leaf a=>exact fun s m k n L W h b c H hp d f g j=>Dm o _ s m k n L W h b c H hp d f g j (fun l r e=>by cases e)
 |node l r p q=>
  intro s m k n L W h b c H hp d f g j;refine Dm o _ s m k n L W h b c H hp d f g j fun l' x e=>?_;cases e;have u:=FT.fF r k.2.1;have v:=k.2.2;have w:(FT.node l r).hi=r.hi:=rfl;exact⟨fun L W h b c H hp d f g j=>p s m.left k.1 aa L W h b c H hp d f g j,fun L W h b c H hp d f g j=>q _ m.right k.2.1 aa L W h b c H hp d f g j⟩
theorem IL:∃i,Tryz.prog.info? 3=some i/\i.zero=some (.int .i64 0)/\i.size=1/\i.bytes=8:=by
 have h:(Tryz.prog.info? 3).map (fun i=>(i.zero,i.size,i.bytes))=some (some (.int .i64 0),1,8):=aL;cases hi:Tryz.prog.info? 3 with
 |none=>rw[hi]at h;cases h
 |some i=>rw[hi]at h;injection h with h;injection h with b a;injection a with a c;exact⟨i,rfl,b,a,c⟩
theorem IM:(Tryz.prog.info? 3).map (·.size)=some 1:=by
 have⟨i,a,c,b,d⟩:=IL;rw[a];simp[b]
theorem Mf (n:Nat) (d:n<=1000000) (W:World):(Instr.makeSlice 148 (.int .i64 n) (.int .i64 n)).run prog W=.ok (aC W.heap.size n n) (W.alloc (.cells (madeCells #[ae 0] n) 3)):=by
 have⟨i,hi,c,b,a⟩:=IL;have h:=run_make (P:=prog) W 148 3 i (.int .i64 0) underlying148 hi c .i64 .i64 n n aa (wC _) (by rw[a];omega) aa;rw[h,iD,b,ji];rfl
theorem Dn (W:World) (n:Nat):(W.alloc (.cells (madeCells #[ae 0] n) 3)).heap[W.heap.size]? =some (.cells (List.replicate n (ae 0)).toArray 3 (0,0)):=by
 rw[bY];congr 2;apply Array.ext';rw[toList_madeCells_one]
theorem EM {w:World} {base g n:Nat} {xs:List Value} (c:w.heap[g]? =some (.cells xs.toArray 3 (0,0))) (b:base<=g) (a:xs.length=n) (d:n<=maxLen):w.ownsRow base 3 1 (aC g n n) n xs:=
 ⟨aQ a,.inr ⟨g,n,xs.toArray,rfl,b,c,aA _,d,aQ a,by rw[ji];exact jc aH⟩⟩
theorem vE {P:Program} {ops:Array Oper} {o:Oper} {a:Act} {C:World->Prop} {b:Bool} {K:Act->Prop} {E0:Prop} {sz:Nat} {t e:TypeId} {bytes:Nat} (r:eY P t e sz bytes) (ad:Option Addr) (n c lo hi:Nat) (p:lo<=hi) (q:hi<=c)
  (s:o.guard=none) (x:Operand) (m f:Option Operand) (j:o.op=.slice t x m f none) (l:a.eval x=.slice ad n c) (g:(m.map a.eval).getD (.int .i64 0)=.int .i64 lo) (d:(f.map a.eval).getD (.int .i64 n)=.int .i64 hi)
  (h:K (a.put o.dst (.slice (if c=lo then ad else ad.map (·.add (lo*sz))) (hi-lo) (c-lo)))):
  if Region.wanted o (yielded ops a.tmps)=true then Oper.dZ P o a C b K else E0:=by
 have y:Region.wanted o (yielded ops a.tmps)=true:=by simp[Region.wanted,s]
 rw[aO y];obtain⟨ht,⟨i,z,u,D,v,A,E⟩,B⟩:=r;have hu:∀W',(underlying t).run P W'=.ok (.slice e) W':=fun W'=>qC ht W';have k:∀W',(sizeOf e).run P W'=.ok sz W':=fun W'=>by simp[sizeOf,typeInfo,u,v]
 refine⟨_,fun w _=>?_,h⟩;unfold execOp;rcases m with _|lw
 .simp only[mh,nC,qA,qM]at g;obtain rfl:lo=0:=aa;rcases f with _|hg
  .simp only[mh,nC,qA,qM]at d;obtain rfl:hi=n:=aa;simp[j,l,Instr.sliceAt,Instr.slice,Instr.sliceBounds,hu,k]
  .simp only[eP,ic]at d;simp[j,l,d,Instr.sliceAt,Instr.slice,Instr.sliceBounds,Instr.sliceBound,hu,k,asIntOf,q]
 .simp only[eP,ic]at g;rcases f with _|hg
  .simp only[mh,nC,qA,qM]at d;obtain rfl:hi=n:=aa;simp[j,l,g,Instr.sliceAt,Instr.slice,Instr.sliceBounds,Instr.sliceBound,hu,k,asIntOf,p]
  .simp only[eP,ic]at d;simp[j,l,g,d,Instr.sliceAt,Instr.slice,Instr.sliceBounds,Instr.sliceBound,hu,k,asIntOf,p,q]
def uq (M k:Nat):List Value:=List.replicate k (.int .i64 (-1))++List.replicate (M-k) (.int .i64 0)
theorem IP {M k:Nat} (h:k<=M):(uq M k).length=M:=by simp[uq];omega
theorem NN (M:Nat):uq M 0=List.replicate M (.int .i64 0):=by simp[uq]
theorem NP (M:Nat):uq M M=List.replicate M (.int .i64 (-1)):=by simp[uq]
theorem Aw {M k m:Nat} (h:k+m<=M):splice (uq M k) k (List.replicate m (.int .i64 (-1)))=uq M (k+m):=by
 unfold splice uq;rw[yH ax,jc ax,iM,List.drop_append];rw[o8 ax,gu,List.drop_replicate,iM,<-dW,List.replicate_append_replicate];congr 2;omega
theorem Qr {M k j:Nat} (h:j<k):(uq M k)[j]? =some (.int .i64 (-1)):=by
 unfold uq;rw[mr (aQ h),sI,aO h]
theorem Qs (w:World) (b M:Nat) (r:w.heap[b]? =some (.cells #[ae (-1)] 3 (0,0))) (ac:M<=1000000):
  aK 100 #[aC b 1 1,ae M] w fun e w'=>∃v,e=.returned v/\w'.ownsRow w.heap.size 3 1 v M (List.replicate M (.int .i64 (-1)))/\Below w.heap.size w w':=by
 have am:=Mf M ac;have n:=af (fun W=>Tryz.bits_Mul 1 M aa aa W);have p:1*M/18446744073709551616=0:=aa;have q:1*M%18446744073709551616=M:=aa;rw[p,q]at n;have z:=af (Dn w M);have ai:b<w.heap.size:=(bg.1 r).1;have L:(w.alloc (.cells (madeCells #[ae 0] M) 3)).cell? (ag b 0)=some (ae (-1)):=by
  have d:=(bU w (.cells (madeCells #[ae 0] M) 3) _ ai).trans r;simp[World.cell?,d]
 have A:=af L;have d0:decide ((M:Int)<0)=false:=ax;have d3:decide ((M:Int)>9223372036854775807)=false:=aH;have d4:decide ((9223372036854775807:Int)<(M:Int))=false:=aH;have d5:decide (9223372036854775807<M)=false:=aH;clear p q r L;go_enter func100,ntmps100
 go_wp2_with fail
 refine(n.o w).mono ?_;rintro e w' ⟨rfl,ab⟩;subst ab
 go_upto_region 7 with fail
 obtain⟨w1,c⟩:∃w1,w1=w'.alloc (.cells (madeCells #[ae 0] M) 3):=⟨_,rfl⟩;obtain⟨g,f⟩:∃g,g=w'.heap.size:=⟨_,rfl⟩;have G:Below w'.heap.size w' w1:=by rw[c];exact(aJ _ _).alloc (aA _) _
 have t:w'.heap.size<=g:=zg f.symm;have Q:w1.heap[g]? =some (.cells (uq M 0).toArray 3 (0,0)):=by rw[c,f,NN];exact z.o
 have B:Hid (w1.cell? (ag b 0)=some (ae (-1))):=by rw[c];exact A.o
 have aB:b≠g:=aa;rw[<-c,<-f];have F:=af Q;have y:=af G;clear c am z A n Q G f d0 d3 d4 d5;obtain⟨m,i⟩:∃m,m=Nat.min 1 M:=⟨_,rfl⟩;have D:=af i;have al:m<=M:=by rw[i];exact Nat.min_le_right _ _
 have P:0<M->0<m:=fun h=>by rw[i];exact Nat.lt_min.2 ⟨aa,h⟩
 have X:=af P;clear i P;have ht:∀j v,(List.replicate m (ae (-1)))[j]? =some v->w1.cell? (((ag b 0):Addr).add j)=some v:=fun j v h=>by
  rw[sI]at h;split at h
  .rename_i aj;injection h with h;have:j=0:=by have ap:=D.o;have d:Nat.min 1 M<=1:=Nat.min_le_left _ _;omega
   subst this;rw[<-h];simpa[Addr.add]using B.o
  .cases h
 have E:=af ht;clear ht
 go_wp2_with (refine wpList_copy_splice rfl _ _ _ _ rfl 3 underlying148 IM _ _ _ _ _ _ rfl rfl g 0 (uq M 0) 3 F.o (List.replicate m (.int .i64 (-1))) (by rw[iM];exact D.o) (fun _=>⟨rfl,_,rfl,E.o⟩) (by rw[iM,IP aa];omega) (fun v u=>by rw[List.eq_of_mem_replicate u];rfl) w'.heap.size w' y.o t ?_;intro w2 N H;simp only[iM,goInt];rw[Aw (M:=M) (k:=0) (m:=m) aa,kD]at N;have R:=af H;clear H)
 clear F y E B
 go_loopg [8] M (fun an ao wr=>∃k:Nat,ao=.int .i64 k/\k<=M/\M-k<=an/\Hid (0<M->0<k)/\Hid (wr.heap[g]? =some (.cells (uq M k).toArray 3 (0,0)))/\Hid (Below w'.heap.size w' wr))
 case atStart=>exact⟨m,rfl,al,aa,X,N,R⟩
 case round=>
  obtain⟨k,rfl,aq,ar,Y,C,x⟩:=hrel;by_cases au:k<M
  .have ak:=Y.o aa;obtain⟨m2,l⟩:∃m2,m2=Nat.min k (M-k):=⟨_,rfl⟩;have av:k+m2<=M:=by have d:Nat.min k (M-k)<=M-k:=Nat.min_le_right _ _;omega
   have aw:0<m2:=by rw[l];exact Nat.lt_min.2 ⟨ak,aa⟩
   have az:m2<=k:=by rw[l];exact Nat.min_le_left _ _
   have V:=af l;have Z:Hid (∀W:World,W.heap[g]? =some (.cells (uq M k).toArray 3 (0,0))->∀j v,(List.replicate m2 (ae (-1)))[j]? =some v->W.cell? (((ag g 0):Addr).add j)=some v):=fun W ad j v h=>by
    rw[sI]at h;split at h
    .rename_i aj;have d:=Qr (M:=M) (k:=k) (j:=j) aa;rw[<-h];have ah:((ag g 0):Addr).add j=(ag g j):=by unfold Addr.add;split<;>simp_all
     rw[ah];simp[World.cell?,ad,d]
    .cases h
   clear l;have p:decide ((k:Int)<(M:Int))=true:=aH;have q:decide (k<M)=true:=aH
   go_upto_region 9 with fail
   refine mo (fun _=>True) [7,8,9] [(0,false),(1,false),(2,false),(3,false),(4,false),(5,false),(6,false)] trivial 3 ?_;simp only[iX,sD,nz,sw,eQ,eG,eP]
   iterate 3 (refine gF (fun K a=>?_);go_simp;first|(refine a _ ?_;clear a K)|(apply Exists.intro;refine⟨fun _=>?_,a _ ?_⟩;rfl;clear a K))
   refine gF (fun K a=>?_);refine vE nX (some (ag g 0)) M M k M aa (aA _) rfl _ _ _ rfl rfl rfl rfl (a _ ?_);clear a K;rw[aN aa]
   iterate 2 (refine gF (fun K a=>?_);go_simp;first|(refine a _ ?_;clear a K)|(apply Exists.intro;refine⟨fun _=>?_,a _ ?_⟩;rfl;clear a K))
   refine gF (fun K a=>?_);refine vE nX (some (ag g 0)) M M 0 k aa aa rfl _ _ _ rfl rfl rfl rfl (a _ ?_);clear a K;rw[aN aa];refine jJ ?_;refine ay 7 rfl fun K a=>?_;have s:wr.drew.heap[g]? =some (.cells (uq M k).toArray 3 (0,0)):=C.o;have J:Below w'.heap.size w' wr.drew:=x.o.drew;refine step_copy_splice rfl _ _ _ _ rfl 3 underlying148 IM (some (ag g k)) (some (ag g 0)) (M-k) (M-k) k M (by simp[Act.eval,Act.put,Addr.add]) (by simp[Act.eval,Act.put,Addr.add]) g k (uq M k) 3 s (List.replicate m2 (.int .i64 (-1))) (by rw[iM];exact V.o) (fun _=>⟨rfl,_,rfl,Z.o _ s⟩) (by rw[iM,IP aa];omega) (fun v u=>by rw[List.eq_of_mem_replicate u];rfl) w'.heap.size w' J t ?_;intro w3 O I;simp only[iM,goInt];rw[Aw (M:=M) (k:=k) (m:=m2) aa]at O;have U:=O;have S:=af I;clear I s J;refine a _ _ (fun _ h=>absurd ax h) ?_;clear a K;refine aF [8,9] ?_;go_wp2
   go_roundg (M-(k+m2))
   case measure=>omega
   case rel=>exact⟨k+m2,by go_num,aa,aA _,fun _=>aa,U,S⟩
  .obtain rfl:k=M:=aa;have T:Hid (wr.ownsRow w'.heap.size 3 1 (aC g k k) k (List.replicate k (.int .i64 (-1)))):=by
    have:=C.o;rw[NP]at this;exact EM this t ax dE
   go_wp2;go_ret;exact⟨_,rfl,T.o,x.o⟩
theorem KP:eU 99:=bP func99 aL rfl
theorem SK {W:World} {tb tc:Nat} {t:Option Addr} {G n:Nat} {R:List Pt} (z:W.cell? (ag tc 0)=some (aj tb)) (w:W.cell? (ag tb 0)=some (.slice t n G)) (s:bV bX 3 W t R) (y:R.length=n) (i j:Nat) (hi:i<n) (J:j<n) (L:n<=1000000):
  aK 99 #[ae i,ae j,aj tc] W fun e w'=>e=.returned (ae (oO (cu R i) (cu R j)))/\yF W w':=by
 have b:i<R.length:=aa;have c:j<R.length:=aa;obtain⟨V,X,x,M,a⟩:=s.get aa;have d:=a i b 0 aa;have f:=a i b 1 aa;have g:=a i b 2 aa;have k:=a j c 0 aa;have v1:=a j c 1 aa;have l:=a j c 2 aa;simp only[bX,eG,eQ,df]at d f g k v1 l;rw[<-dK b]at d f g;rw[<-dK c]at k v1 l;subst x;clear a b c s y;generalize cu R i=p at*;generalize cu R j=q at*;have u:=af (fun W=>UD p q W);generalize oO p q=U at*;obtain⟨B,C,A⟩:=p;obtain⟨E,F,D⟩:=q;simp only at d f g k v1 l;have H:=ah z;have I:=ah w;have N:=ah d;have O:=ah f;have P:=ah g;have Q:=ah k;have S:=ah v1;have T:=ah l;go_enter func99,ntmps99
 go_upto_region 1 with fail
 refine au (fun W'=>∃p:aR W,W'=p.W) [14,15] [(0,true),(1,false),(2,false),(3,true),(4,false),(5,false),(6,true),(7,true),(8,false),(9,false),(10,true),(11,false),(12,false),(13,true)] ⟨⟨_,(aJ _ _).drew⟩,rfl⟩ 2 ?_;refine ay 14 rfl fun K m=>?_;refine aY CO rfl _ _ rfl (vals:=#[jb B C A,jb E F D]) rfl (u.o W.drew) ?_;rintro e w2 ⟨rfl,r⟩;refine⟨_,rfl,m _ _ (fun _ h=>absurd ax h) ?_⟩;clear m K;refine aF [15] ?_;have v:Hid (yF W w2):=((yF.refl W).drew).trans r;clear r;go_wp2;go_ret;exact⟨rfl,v.o⟩
theorem Xh (R:List Pt) (n:Nat):SWO (ltOf fun i j:Fin n=>oO (cu R i) (cu R j)):=
 ⟨fun x=>R7.irrefl (cu R x),fun x y z=>R7.trans (cu R x) (cu R y) (cu R z),fun x y z=>R7.ntrans (cu R x) (cu R y) (cu R z)⟩
theorem SL {w:World} {base g c n tb tc:Nat} {G:Option Addr} {aD:Nat} {R:List Pt} (hu:(ids R).Nodup) (av:R.Pairwise kY) (ai:R.length=n) (T:0<n) (ak:n<=1000000) (am:w.ownsRow base 3 1 (aC g n c) n ((List.range n).map fT))
  (Q:w.cell? (ag tc 0)=some (aj tb)) (H:w.cell? (ag tb 0)=some (.slice G n aD)) (D:bV bX 3 w G R) (I:tc≠g) (J:tb≠g) (o:∀ad,G=some ad->ad.block≠g):
  aK 98 #[aC g n c,.func (.func 99) #[] #[aj tc]] w fun e w'=>
   e=.returned (.tuple #[])/\w'.ownsRow base 3 1 (aC g n c) n ((ed R).map fT)/\aB (fun k=>k=g) w w':=by
 haveI:Inhabited (Fin n):=⟨⟨0,T⟩⟩
 obtain⟨a,ab,z,aJ,ah,an,ht⟩:∃a:Array Value,base<=g/\w.heap[g]? =some (.cells a 3 (0,0))/\n<=c/\c<=maxLen/\a.size=c/\a.toList.take n=(List.range n).map fT:=by
  rcases am.2 with⟨e,-⟩|⟨aI,aE,a,e,E,F,ay,az,aP,aA⟩
  .cases e
  .injection e with f aG S;injection f with f;injection f with f _ _;subst f S;exact⟨a,E,F,ay,az,aa,by rwa [ji]at aA⟩
 obtain⟨l,A⟩:∃l:List (Fin n),l=List.finRange n:=⟨_,rfl⟩;have r:l.length=n:=by rw[A];simp
 have P:l.map (fun i:Fin n=>(i:Nat))=List.range n:=by rw[A];exact sO ax (fun i I J=>ax)
 obtain⟨enc,s⟩:∃enc:Fin n->Value,enc=fun i=>fT i.val:=⟨_,rfl⟩;have ae:l.map enc=(List.range n).map fT:=by rw[<-P,wu,s];rfl
 have U:Holds enc w g 0 l.toArray:=holds_of_block z (by rw[r,ht,ae]);have af:g<w.heap.size:=(bg.1 z).1;have O:∀(m:Nat) (os:Array Obj) (dk:Array (Fin n)),aB (fun k=>k=g) w (sortWorld enc w g 0 m dk os):=fun m os dk=>by
  refine⟨rfl,rfl,rfl,?_,fun k aL B=>?_⟩
  .show w.heap.size<=((w.heap.modify g _)++os).size;simp
  .show((w.heap.modify g _)++os)[k]? =_;rw[yI aH,yN,aN (fun e=>B e.symm)]
 have ar:=iF w _ Q;have aq:=iF w _ H;have V:CmpLays1 prog 99 #[aj tc] enc (fun i j:Fin n=>oO (cu R i) (cu R j)) g 0 l.toArray.size w:=fun m os dk _ x y=>by
  have K:=O m os dk;rw[s]at K |-;refine(SK (((di K ar I).1 0).trans Q) (((di K aq J).1 0).trans H) ?_ ai x y x.2 y.2 ak).mono fun e w' ⟨v,q,aw,au⟩=>⟨v,q,aw,au⟩;rcases D with D|⟨b,off,rfl,M,W⟩
  .exact .inl D
  .exact .inr ⟨b,off,rfl,cO M K.size,fun i hi j t=>((di K M (o _ rfl)).1 _).trans (W i hi j t)⟩
 have u:=Any.slices_SortFunc Tryz.Iu enc (fun x=>by rw[s];rfl) (fun i j:Fin n=>oO (cu R i) (cu R j)) (Xh R n) 99 #[aj tc] g 0 c l.toArray w KP V U af (by simp[r];omega);change aK 98 _ _ _ at u;rw[show l.toArray.size=n by simpa using r]at u;refine u.mono ?_;rintro e w' ⟨v,d',m,os,hp,ao,rfl⟩;have C:=tQ (d:=l.toArray) (d':=d') (by rw[show l.toArray.size=n by simpa using r];exact hp);have N:d'.toList.length=n:=by rw[C.length_eq];simpa using r
 have L:=ru av hu;have X:(d'.toList.map fun i:Fin n=>(i:Nat)).Pairwise (AU R):=by
  refine dF.2 ?_;have al:d'.toList.Nodup:=C.nodup_iff.2 (by rw[A];simpa using List.nodup_finRange n);have ap:d'.toList.Pairwise fun i j:Fin n=>¬oO (cu R j) (cu R i)<0:=by
   rw[gH];intro i j hi t ac;have aM:d'.size=n:=aQ N;have o:=ao i j (aT _) ac (by simp at t |-;omega);simp at hi t;rw[sZ d' j aa,sZ d' i aa]at o;unfold ltOf at o;simpa using o
  refine List.Pairwise.imp (fun{i j} h=>?_) (ap.and al);have⟨E,F⟩:=h;rw[rq]at E;have B:(i:Nat)≠(j:Nat):=fun e=>F (Fin.ext e);have:=KC hu (i:=i) (k:=j) aa aa B;unfold ku at this;unfold AU;unfold mM at*;omega
 have Y:d'.toList.map (fun i:Fin n=>(i:Nat))=ed R:=by
  refine qR (R:=AU R) (fun i=>xz _) (fun h h'=>Ev h h') X L.Vw fun i=>?_;rw[(C.map _).mem_iff,L.live,sI];show i∈l.map _↔_;rw[P,vV];constructor
  .intro h;rw[aO aa]
  .intro h;by_cases p:i<R.length
   .omega
   .rw[aN p]at h;cases h
 obtain⟨aF,-,-,-,p⟩:=tH (enc:=enc) (l:=l) (l':=d'.toList) ab z aa ah an aa m os;rw[N]at p;have Z:d'.toList.map enc=(ed R).map fT:=by rw[<-Y,wu,s];rfl
 rw[Z]at p;refine⟨v,?_,O m os d'⟩;simpa[sortWorld]using p
theorem IQ (a:Option Addr) (c:Nat) (l:List Pt) (w:World) (s:bV bX 3 w a l) (O:l.length<=1000000) (x:Jw l):
  aK 97 #[.slice a l.length c] w (gD w (.bool (lF l))):=by
 have B:=af s;have E:=af x;clear s x;have N:=@run_makeMap prog;go_enter func97,ntmps97;go_wp2
 go_loopw [9] (fun k wr=>∃i:Nat,k=.int .i64 i/\i<=l.length/\Below w.heap.size w wr/\Hid (∃(D:DataW Unit),wr.ownsMap prog 27 (plainElem prog 3) w.heap.size i D/\oo D l i)) (fun k _=>l.length-(intOf k).toNat)
 case atStart=>exact⟨0,rfl,aT _,(aJ _ _).alloc (aA _) _,⟨.map [],yT _ _ _ _,[],IsM.empty _ _⟩⟩
 case round=>
  obtain⟨i,rfl,hi,e,HO⟩:=hrel;by_cases g:i<l.length
  .obtain⟨b,off,q,M,f⟩:=(B.o.below e).get aa;have K:=f i g 0 aa;have x1:=f i g 1 aa;have x2:=f i g 2 aa;simp only[bX,eG,eQ,df]at K x1 x2;have G:Hid (keyOf prog 27 (.int .u32 l[i].2.2)=some (.int .u32 l[i].2.2)):=zh underlying27 (E.o _ (bC _));obtain⟨D,t,d⟩:=HO.o;have n:=af (d.put g);have L:=e.size;have m:=af q;clear HO f d q;generalize l[i]=p at*;obtain⟨I,J,H⟩:=p;obtain rfl:=m.o;clear m;have h:=t.kept (rP wr (.cells #[ae I,ae J,ak H] 29) none) ax
   go_wp2_with (at_mapUpdate;refine yO _ rfl _ _ _ 26 rfl 27 3 (int_keyed underlying27) underlying26 _ w.heap.size i _ rfl h dE _ _ _ rfl rfl G.o _ [] (vY underlying3 (by simp[Lit.wf,IntKind.min,IntKind.max,IntKind.bits,IntKind.signed];omega)) ?_;intro w3 u r)
   have y:Below w.heap.size wr w3:=(((aJ _ wr).alloc aa _)).grown r aH (fun j F=>by cases F;omega);have A:Hid (∃(D:DataW Unit),w3.ownsMap prog 27 (plainElem prog 3) w.heap.size (i+1) D/\oo D l (i+1)):=⟨_,u,n.o⟩;have z:=e.trans y;clear u r h t n;go_wp2;go_roundw
   case rel=>exact⟨i+1,by go_num,aa,z,A⟩
   case measure=>exact bZ
  .obtain rfl:i=l.length:=aa;obtain⟨D,h,d⟩:=HO.o;have v:=d.size;have C:=af v;clear v d HO
   go_wp2_with (at_len;refine wpList_len_own _ rfl _ 26 rfl 27 3 underlying26 _ w.heap.size _ _ rfl h ?_)
   go_ret;exact⟨by rw[C.o];rfl,e⟩
theorem dz.grow {w:World} {lo hi a tb fb:Nat} {R:List Pt} {h:iV} {cnt:Int} {V:mQ} (H:dz w lo hi tb fb R h cnt V) (b:hi<=a) (c:a<=w.heap.size):dz w lo a tb fb R h cnt V:=
 ⟨H.blk,⟨H.fM.1,by have:=H.fM.2.1;omega,H.fM.2.2.1,by have:=H.fM.2.2.2.1;omega,c⟩,H.row,H.xs,H.iU,H.jD,H.oU,fun v d g e=>cO (H.top v d g e) b⟩
theorem Qt (n:Nat):Jy (fun _=>none) n=List.replicate n (.int .i64 (-1)):=by
 apply sO (by simp[Jy]);intro i a b;simp[Jy,oW]
theorem Qu {w:World} {base n tb tc:Nat} {av:Value} {f:Option Addr} {z:Nat} {R:List Pt} (hu:(ids R).Nodup) (u:R.Pairwise kY) (i:R.length=n) (q:n<=1000000) (b:w.ownsRow base 3 1 av n ((List.range n).map fT))
  (t:w.cell? (ag tc 0)=some (aj tb)) (j:w.cell? (ag tb 0)=some (.slice f n z)) (s:bV bX 3 w f R) (m:∀g,av.ownBlock=some g->tc≠g/\tb≠g/\∀ad,f=some ad->ad.block≠g):
  aK 98 #[av,.func (.func 99) #[] #[aj tc]] w fun e w'=>
   e=.returned (.tuple #[])/\w'.ownsRow base 3 1 av n ((ed R).map fT)/\aB (fun k=>av.ownBlock=some k) w w':=by
 by_cases l:n=0
 .subst l;have o:R=[]:=iC i;subst o;obtain⟨a,c,rfl⟩:=fK b;have h:=JC ({Tryz.Iu with}) a c (.func (.func 99) #[] #[aj tc]) w;change aK 98 _ _ _ at h;refine h.mono ?_;rintro e w' ⟨d,rfl⟩;exact⟨d,by simpa[ed,kI]using b,aB.refl _ _⟩
 .obtain⟨g,c,rfl,-,-,-,-⟩:=aS b aa;have⟨v,x,y⟩:=m g rfl;refine(SL hu u i aa q b t j s v x y).mono ?_;rintro e w' ⟨d,r,p⟩;exact⟨d,r,p.mono fun k e=>by subst e;rfl⟩
theorem KQ:eU 100:=bP func100 aL rfl
theorem Qv {w:World} {base:Nat} {e:TypeId} {sz:Nat} {a:Option Addr} {n c m:Nat} {xs:List Value} (h:w.ownsRow base e sz (.slice a n c) m xs):∀ad,a=some ad->(Value.slice a n c).ownBlock=some ad.block:=fun ad d=>by
 subst d;rcases h.2 with⟨b,-⟩|⟨g,f,i,b,-⟩
 .cases b
 .injection b with b;injection b with b;subst b;rfl
def Gy (w:World) (R:List Pt) (e:Ending) (w':World):Prop:=
 ∃tb fb V,e=.returned (.tuple #[aj tb,ae 0])/\dz w' w.heap.size w'.heap.size tb fb R (Da R) R.length V/\Below w.heap.size w w'
structure SN (w:World) (lo fb tb tc n:Nat) (rv nv fv:Value) (l:List Pt):Prop where
 row:w.ownsRow lo 29 3 rv n (l.flatMap bX)
 jD:w.ownsRow lo 163 7 nv (bf n).length ((bf n).flatMap pR)
 iU:om w lo fb n fv
 Mg:w.heap[tc]? =some (.cells #[aj tb] 87 (0,0))
 Rv:lo<=fb
theorem SN.kept {S:Nat->Prop} {w w':World} {lo fb tb tc n:Nat} {s r p:Value} {l:List Pt} (h:SN w lo fb tb tc n s r p l) (K:aB S w w') (hS:∀k,k<w.heap.size->S k->∃cs t fr,w.heap[k]? =some (.cells cs t fr)/\t≠29/\t≠163/\t≠236/\t≠87):SN w' lo fb tb tc n s r p l:=by
 have blk:∀{b:Nat} {m:Array Value} {j:TypeId} {o:Nat×Nat},w.heap[b]? =some (.cells m j o)->(∀cs t fr,w.heap[b]? =some (.cells cs t fr)->S b->t≠j)->w'.heap[b]? =some (.cells m j o):=fun q v=>bu K q fun u=>v _ _ _ q u rfl;refine⟨p8 h.row K fun k g f=>?_,p8 h.jD K fun k g f=>?_,⟨bu K h.iU.blk fun f=>?_,p8 h.iU.row K fun k g f=>?_⟩,bu K h.Mg fun f=>?_,h.Rv⟩
 .obtain⟨cs,t,fr,a,b,c,d,e⟩:=hS k g f;exact⟨cs,t,fr,a,b⟩
 .obtain⟨cs,t,fr,a,b,c,d,e⟩:=hS k g f;exact⟨cs,t,fr,a,c⟩
 .have i:=(bg.1 h.iU.blk).1;have⟨cs,t,fr,a,b,c,d,e⟩:=hS fb i f;have:=a.symm.trans h.iU.blk;injection this with this;injection this with _ this _;exact d this
 .obtain⟨cs,t,fr,a,b,c,d,e⟩:=hS k g f;exact⟨cs,t,fr,a,c⟩
 .have i:=(bg.1 h.Mg).1;have⟨cs,t,fr,a,b,c,d,e⟩:=hS tc i f;have:=a.symm.trans h.Mg;injection this with this;injection this with _ this _;exact e this
theorem Dp {w:World} {base:Nat} {e:TypeId} {sz:Nat} {v:Value} {n:Nat} {xs:List Value} (h:w.ownsRow base e sz v n xs) {k:Nat} (a:v.ownBlock=some k):∃cs fr,w.heap[k]? =some (.cells cs e fr):=by
 rcases h.2 with⟨rfl,-⟩|⟨g,c,d,rfl,-,b,-⟩
 .cases a
 .injection a with a;subst a;exact⟨_,_,b⟩
theorem KR (a:Option Addr) (c:Nat) (l:List Pt) (w:World) (bm:bV bX 3 w a l) (dF:l.length<=20000) (db:Jw l) (hu:lF l=true):
  aK 37 #[.slice a l.length c] w (Gy w (fC l)):=by
 have aX:=IQ a c l w bm aa db;rw[hu]at aX;have d9:=af bm;obtain⟨n,bn⟩:∃n,n=l.length:=⟨_,rfl⟩;have cn:=af (fun W (b7:Below w.heap.size w W)=>pV a l n c W bn.symm (bm.below b7) aa);have cx:=af bn;rw[<-bn]at dF aX |-;have am:=af (fun W=>zy n aa W);clear bn bm;have d1:decide ((n:Int)>2147483648)=false:=aH;have d2:decide ((2147483648:Int)<(n:Int))=false:=aH;have d3:decide (2147483648<n)=false:=aH;have cW:(ids l).Nodup:=by unfold lF at hu;simpa using hu
 have bH:=af cW;clear cW hu db;go_enter func37,ntmps37
 go_wp2_with (go_at_call 97;refine aX.mono ?_;rintro e w1 ⟨rfl,be⟩;clear aX)
 go_wp2_with fail
 refine(am.o w1).mono ?_;rintro e w2 ⟨rfl,a3⟩;have ap:Hid (Below w.heap.size w w2):=by rw[a3];exact be.alloc be.size _
 have bC:Hid (w2.heap[w1.heap.size]? =some (lX 0 0 (aM) n)):=by rw[a3];exact bY w1 _
 obtain⟨fb,cb⟩:∃fb,fb=w1.heap.size:=⟨_,rfl⟩;have bj:w.heap.size<=fb/\fb<w2.heap.size:=by rw[a3,cb];exact⟨be.size,ax⟩
 rw[<-cb]at bC |-;clear a3 be cb am
 go_wp2_with fail
 refine(cn.o w2 ap.o).mono ?_;rintro e w3 ⟨el,rfl,cg,b8⟩;have ca:=(b8.block fb bj.2).trans bC.o;have bw:Hid (Below w.heap.size w w3):=ap.o.trans (b8.mono ap.o.size);have cy:=af (bM cg ap.o.size);have co:=af (ig fb n aa w3 ca);have ct:=af ca;obtain⟨q,m,rfl⟩:=fK cg;clear cg b8 ca cn bC ap
 go_wp2_with fail
 refine co.o.mono ?_;rintro e w4 ⟨D,dR,rfl,jG,cd,cS,A⟩;have ch:=bw.o.size;have cA:Hid (w4.ownsRow w.heap.size 29 3 (.slice q n m) n (l.flatMap bX)):=Kk cy.o ai ct.o A;have bE:Hid (om w4 w.heap.size fb n D):=⟨cS,bM jG ch⟩;have cw:Hid (w4.ownsRow w.heap.size 163 7 dR (bf n).length ((bf n).flatMap pR)):=bM cd ch;have F:Hid (Below w.heap.size w w4):=bw.o.trans (A.toBelow ch (fun k h=>by have:=bj.1;omega));obtain⟨t,nc,rfl⟩:=fK cd;obtain⟨M,bb⟩:∃M,M=(bf n).length:=⟨_,rfl⟩;have bK:=af bb;have ea:M<=40000:=by rw[bb,dB];omega
 rw[<-bb];clear jG cd cS A co bb cy ct bw
 go_upto_region 9 with fail
 obtain⟨wc,aE⟩:∃wc,wc=(w4.alloc (.cells #[.slice q n m,aM,aj fb,.slice t M nc,aM,ae n] 155)).alloc (.cells #[aj w4.heap.size] 87):=⟨_,rfl⟩;have b9:Below w4.heap.size w4 wc:=by rw[aE];exact((aJ _ _).alloc (aA _) _).alloc ax _
 obtain⟨tb,aV⟩:∃tb,tb=w4.heap.size:=⟨_,rfl⟩;have cN:wc.heap[tb]? =some (NH (.slice q n m) (aM) fb (.slice t M nc) (aM) n):=by rw[aE,aV];exact FR w4 _ _
 have bc:wc.heap[tb+1]? =some (.cells #[aj tb] 87 (0,0)):=by rw[aE,aV];exact Ci w4 _ _
 rw[<-aE,<-aV];have U:Hid (SN wc w.heap.size fb tb (tb+1) n (.slice q n m) (.slice t M nc) D l):=by
  have K:aB (fun _=>False) w4 wc:=(aB.refl _ w4).below b9;exact⟨aU cA.o K (fun _ _ h=>h),by rw[<-bK.o];have:=aU cw.o K (fun _ _ h=>h);rwa [<-bK.o]at this,⟨bu K bE.o.blk (fun h=>h),aU bE.o.row K (fun _ _ h=>h)⟩,bc,bj.1⟩
 have aq:=af cN;have bv:Hid (Below w.heap.size w wc):=F.o.trans (b9.mono F.o.size);have dN:w.heap.size<=tb:=by rw[aV];exact F.o.size
 obtain⟨tc,N⟩:∃tc,tc=tb+1:=⟨_,rfl⟩;rw[<-N]at U bc |-;clear aE b9 cN cA bE cw F aV N;have ck:=(bg.1 aq.o).1;have cq:=af (zD cx.o.symm aa U.o.row bH.o);have cP:=aq.o;have bZ:wc.cell? (ag tb 0)=some (.slice q n m):=aI cP;have t0:wc.cell? (ag tc 0)=some (aj tb):=aI bc;clear cP bc
 go_wp2_with fail
 refine cq.o.mono ?_;rintro e w4 ⟨rfl,cX,A⟩;have cK:SN w4 w.heap.size fb tb tc n (.slice q n m) (.slice t M nc) D (fC l):=by
  have h:=U.o;have f:=h.kept (S:=fun k=>(Value.slice q n m).ownBlock=some k) A;refine⟨cX,p8 h.jD A fun k y f=>?_,⟨bu A h.iU.blk fun f=>?_,p8 h.iU.row A fun k y f=>?_⟩,bu A h.Mg fun f=>?_,h.Rv⟩
  .obtain⟨cs,fr,e⟩:=Dp h.row f;exact⟨cs,_,fr,e,ai⟩
  .exact bz h.row h.iU.blk ai fb f rfl
  .obtain⟨cs,fr,e⟩:=Dp h.row f;exact⟨cs,_,fr,e,ai⟩
  .exact bz h.row h.Mg ai tc f rfl
 have V:Hid (w4.heap[tb]? =some (NH (.slice q n m) (aM) fb (.slice t M nc) (aM) n)):=bu A aq.o (fun h=>bz U.o.row aq.o ai tb h rfl);have F:Hid (Below w.heap.size w w4):=bv.o.trans (A.toBelow bv.o.size (fun k h=>(U.o.row.lt k h).1));have H:=af cK;have z:(fC l).length=n:=by rw[(dV l).length_eq];exact cx.o.symm
 have cM:(ids (fC l)).Nodup:=((dV l).map _).nodup_iff.2 bH.o;have a1:Hid ((fC l).Pairwise kY/\(ids (fC l)).Nodup):=⟨gz bH.o,cM⟩;clear cX A cK U aq bv cq cM bZ t0 ck;generalize dy:fC l=R at*;clear dy;have ck:=(bg.1 V.o).1;have c6:=(bg.1 H.o.Mg).1;have c9:=V.o;have N:=H.o.Mg;have bZ:w4.cell? (ag tb 0)=some (.slice q n m):=aI c9;have t0:w4.cell? (ag tc 0)=some (aj tb):=aI N;clear c9 N
 go_wp2_with fail
 have dG:tc≠tb:=fun e=>by
  have y:=H.o.Mg;rw[e,V.o]at y;injection y with y;injection y with _ y _;exact absurd y ai
 go_loopg [7,43] n (fun dQ dY dW wr=>∃(i:Nat) (cm av:Value),dW=.int .i64 i/\dY=av/\i<=n/\n-i<=dQ/\Hid (wr.heap[tb]? =some (NH (.slice q n m) cm fb (.slice t M nc) (aM) n))/\Hid (wr.ownsRow w4.heap.size 2 1 cm i (((cz R).take i).map (Value.int .i64)))/\Hid (wr.ownsRow w4.heap.size 3 1 av i ((List.range i).map fT))/\Hid (aB (fun k=>k=tb) w4 wr))
 case atStart=>exact⟨0,_,_,rfl,rfl,aT _,aa,V,cZ _ _ _ _,cZ _ _ _ _,aB.refl _ _⟩
 case round=>
  obtain⟨i,cm,av,rfl,rfl,hi,eg,ar,X,T,G⟩:=hrel;by_cases ef:i<n
  .have c1:=aU H.o.row G.o (fun g h f=>bz H.o.row V.o ai g h f.symm);obtain⟨_,_,b3,-,-,aQ⟩:=bV.aD bq ai c1;injection b3 with b0 b1 b2;subst b0;clear b1 b2;obtain⟨b,off,du,eb,bi⟩:=aQ.get aa;have cl:=bi i aa 0 aa;have x1:=bi i aa 1 aa;have x2:=bi i aa 2 aa;simp only[bX,eG,eQ,df]at cl x1 x2;have dc:(cz R).take (i+1)=(cz R).take i++[R[i].1]:=by
    have h:i<(cz R).length:=by unfold cz;simp;omega
    rw[gT h];simp[cz]
   have cE:=af dc;subst du;clear bi aQ dc c1;generalize R[i]=p at*;obtain⟨aW,dj,dh⟩:=p;simp only at cE cl x1 x2;have N:=ar.o;have c8:=(bg.1 N).1;have cj:=(G.o.block tc c6 dG).trans H.o.Mg;have c7:=(bg.1 cj).1;obtain⟨r,s,rfl⟩:=fK X.o;obtain⟨aw,ac,rfl⟩:=fK T.o
   go_upto_region 14 with fail
   obtain⟨w6,J⟩:∃w6,w6=wr.alloc (.cells #[ae aW,ae dj,ak dh] 29):=⟨_,rfl⟩;have x:Below wr.heap.size wr w6:=by rw[J];exact(aJ _ _).alloc (aA _) _
   have ab:w6.heap[wr.heap.size]? =some (.cells #[ae aW,ae dj,ak dh] 29 (0,0)):=by rw[J];exact bY wr _
   have ci:=(x.block tb c8).trans N;have c4:=(x.block tc c7).trans cj;have c2:=G.o.size;have c3:=x.size;have al:∀g,(Value.slice r i s).ownBlock=some g->w4.heap.size<=g/\g<wr.heap.size:=fun g h=>X.o.lt g h;have dg:¬(Value.slice r i s).ownBlock=some tb:=fun h=>by have:=(al tb h).1;omega
   have dd:¬(Value.slice r i s).ownBlock=some tc:=fun h=>by have:=(al tc h).1;omega
   have de:¬(Value.slice r i s).ownBlock=some wr.heap.size:=fun h=>by have:=(al _ h).2;omega
   have bp:∀{bk o:Nat} {v:Value},bk<w6.heap.size->¬(Value.slice r i s).ownBlock=some bk->w6.cell? (ag bk o)=some v->∀p:xC (fun k=>(Value.slice r i s).ownBlock=some k) w6,p.W.cell? (ag bk o)=some v:=fun b7 hd da p=>((di p.h b7 hd).1 _).trans da;have dI:wr.heap.size<w6.heap.size:=(bg.1 ab).1;have a5:=bp (cO c7 c3) dd (o:=0) (v:=aj tb) (aI c4);have b4:=bp (cO c8 c3) dg (o:=1) (v:=.slice r i s) (aI ci);have dw:=bp dI de (o:=0) (v:=.int .i64 aW) (aI ab);have bP:=af (az X.o x);have bs:=af (az T.o x);have cv:Hid (aB (fun k=>k=tb) w4 w6):=G.o.below x;have cC:=af ci;rw[<-J];clear J x ab ci c4 cj N cl x1 x2 bp dd de dg;refine au (fun W=>∃p:xC (fun k=>(Value.slice r i s).ownBlock=some k) w6,W=p.W) [9,10,11] [(0,true),(1,true),(2,false),(3,false),(4,true),(5,false),(6,true)] ⟨⟨_,(aB.refl _ _).drew⟩,rfl⟩ 5 ?_;refine ay 7 rfl fun K u=>?_;go_simp;refine u _ _ (fun _ _=>⟨⟨_,((aB.refl _ w6).alloc _).drew⟩,rfl⟩) ?_;clear u K;refine ay 8 rfl fun K u=>?_;refine bF AZ w4.heap.size (w:=(w6.alloc (.cells #[ae aW] 2)).drew) (az bP.o ((aJ _ w6).alloc (aA _) _|>.drew)) [.int .i64 aW] rfl (by simp[Value.oneCell']) rfl (.tmp 52) (.tmp 55) rfl rfl w6.heap.size rfl (lU _ _) dE aa aH ?_;intro L I d cf cV ee eh;have cU:w6.grownBy d (Value.slice r i s).ownBlock:=dX (bT ((aJ _ w6).alloc (aA _) _|>.drew)) cV;have Y:aB (fun k=>(Value.slice r i s).ownBlock=some k) w6 d:=(aB.refl _ w6).grown cU (fun k aO=>.inl aO);refine u _ _ (fun _ _=>⟨⟨_,Y⟩,rfl⟩) ?_;clear u K;refine aF [9,10,11] ?_;have bo:=bu Y cC.o (fun h=>by have:=(al tb h).1;omega);have dT:d.cell? (ag tb 1)=some (.slice r i s):=aI bo;have f8:d.frozen? (ag tb 1)=false:=aI bo;have cD:Hid ((d.setCell (ag tb 1) (aC L (i+1) I)).heap[tb]? =some (NH (.slice (some (ag b off)) n m) (aC L (i+1) I) fb (.slice t M nc) (aM) n)):=dC d tb 1 _ _ _ bo;have bW:aB (fun k=>k=tb) d (d.setCell (ag tb 1) (aC L (i+1) I)):=(aB.refl (fun k=>k=tb) d).set (a:=(ag tb 1)) (aC L (i+1) I) (.inl rfl);have bQ:Hid ((d.setCell (ag tb 1) (aC L (i+1) I)).ownsRow w4.heap.size 2 1 (aC L (i+1) I) (i+1) (((cz R).take (i+1)).map (Value.int .i64))):=by
    have a7:=aU (S:=fun k=>k=tb) cf bW (fun g h f=>by have:=(cf.lt g h).1;omega);show World.ownsRow _ _ _ _ _ _ _;rw[cE.o,bJ];exact a7
   have an:=aU bs.o Y (fun g h f=>bB bs.o bP.o ai g h f);have ao:Hid ((d.setCell (ag tb 1) (aC L (i+1) I)).ownsRow w4.heap.size 3 1 (.slice aw i ac) i ((List.range i).map fT)):=aU an bW (fun g h f=>by have:=(an.lt g h).1;omega);have bI:Hid (aB (fun k=>k=tb) w4 (d.setCell (ag tb 1) (aC L (i+1) I))):=((cv.o.mono (S':=fun k=>k=tb\/w4.heap.size<=k) (fun k h=>.inl h)).trans (Y.mono (fun k h=>.inr (al k h).1))).strip.set (a:=(ag tb 1)) _ (.inl rfl);have ei:=Y.size;clear Y cU cV cf bo a5 b4 dw bP cC cv al an bs T X ar G bW
   go_upto_region 15 with fail
   obtain⟨P,cG⟩:∃P,P=d.setCell (ag tb 1) (aC L (i+1) I):=⟨_,rfl⟩;rw[<-cG]at cD bQ ao bI |-;have dM:w4.heap.size<=P.heap.size:=bI.o.size;clear cG dT f8
   go_wp2_with (at_builtin;refine cB nX w4.heap.size ao.o [.int .i64 (i:Nat)] rfl (by simp[Value.oneCell']) rfl _ _ rfl rfl _ rfl dE aa dM ?_;intro dZ d0 dH dD ec)
   go_roundg (n-(i+1))
   case measure=>omega
   case rel=>
    have bU:aB (fun k=>(Value.slice aw i ac).ownBlock=some k) P d0:=(aB.refl _ P).grown dD (fun k aO=>.inl aO);refine⟨i+1,_,dZ,by go_num,rfl,aa,aA _,bu bU cD.o (fun h=>by have:=(ao.o.lt tb h).1;omega),aU bQ.o bU (fun g h f=>bB bQ.o ao.o ai g h f),?_,?_⟩
    .show World.ownsRow _ _ _ _ _ _ _;rw[qB,bJ];exact dH
    .exact((bI.o.mono (S':=fun k=>k=tb\/w4.heap.size<=k) (fun k h=>.inl h)).trans (bU.mono (fun k h=>.inr (ao.o.lt k h).1))).strip
  .obtain rfl:i=n:=aa;obtain⟨aw,ac,rfl⟩:=fK T.o;have a0:Hid (SN wr w.heap.size fb tb tc i (.slice q i m) (.slice t M nc) D R):=H.o.kept G.o (fun k y f=>by subst f;exact⟨_,_,_,V.o,ai,ai,ai,ai⟩);have bx:Hid (Below w.heap.size w wr):=F.o.trans (G.o.toBelow F.o.size (fun k h=>aa));have bd:=X.o;rw[jc (by unfold cz;simp;omega)]at bd;have bS:=af bd;have c2:=G.o.size;have a8:=T.o;have br:=af a8;have aS:=ar.o;have B:=a0.o.Mg;have cF:wr.cell? (ag tb 0)=some (.slice q i m):=aI aS;have dk:wr.cell? (ag tc 0)=some (aj tb):=aI B;obtain⟨_,_,b3,-,-,aQ⟩:=bV.aD bq ai a0.o.row;injection b3 with b0 b1 b2;subst b0;clear b1 b2;have aL:∀g,(Value.slice aw i ac).ownBlock=some g->w4.heap.size<=g:=fun g h=>(a8.lt g h).1;have cp:=af (Qu a1.o.2 a1.o.1 z aa a8 dk cF aQ (fun g h=>⟨by have:=aL g h;omega,by have:=aL g h;omega,fun ad e a7=>by
    have b5:=Qv H.o.row ad e;have:=(H.o.row.lt _ b5).2;have:=aL g h;omega⟩))
   have cr:=af aL;obtain⟨r,s,rfl⟩:=fK bd;clear bd a8 aS B aQ aL bZ t0 cF dk X T G
   go_wp2_with fail
   refine cp.o.mono ?_;rintro e j ⟨rfl,c0,aP⟩;have bL:Hid (SN j w.heap.size fb tb tc i (.slice q i m) (.slice t M nc) D R):=a0.o.kept aP (fun k y f=>by obtain⟨cs,fr,e⟩:=Dp br.o f;exact⟨cs,_,fr,e,ai,ai,ai,ai⟩);have bO:Hid (j.heap[tb]? =some (NH (.slice q i m) (.slice r i s) fb (.slice t M nc) (aM) i)):=bu aP ar.o (fun h=>by have:=cr.o tb h;omega);have dp:Hid (j.ownsRow w.heap.size 2 1 (.slice r i s) i ((cz R).map (Value.int .i64))):=bM (aU bS.o aP (fun g h f=>bB bS.o br.o ai g h f)) F.o.size;have bt:=af c0;have bA:Hid (Below w.heap.size w j):=bx.o.trans (aP.toBelow bx.o.size (fun k h=>by have:=cr.o k h;have:=F.o.size;omega));have dP:=(bg.1 bO.o).1;have ek:=(bg.1 bL.o.Mg).1;have aS:=bO.o;have B:=bL.o.Mg;clear c0 aP cp a0 bx bS br ar ck c6 c2;have a5:=ah (w:=j) (ad:=(ag tc 0)) (v:=aj tb) (aI B);have b4:=ah (w:=j) (ad:=(ag tb 3)) (v:=.slice t M nc) (aI aS);clear aS B
   go_upto_region 18 with fail
   refine au (fun W=>∃p:aR j,W=p.W) [8,9,10] [(0,true),(2,true),(3,false),(4,false),(5,true),(6,false)] ⟨⟨_,(aJ _ _).drew⟩,rfl⟩ 5 ?_;refine ay 1 rfl fun K u=>?_;obtain⟨w6,J⟩:∃w6,w6=(j.alloc (.cells #[ae (-1)] 3)).drew:=⟨_,rfl⟩;have x:Below j.heap.size j w6:=by rw[J];exact((aJ _ _).alloc (aA _) _).drew
   have ab:w6.heap[j.heap.size]? =some (.cells #[ae (-1)] 3 (0,0)):=by rw[J];exact bY j _
   go_simp;rw[<-J];clear J;refine u _ _ (fun _ _=>⟨⟨_,x⟩,rfl⟩) ?_;clear u K;refine ay 7 rfl fun K u=>?_;refine aY KQ rfl _ _ rfl (vals:=#[aC j.heap.size 1 1,ae M]) rfl (Qs w6 j.heap.size M ab aa) ?_;rintro e C ⟨da,rfl,ce,cQ⟩;have Z:Below j.heap.size j C:=x.trans (cQ.mono x.size);refine⟨_,rfl,u _ _ (fun _ _=>⟨⟨_,Z⟩,rfl⟩) ?_⟩;clear u K;refine aF [8,9,10] ?_;have O:=(Z.block tb dP).trans bO.o;have dS:C.cell? (ag tb 4)=some (aM):=aI O;have f7:C.frozen? (ag tb 4)=false:=aI O;obtain⟨aG,aN,rfl⟩:=fK ce;obtain⟨d,a4⟩:∃d,d=C.setCell (ag tb 4) (.slice aG M aN):=⟨_,rfl⟩;have Q:aB (fun k=>k=tb) C d:=by rw[a4];exact(aB.refl (fun k=>k=tb) C).set (a:=(ag tb 4)) _ (.inl rfl)
   have a2:aB (fun _=>False) j C:=(aB.refl _ j).below Z;have cL:SN C w.heap.size fb tb tc i (.slice q i m) (.slice t M nc) D R:=bL.o.kept a2 (fun k y f=>f.elim);have E:SN d w.heap.size fb tb tc i (.slice q i m) (.slice t M nc) D R:=cL.kept Q (fun k y f=>by subst f;exact⟨_,_,_,O,ai,ai,ai,ai⟩);have b6:=fH (aU dp.o a2 (fun _ _ h=>h)) Q O ai;have a9:=fH ce Q O ai;have cI:=fH (aU bt.o a2 (fun _ _ h=>h)) Q O ai;have dJ:j.heap.size<=w6.heap.size:=x.size;have dK:j.heap.size<=C.heap.size:=Z.size;have dL:C.heap.size<=d.heap.size:=Q.size;have ej:=bA.o.size;have cu:Hid (dz d w.heap.size d.heap.size tb fb R (fun _=>none) i ⟨.slice q i m,.slice r i s,.slice t M nc,.slice aG M aN,D⟩):=by
    refine⟨by rw[a4];exact dC C tb 4 _ _ _ O,⟨dN,aa,bj.1,(bg.1 E.iU.blk).1,aA _⟩,by rw[z];exact E.row,by rw[z];exact b6,by rw[z];exact E.iU,by rw[z];exact E.jD,?_,?_⟩
    .rw[z,<-bK.o,Qt];exact bM a9 aa
    .rintro v (rfl|rfl|rfl|rfl|rfl) g e
     .exact(E.row.lt g e).2
     .exact(b6.lt g e).2
     .exact(E.jD.lt g e).2
     .exact(a9.lt g e).2
     .exact(E.iU.row.lt g e).2
   have aZ:Hid (Below w.heap.size w d):=(bA.o.trans (Z.mono bA.o.size)).trans (Q.toBelow aa (fun k h=>aa));have an:=af cI;have bN:=af E.Mg;have dO:tc<d.heap.size:=(bg.1 E.Mg).1;have bG:Hid (∀g,(Value.slice aG M aN).ownBlock=some g->j.heap.size<=g):=fun g e=>by have:=(a9.lt g e).1;omega
   clear a5 b4 x ab ce cQ Z O Q a2 cL E b6 a9 cI dJ dK dL
   go_upto_region 19 with fail
   rw[<-a4];clear a4 dS f7;by_cases cH:i=0
   .have d5:decide ((i:Int)>0)=false:=aH;have d6:decide ((0:Int)<(i:Int))=false:=aH;have d7:decide (0<i)=false:=aH;have cT:Da R=fun _=>none:=by
     have dx:R=[]:=iC aa;subst dx;unfold Da;rw[show ed []=[]from iC (by rw[kJ];rfl),zM]
    have bD:Hid (Gy w R (.returned (.tuple #[aj tb,ae 0])) d):=⟨tb,fb,⟨.slice q i m,.slice r i s,.slice t M nc,.slice aG M aN,D⟩,rfl,by rw[cT,z];exact cu.o,aZ.o⟩;have B:=bN.o;have t8:d.cell? (ag tc 0)=some (aj tb):=aI B;clear cT B cH;go_wp2;go_ret2;exact bD.o
   .have a6:0<i:=aa;have d5:decide ((i:Int)>0)=true:=aH;have d6:decide ((0:Int)<(i:Int))=true:=aH;have d7:decide (0<i)=true:=aH;have bh:Below d.heap.size d d.drew:=(aJ _ _).drew;have cc:=cu.o.below bh (aA _);have bl:=cc.iU.blk;rw[z]at bl;have dm:=af (jV fb i a6 aa d.drew (aI bl) (aI bl));obtain⟨dl,d4,d8⟩:=bR 0 i a6;have dA:=fJ 0 i a6;obtain⟨_,_,dq,-,cR,cY⟩:=Rd.aD (enc:=fT) (az an.o bh);injection dq with dr ds dt;subst dr dt;have am:=af (NM aa (dU 0 i) 0 (by rw[z];exact kH i a6) dl aa (ed R) d.drew (fun _=>none) aw ac cc cY (by rw[kJ];omega) cR (fun ad e a7=>by
     have b5:=Qv bt.o ad e;have:=(bt.o.lt _ b5).2;have:=bG.o _ a7;omega) (fun k aO=>by have:=(ru a1.o.1 a1.o.2).lt aO;omega))
    rw[kJ,z,show(dU 0 i).root 0=2*i-2 by unfold FT.root;omega]at am;have dn:Hid (fillH (dU 0 i) 0 (ed R) (fun _=>none)=Da R):=by show _=_;unfold Da;rw[z]
    have B:=bN.o;have a5:=ah (w:=d) (ad:=(ag tc 0)) (v:=aj tb) (aI B);clear B bl cc dl d4 d8 dA cR cY ds cH
    go_upto_region 20 with fail
    refine au (fun W=>∃p:aR d,W=p.W) [4] [(0,true),(1,false),(3,false)] ⟨⟨_,(aJ _ _).drew⟩,rfl⟩ 2 ?_;refine ay 2 rfl fun K u=>?_;refine aY mW rfl _ _ rfl (vals:=#[aj fb]) rfl dm.o ?_;rintro e w' ⟨rfl,dv⟩;subst dv;refine⟨_,rfl,u _ _ (fun _ _=>⟨⟨_,bh⟩,rfl⟩) ?_⟩;clear u K;refine aF [4] ?_
    go_wp2_with fail
    refine am.o.mono ?_;rintro e P ⟨rfl,cJ,ba⟩;have c5:=(ba.block tc (show tc<d.drew.heap.size from dO) (fun h=>by have:=bG.o tc h;omega)).trans (show d.drew.heap[tc]? =_ from bN.o);have t9:P.cell? (ag tc 0)=some (aj tb):=aI c5;have bD:Hid (Gy w R (.returned (.tuple #[aj tb,ae 0])) P):=by
     refine⟨tb,fb,⟨.slice q i m,.slice r i s,.slice t M nc,.slice aG M aN,D⟩,rfl,?_,?_⟩
     .rw[<-dn.o,z];exact cJ.grow (by have:=ba.size;exact this) (aA _)
     .exact(aZ.o.trans (bh.mono aZ.o.size)).trans (ba.toBelow (by have:=aZ.o.size;exact this) (fun k h=>by have:=bG.o k h;omega))
    clear cJ ba c5;go_wp2;go_ret2;exact bD.o
end
section
open Go.RowKit Go.Sort Go.Shelf Go.Lib Go.Maps
def uu (w:World) (lo hi tb n0:Nat) (l:List Pt):Prop:=
 ∃fb R h V,dz w lo hi tb fb R h l.length V/\mq R h/\zP R h l/\R.length=n0/\n0<=20000
def Ay (n:Nat):Nat:=6*Lib.bitLen n+1
section
variable {w w':World} {lo hi tb n0:Nat} {l:List Pt}
theorem uu.kept {S:Nat->Prop} (h:uu w lo hi tb n0 l) (K:aB S w w') (hS:∀k,lo<=k->k<hi->¬S k):uu w' lo hi tb n0 l:=by
 have⟨fb,R,h,V,a,b⟩:=h;exact⟨fb,R,h,V,a.kept K hS,b⟩
theorem uu.Gt (h:uu w lo hi tb n0 l):l.length<=n0/\n0<=20000:=by
 have⟨fb,R,h,V,c,a,b,d,e⟩:=h;have:=a.few;have:=b.len;omega
theorem UX (a:Option Addr) (c:Nat) (l:List Pt) (w:World) (j:bV bX 3 w a l) (k:l.length<=20000) (m:Jw l) (hu:lF l=true):
  aK 37 #[.slice a l.length c] w fun e w'=>∃tb,e=.returned (.tuple #[aj tb,ae 0])/\uu w' w.heap.size w'.heap.size tb l.length l/\Below w.heap.size w w':=
 (KR a c l w j k m hu).mono fun e w' ⟨tb,fb,V,i,b,h⟩=>by
  have g:(ids l).Nodup:=by unfold lF at hu;simpa using hu
  have f:=gz g;have hid:(ids (fC l)).Nodup:=((dV l).map _).nodup_iff.2 g;have d:(fC l).length=l.length:=(dV l).length_eq;rw[d]at b;exact⟨tb,i,⟨fb,_,_,V,b,(L6 f hid).1,(NC f hid).trans (dV l),d,aa⟩,h⟩
theorem UY (h:uu w lo hi tb n0 l) (x1 x2 y:Int):
  aK 41 #[aj tb,ae x1,ae x2,ae y] w fun e w'=>∃v,∃c:Nat,e=.returned (.tuple #[v,ae (c:Nat)])/\((rZ l x1 x2 y).length<=c/\c<=2*(rZ l x1 x2 y).length+Ay n0)/\w'.ownsRow w.heap.size 27 1 v (rZ l x1 x2 y).length ((rZ l x1 x2 y).map (Value.int .u32))/\Below w.heap.size w w':=by
 have⟨fb,R,h,V,j,a,k,m,p⟩:=h;refine(KL j a aa x1 x2 y).mono ?_;rintro e w' ⟨v,o,g,n⟩;have d:(lC true R h x1 x2 y).1=yl R h x1 x2 y:=by rw[Gw a true x1 x2 y];simp
 have⟨i,f⟩:=Db k x1 x2 y;have b:=zQ a aa true x1 x2 y;rw[d,f,m]at b;rw[d,i,f]at g;refine⟨v,_,o,⟨b.1,?_⟩,g,n⟩;have:=b.2;unfold Ay;simp only[gJ]at this;omega
theorem Xi (h:uu w lo hi tb n0 l) (x1 x2 y:Int):
  aK 75 #[aj tb,ae x1,ae x2,ae y] w fun e w'=>(∃c:Nat,e=.returned (.tuple #[.bool (decide (0<(l.filter (oV x1 x2 y)).length)),ae c])/\c<=Ay n0)/\Below w.heap.size w w':=by
 have⟨fb,R,h,V,j,a,k,m,o⟩:=h;refine(Qn j a aa x1 x2 y).mono ?_;rintro e w' ⟨f,n⟩;have g:(lC false R h x1 x2 y).1=(yl R h x1 x2 y).take 1:=by rw[Gw a false x1 x2 y];simp
 have b:=(Db k x1 x2 y).2;rw[Iw]at b;have d:=(zQ a aa false x1 x2 y).2;rw[m]at d;have i:decide (0<(lC false R h x1 x2 y).1.length)=decide (0<(l.filter (oV x1 x2 y)).length):=by
  rw[g,<-b,dO];simp only[pF];omega
 rw[i]at f;refine⟨⟨_,f,?_⟩,n⟩;unfold Ay;simpa using d
end
end
end Go.Proofs.YtkjdbndekceffaaGreat
