/- Made small by a program. -/
import Derived.Test.YtkjdbndekceffaaGreatW11
set_option linter.unusedSimpArgs false
set_option linter.unusedVariables false
set_option maxRecDepth 100000
set_option maxHeartbeats 16000000
namespace Go.Proofs.YtkjdbndekceffaaGreat
open Tryz
section
open Go Go.RowKit
abbrev iy:=Nat->Option Nat
def fV (h:iy) (k:Nat) (v:Option Nat):iy:=fun j=>if j=k then v else h j
theorem fO (h:iy) (k:Nat) (v:Option Nat):fV h k v k=v:=by simp[fV]
theorem gU {h:iy} {k j:Nat} {v:Option Nat} (e:j≠k):fV h k v j=h j:=by simp[fV,e]
def held (h:iy):FT->Nat->List Nat
 |.leaf _,s=>(h s).toList
 |.node l r,s=>(h ((FT.node l r).root s)).toList++(held h l s++held h r (s+l.size))
theorem bP {h h':iy}:∀(t:FT) (s:Nat),(∀k,s<=k->k<s+t.size->h' k=h k)->held h' t s=held h t s
 |.leaf a,s,e=>by
  show(h' s).toList=(h s).toList;rw[e s (ay _) (by simp[FT.size])]
 |.node l r,s,e=>by
  have f:(FT.node l r).size=l.size+r.size+1:=rfl;have d:(FT.node l r).root s=s+(l.size+r.size+1)-1:=rfl;simp only[held];rw[e _ (by omega) (by omega),bP l s (fun k b c=>e k b (by omega)),bP r _ (fun k b c=>e k (by omega) (by omega))]
theorem oq {h:iy} {t:FT} {s i:Nat} (e:h (t.root s)=some i):∃L,held h t s=i::L:=by
 cases t with
 |leaf a=>exact⟨[],by show(h s).toList=_;rw[show h s=some i from e];rfl⟩
 |node l r=>exact⟨_,by simp only[held];rw[e];rfl⟩
theorem ou {h:iy}:∀(t:FT) (s:Nat),(∀k,s<=k->k<s+t.size->h k=none)->held h t s=[]
 |.leaf a,s,e=>by
  show(h s).toList=[];rw[e s (ay _) (by simp[FT.size])];rfl
 |.node l r,s,e=>by
  have f:(FT.node l r).size=l.size+r.size+1:=rfl;have d:(FT.node l r).root s=s+(l.size+r.size+1)-1:=rfl;simp only[held];rw[e _ (by omega) (by omega),ou l s (fun k b c=>e k b (by omega)),ou r _ (fun k b c=>e k (by omega) (by omega))];rfl
def gG (lt:Nat->Nat->Prop) (h:iy):FT->Nat->Prop
 |.leaf a,s=>∀i,h s=some i->i=a
 |.node l r,s=>(∀i,h ((FT.node l r).root s)=some i->(l.lo<=i/\i<r.hi)/\(∀j,j∈held h l s->lt i j)/\∀j,j∈held h r (s+l.size)->lt i j)/\
   (h ((FT.node l r).root s)=none->held h l s=[]/\held h r (s+l.size)=[])/\gG lt h l s/\gG lt h r (s+l.size)
section
variable {lt:Nat->Nat->Prop} {h h':iy}
theorem gG.congr:∀{t:FT} {s:Nat},(∀k,s<=k->k<s+t.size->h' k=h k)->gG lt h t s->gG lt h' t s
 |.leaf a,s,e,g=>by
  intro i hi;rw[e s (ay _) (by simp[FT.size])]at hi;exact g i hi
 |.node l r,s,e,g=>by
  have o:(FT.node l r).size=l.size+r.size+1:=rfl;have n:(FT.node l r).root s=s+(l.size+r.size+1)-1:=rfl;have c:=fun k (b:s<=k) (f:k<s+l.size)=>e k b (by omega);have d:=fun k (b:s+l.size<=k) (f:k<s+l.size+r.size)=>e k (by omega) (by omega);have⟨b,f,j,m⟩:=g;refine⟨?_,?_,j.congr c,m.congr d⟩
  .rw[e _ (by omega) (by omega),bP l s c,bP r _ d];exact b
  .rw[e _ (by omega) (by omega),bP l s c,bP r _ d];exact f
theorem gG.span:∀{t:FT} {s:Nat},t.wf->gG lt h t s->∀i∈held h t s,t.lo<=i/\i<t.hi
 |.leaf a,s,b,c,i,hi=>by
  have:=c i (by simpa[held]using hi);subst this;simp[FT.lo,FT.hi]
 |.node l r,s,b,c,i,hi=>by
  have⟨d,g,e,f⟩:=c;have j:=FT.eQ l b.1;have k:=FT.eQ r b.2.1;have m:=b.2.2;simp only[held,bT,zz]at hi;show l.lo<=i/\i<r.hi;rcases hi with hi|hi|hi
  .exact(d i hi).1
  .have:=e.span b.1 i hi;omega
  .have:=f.span b.2.1 i hi;omega
theorem gG.empty:∀{t:FT} {s:Nat},gG lt h t s->h (t.root s)=none->held h t s=[]
 |.leaf a,s,b,e=>by show(h s).toList=[];rw[show h s=none from e];rfl
 |.node l r,s,b,e=>by
  obtain⟨g,f,i,j⟩:=b;obtain⟨c,d⟩:=f e;simp only[held];rw[e,c,d];rfl
theorem gG.first:∀{t:FT} {s i:Nat},gG lt h t s->h (t.root s)=some i->∀j∈held h t s,j=i\/lt i j
 |.leaf a,s,i,c,e,j,hj=>by
  left;have:h s=some j:=by simpa[held]using hj
  rw[show h s=some i from e]at this;injection this with this;exact this.symm
 |.node l r,s,i,c,e,j,hj=>by
  have⟨b,d,f,g⟩:=c;simp only[held,bT,zz]at hj;rcases hj with hj|hj|hj
  .rw[e]at hj;injection hj with hj;exact .inl hj.symm
  .exact .inr ((b i e).2.1 j hj)
  .exact .inr ((b i e).2.2 j hj)
theorem gG.none:∀(t:FT) (s:Nat),(∀k,s<=k->k<s+t.size->h k=Option.none)->gG lt h t s
 |.leaf a,s,e=>by
  intro i hi;rw[e s (ay _) (by simp[FT.size])]at hi;cases hi
 |.node l r,s,e=>by
  have j:(FT.node l r).size=l.size+r.size+1:=rfl;have g:(FT.node l r).root s=s+(l.size+r.size+1)-1:=rfl;have b:=fun k (d:s<=k) (f:k<s+l.size)=>e k d (by omega);have c:=fun k (d:s+l.size<=k) (f:k<s+l.size+r.size)=>e k (by omega) (by omega);refine⟨fun i hi=>?_,fun _=>⟨ou l s b,ou r _ c⟩,gG.none l s b,gG.none r _ c⟩;rw[e _ (by omega) (by omega)]at hi;cases hi
end
def fillH:FT->Nat->List Nat->iy->iy
 |.leaf _,s,L,h=>match L with
  |[]=>h
  |i::_=>fV h s (some i)
 |.node l r,s,L,h=>match L with
  |[]=>h
  |i::L=>fillH r (s+l.size) (L.filter fun j=>!decide (j<l.hi)) (fillH l s (L.filter fun j=>decide (j<l.hi)) (fV h ((FT.node l r).root s) (some i)))
theorem xS (t:FT) (s:Nat) (h:iy):fillH t s [] h=h:=by cases t<;>rfl
theorem si:∀(t:FT) (s:Nat) (L:List Nat) (h:iy) (k:Nat),(k<s\/s+t.size<=k)->fillH t s L h k=h k
 |.leaf a,s,[],h,k,b=>rfl
 |.leaf a,s,i::L,h,k,b=>by
  simp only[FT.size]at b;exact gU (by omega)
 |.node l r,s,[],h,k,b=>rfl
 |.node l r,s,i::L,h,k,b=>by
  have d:(FT.node l r).size=l.size+r.size+1:=rfl;have c:(FT.node l r).root s=s+(l.size+r.size+1)-1:=rfl;simp only[fillH];rw[si r _ _ _ k (by omega),si l _ _ _ k (by omega)];exact gU (by omega)
theorem uH {lt:Nat->Nat->Prop}:∀(t:FT) (s:Nat) (L:List Nat) (h:iy),t.wf->L.Pairwise lt->L.Nodup->(∀i∈L,t.lo<=i/\i<t.hi)->(∀k,s<=k->k<s+t.size->h k=none)->
  gG lt (fillH t s L h) t s/\(held (fillH t s L h) t s).Perm L
 |t,s,[],h,m,f,o,p,n=>by
  rw[xS];exact⟨gG.none t s n,by rw[ou t s n]⟩
 |.leaf a,s,i::L,h,m,f,o,p,n=>by
  simp only[FT.lo,FT.hi]at p;have P:i=a:=by have:=p i (by simp);omega
  have M:L=[]:=by
   cases L with
   |nil=>rfl
   |cons j L=>
    have:=p j (by simp);have:i≠j:=(lY.1 o).1|>fun h e=>h (by simp[e]);omega
  subst P M;refine⟨fun j b=>?_,?_⟩
  .simp only[fillH,fO]at b;injection b with b;exact b.symm
  .show((fV h s (some i)) s).toList.Perm _;rw[fO];exact oL _
 |.node l r,s,i::L,h,m,f,o,p,n=>by
  have R:(FT.node l r).size=l.size+r.size+1:=rfl;have Q:(FT.node l r).root s=s+(l.size+r.size+1)-1:=rfl;have S:=FT.eQ l m.1;have T:=FT.eQ r m.2.1;have U:=m.2.2;rw[lh]at f;rw[lY]at o;have z:∀j∈i::L,l.lo<=j/\j<r.hi:=p;simp only[fillH];generalize I:fV h ((FT.node l r).root s) (some i)=c;have C:∀k,k≠(FT.node l r).root s->c k=h k:=fun k g=>by rw[<-I];exact gU g
  have K:c ((FT.node l r).root s)=some i:=by rw[<-I];exact fO _ _ _
  generalize v:L.filter (fun j=>decide (j<l.hi))=A;generalize w:L.filter (fun j=>!decide (j<l.hi))=B;have G:∀j,j∈A↔j∈L/\j<l.hi:=fun j=>by rw[<-v];simp
  have H:∀j,j∈B↔j∈L/\¬j<l.hi:=fun j=>by rw[<-w];simp
  have q:=uH (lt:=lt) l s A c m.1 (by rw[<-v];exact f.2.filter _) (by rw[<-v];exact o.2.filter _) (fun j b=>by have:=(G j).1 b;have:=z j (kC _ this.1);omega) (fun k c d=>by rw[C k (by omega)];exact n k c (by omega));generalize N:fillH l s A c=d at q |-;have D:∀k,(k<s\/s+l.size<=k)->d k=c k:=fun k g=>by rw[<-N];exact si l s A c k g
  have u:=uH (lt:=lt) r (s+l.size) B d m.2.1 (by rw[<-w];exact f.2.filter _) (by rw[<-w];exact o.2.filter _) (fun j b=>by have:=(H j).1 b;have:=z j (kC _ this.1);omega) (fun k c d=>by rw[D k (by omega),C k (by omega)];exact n k (by omega) (by omega));generalize O:fillH r (s+l.size) B d=y at u |-;have E:∀k,(k<s+l.size\/s+l.size+r.size<=k)->y k=d k:=fun k g=>by rw[<-O];exact si r _ B d k g
  have F:∀k,s<=k->k<s+l.size->y k=d k:=fun k _ g=>E k (.inl g);have x:y ((FT.node l r).root s)=some i:=by rw[E _ (by omega),D _ (by omega),K]
  have J:=bP l s F;have hp:(A++B).Perm L:=by rw[<-v,<-w];exact List.filter_append_perm _ L
  refine⟨⟨fun j b=>?_,fun b=>?_,q.1.congr F,u.1⟩,?_⟩
  .rw[x]at b;injection b with b;subst b;refine⟨z i (by simp),fun j b=>?_,fun j b=>?_⟩
   .rw[J]at b;exact f.1 j ((G j).1 ((q.2.mem_iff).1 b)).1
   .exact f.1 j ((H j).1 ((u.2.mem_iff).1 b)).1
  .rw[x]at b;cases b
  .simp only[held];rw[x,J];exact((q.2.append u.2).trans hp).cons i
def downG (more:Bool) (h:iy) (yv:Nat->Int) (y:Int) (fr ub:Nat):FT->Nat->List Nat×Nat×Bool
 |.leaf a,s=>match h s with
  |none=>([],1,true)
  |some i=>if y<yv i\/a+1<=fr\/ub<=a then([],1,true)else if fr<=i/\i<ub then([i],1,more)else([],1,true)
 |.node l r,s=>match h ((FT.node l r).root s)with
  |none=>([],1,true)
  |some i=>if y<yv i\/r.hi<=fr\/ub<=l.lo then([],1,true)else
   if(fr<=i/\i<ub)/\more=false then([i],1,false)else
   ((if fr<=i/\i<ub then[i]else[])++(downG more h yv y fr ub l s).1++(if(downG more h yv y fr ub l s).2.2 then(downG more h yv y fr ub r (s+l.size)).1 else[]),
    1+(downG more h yv y fr ub l s).2.1+(if(downG more h yv y fr ub l s).2.2 then(downG more h yv y fr ub r (s+l.size)).2.1 else 0),
    (downG more h yv y fr ub l s).2.2&&(downG more h yv y fr ub r (s+l.size)).2.2)
def yG (yv:Nat->Int) (y:Int) (fr ub i:Nat):Bool:=decide (fr<=i/\i<ub/\yv i<=y)
section
variable {lt:Nat->Nat->Prop} {h:iy} {yv:Nat->Int} {y:Int} {fr ub:Nat}
theorem mq {more:Bool} {t:FT} {s:Nat} (e:h (t.root s)=none):downG more h yv y fr ub t s=([],1,true):=by
 cases t with
 |leaf a=>have b:h s=none:=e;simp only[downG];rw[b]
 |node l r=>simp only[downG];rw[e]
theorem lU {more:Bool} {t:FT} {s i:Nat} (e:h (t.root s)=some i) (hp:y<yv i\/t.hi<=fr\/ub<=t.lo):downG more h yv y fr ub t s=([],1,true):=by
 cases t with
 |leaf a=>
  have c:h s=some i:=e;have b:y<yv i\/a+1<=fr\/ub<=a:=hp;simp only[downG];rw[c];simp only;rw[aK b]
 |node l r=>
  have b:y<yv i\/r.hi<=fr\/ub<=l.lo:=hp;simp only[downG];rw[e];simp only;rw[aK b]
theorem uI {more:Bool} {a s i:Nat} (e:h s=some i) (hp:¬(y<yv i\/a+1<=fr\/ub<=a)):downG more h yv y fr ub (.leaf a) s=(if fr<=i/\i<ub then[i]else[],1,!(decide (fr<=i/\i<ub)&&!more)):=by
 simp only[downG];rw[e];simp only;rw[aI hp];by_cases b:fr<=i/\i<ub
 .rw[aK b,aK b];simp[b]
 .rw[aI b,aI b];simp[b]
theorem AL {t:FT} {s i:Nat} (e:h (t.root s)=some i) (hp:¬(y<yv i\/t.hi<=fr\/ub<=t.lo)) (b:fr<=i/\i<ub):downG false h yv y fr ub t s=([i],1,false):=by
 cases t with
 |leaf a=>
  have c:h s=some i:=e;rw[uI c hp];simp[b]
 |node l r=>
  have d:¬(y<yv i\/r.hi<=fr\/ub<=l.lo):=hp;simp only[downG];rw[e];simp only;rw[aI d];simp[b]
theorem AO {more:Bool} {l r:FT} {s i:Nat} (e:h ((FT.node l r).root s)=some i) (hp:¬(y<yv i\/r.hi<=fr\/ub<=l.lo)) (b:(decide (fr<=i/\i<ub)&&!more)=false):downG more h yv y fr ub (.node l r) s=
   ((if fr<=i/\i<ub then[i]else[])++(downG more h yv y fr ub l s).1++(if(downG more h yv y fr ub l s).2.2 then(downG more h yv y fr ub r (s+l.size)).1 else[]),
    1+(downG more h yv y fr ub l s).2.1+(if(downG more h yv y fr ub l s).2.2 then(downG more h yv y fr ub r (s+l.size)).2.1 else 0),
    (downG more h yv y fr ub l s).2.2&&(downG more h yv y fr ub r (s+l.size)).2.2):=by
 have c:¬((fr<=i/\i<ub)/\more=false):=fun a=>by
  rw[a.2]at b;simp[a.1]at b
 conv=>lhs;simp only[downG]
 rw[e];simp only;rw[aI hp,aI c]
theorem NC {more:Bool} {t:FT} {s i:Nat} (e:h (t.root s)=some i) (hp:¬(y<yv i\/t.hi<=fr\/ub<=t.lo)) (b:fr<=i/\i<ub):[i] <+: (downG more h yv y fr ub t s).1:=by
 cases t with
 |leaf a=>
  have c:h s=some i:=e;rw[uI c hp,aK b];exact List.prefix_rfl
 |node l r=>
  cases more with
  |false=>rw[AL e hp b];exact List.prefix_rfl
  |true=>
   rw[AO e hp (by simp),aK b,dW];exact List.prefix_append _ _
theorem Ep {t:FT} {s i:Nat} (d:t.wf) (b:gG lt h t s) (c:∀i j,lt i j->yv i<=yv j) (e:h (t.root s)=some i) (hp:y<yv i\/t.hi<=fr\/ub<=t.lo):(held h t s).filter (yG yv y fr ub)=[]:=by
 refine wK.2 fun j a=>?_;have f:=b.span d j a;have g:yv i<=yv j:=by
  rcases b.first e j a with h3|h3
  .rw[h3];exact uw _
  .exact c _ _ h3
 unfold yG;simp only[bW];omega
theorem uJ (f:∀i j,lt i j->yv i<=yv j):∀(t:FT) (s:Nat),t.wf->gG lt h t s->(downG true h yv y fr ub t s).1=(held h t s).filter (yG yv y fr ub)/\(downG true h yv y fr ub t s).2.2=true
 |.leaf a,s,d,b=>by
  cases e:h s with
  |none=>rw[mq (t:=.leaf a) e,b.empty e];exact⟨rfl,rfl⟩
  |some i=>
   by_cases hp:y<yv i\/(FT.leaf a).hi<=fr\/ub<=(FT.leaf a).lo
   .rw[lU (t:=.leaf a) e hp,Ep d b f e hp];exact⟨rfl,rfl⟩
   .have w:=b i e;simp only[downG,held];rw[e];have g:¬(y<yv i\/a+1<=fr\/ub<=a):=hp;simp only[aI g,Option.toList];by_cases c:fr<=i/\i<ub
    .rw[aK c];have:yG yv y fr ub i=true:=by unfold yG;simp only[bW];omega
     simp[this]
    .rw[aI c];have:yG yv y fr ub i=false:=by unfold yG;simp only[iA];omega
     simp[this]
 |.node l r,s,d,b=>by
  cases e:h ((FT.node l r).root s)with
  |none=>rw[mq e,b.empty e];exact⟨rfl,rfl⟩
  |some i=>
   by_cases hp:y<yv i\/(FT.node l r).hi<=fr\/ub<=(FT.node l r).lo
   .rw[lU e hp,Ep d b f e hp];exact⟨rfl,rfl⟩
   .obtain⟨u,v,k,m⟩:=b;have⟨n,o⟩:=uJ f l s d.1 k;have⟨p,q⟩:=uJ f r _ d.2.1 m;have g:¬(y<yv i\/r.hi<=fr\/ub<=l.lo):=hp;simp only[downG,held];rw[e];simp only[aI g,n,o,p,q,Option.toList,lW,lu,Dw];by_cases c:fr<=i/\i<ub
    .have:yG yv y fr ub i=true:=by unfold yG;simp only[bW];omega
     simp[this,c]
    .have:yG yv y fr ub i=false:=by unfold yG;simp only[iA];omega
     simp[this,c]
theorem K6 {α:Type} {a b:List α} (h:a≠[]):(a++b).take 1=a.take 1:=by
 cases a with
 |nil=>exact absurd rfl h
 |cons x a=>rfl
theorem xU (g:∀i j,lt i j->yv i<=yv j):∀(t:FT) (s:Nat),t.wf->gG lt h t s->(downG false h yv y fr ub t s).1=((held h t s).filter (yG yv y fr ub)).take 1/\((downG false h yv y fr ub t s).2.2=true↔(held h t s).filter (yG yv y fr ub)=[])
 |.leaf a,s,d,b=>by
  cases e:h s with
  |none=>rw[mq (t:=.leaf a) e,b.empty e];simp
  |some i=>
   by_cases hp:y<yv i\/(FT.leaf a).hi<=fr\/ub<=(FT.leaf a).lo
   .rw[lU (t:=.leaf a) e hp,Ep d b g e hp];simp
   .have A:=b i e;simp only[downG,held];rw[e];have m:¬(y<yv i\/a+1<=fr\/ub<=a):=hp;simp only[aI m,Option.toList];by_cases c:fr<=i/\i<ub
    .rw[aK c];have:yG yv y fr ub i=true:=by unfold yG;simp only[bW];omega
     simp[this]
    .rw[aI c];have:yG yv y fr ub i=false:=by unfold yG;simp only[iA];omega
     simp[this]
 |.node l r,s,d,b=>by
  cases e:h ((FT.node l r).root s)with
  |none=>rw[mq e,b.empty e];simp
  |some i=>
   by_cases hp:y<yv i\/(FT.node l r).hi<=fr\/ub<=(FT.node l r).lo
   .rw[lU e hp,Ep d b g e hp];simp
   .obtain⟨x,z,o,p⟩:=b;have⟨u,n⟩:=xU g l s d.1 o;have⟨v,w⟩:=xU g r _ d.2.1 p;have m:¬(y<yv i\/r.hi<=fr\/ub<=l.lo):=hp;simp only[downG,held];rw[e];simp only[aI m,Option.toList,lW,lu,Dw];by_cases c:fr<=i/\i<ub
    .have:yG yv y fr ub i=true:=by unfold yG;simp only[bW];omega
     simp[this,c]
    .have:yG yv y fr ub i=false:=by unfold yG;simp only[iA];omega
     simp only[c,false_and,jA,this,fK,u,v];cases k:(downG false h yv y fr ub l s).2.2 with
     |true=>
      have f:=n.1 k;simp only[gD,Bool.true_and,f,List.take_nil,fK];exact⟨rfl,w⟩
     |false=>
      have f:(held h l s).filter (yG yv y fr ub)≠[]:=fun q=>by rw[n.2 q]at k;cases k
      simp[f];exact(K6 f).symm
theorem uK (more:Bool):∀(t:FT) (s:Nat),(downG more h yv y fr ub t s).1.length<=(downG more h yv y fr ub t s).2.1
 |.leaf a,s=>by
  simp only[downG];split
  .simp
  .split
   .simp
   .split<;>simp
 |.node l r,s=>by
  have b:=uK more l s;have c:=uK more r (s+l.size);simp only[downG];split
  .simp
  .split
   .simp
   .split
    .simp
    .simp only[bq];split<;>split<;>simp<;>omega
theorem pV (more:Bool):∀(t:FT) (s:Nat),(downG more h yv y fr ub t s).2.1<=t.size
 |.leaf a,s=>by
  simp only[downG];split
  .simp[FT.size]
  .split
   .simp[FT.size]
   .split<;>simp[FT.size]
 |.node l r,s=>by
  have b:=pV more l s;have c:=pV more r (s+l.size);have d:(FT.node l r).size=l.size+r.size+1:=rfl;simp only[downG];split
  .simp;omega
  .split
   .simp;omega
   .split
    .simp;omega
    .simp only;split<;>omega
theorem sj {more:Bool} {m:Nat} (c:m=if more then 2 else 0):∀(t:FT) (s:Nat),t.wf->gG lt h t s->fr<=t.lo->t.hi<=ub->(downG more h yv y fr ub t s).2.1<=m*(downG more h yv y fr ub t s).1.length+1
 |.leaf a,s,b,d,f,g=>by
  simp only[downG];split
  .simp
  .split
   .simp
   .split<;>simp
 |.node l r,s,b,d,f,g=>by
  have k:(FT.node l r).lo=l.lo/\(FT.node l r).hi=r.hi:=⟨rfl,rfl⟩;have q:=FT.eQ l b.1;have u:=FT.eQ r b.2.1;have v:=b.2.2;cases e:h ((FT.node l r).root s)with
  |none=>rw[mq e];simp
  |some i=>
   have n:=(d.1 i e).1;have j:fr<=i/\i<ub:=by omega
   simp only[downG];rw[e];simp only;split
   .simp
   .cases more with
    |false=>simp[j]
    |true=>
     have o:=sj c l s b.1 d.2.2.1 (by omega) (by omega);have p:=sj c r (s+l.size) b.2.1 d.2.2.2 (by omega) (by omega);simp only[gD]at c;subst c;rw[aI (by simp)];simp only[bq,dY,fB];split
     .first|omega|(simp only[bq,dY,fB];omega)
     .first|omega|(simp only[bq,dY,fB];omega)
theorem su {more:Bool} {t:FT} {s:Nat} (hp:t.hi<=fr\/ub<=t.lo):downG more h yv y fr ub t s=([],1,true):=by
 cases e:h (t.root s)with
 |none=>exact mq e
 |some i=>exact lU e (.inr hp)
theorem sw {more:Bool} {m:Nat} (e:m=if more then 2 else 0):∀(t:FT) (s:Nat),t.wf->gG lt h t s->fr<=t.lo\/t.hi<=ub->(downG more h yv y fr ub t s).2.1<=m*(downG more h yv y fr ub t s).1.length+2*t.ht+1
 |.leaf a,s,b,c,hh=>by
  simp only[downG];split
  .simp
  .split
   .simp
   .split<;>simp
 |.node l r,s,b,c,hh=>by
  have B:(FT.node l r).lo=l.lo/\(FT.node l r).hi=r.hi:=⟨rfl,rfl⟩;have C:=FT.eQ l b.1;have D:=FT.eQ r b.2.1;have E:=b.2.2;have f:=sw e l s b.1 c.2.2.1;have g:=sw e r (s+l.size) b.2.1 c.2.2.2;have al:=sj (y:=y) (yv:=yv) (fr:=fr) (ub:=ub) e l s b.1 c.2.2.1;have j:=sj (y:=y) (yv:=yv) (fr:=fr) (ub:=ub) e r (s+l.size) b.2.1 c.2.2.2;have key:(downG more h yv y fr ub l s).2.1+(downG more h yv y fr ub r (s+l.size)).2.1<=m*(downG more h yv y fr ub l s).1.length+m*(downG more h yv y fr ub r (s+l.size)).1.length+2*(max l.ht r.ht)+2/\(downG more h yv y fr ub l s).2.1<=m*(downG more h yv y fr ub l s).1.length+2*(max l.ht r.ht)+1:=by
   rcases hh with hh|hh
   .have f:=f (.inl (by omega));by_cases q:l.hi<=ub
    .have al:=al (by omega) q;have g:=g (.inl (by omega));omega
    .rw[su (t:=r) (.inr (by omega))];simp only[fB];omega
   .have g:=g (.inr (by omega));by_cases p:fr<=r.lo
    .have j:=j p (by omega);have f:=f (.inr (by omega));omega
    .rw[su (t:=l) (.inl (by omega))];simp only[fB];omega
  simp only[downG,FT.ht];generalize downG more h yv y fr ub l s=n at*;generalize downG more h yv y fr ub r (s+l.size)=o at*;have⟨d,x,k⟩:=n;have⟨i,z,w⟩:=o;simp only at key |-;split
  .simp
  .split
   .simp
   .split
    .simp
    .have u:∀A:List Nat,m*(A++d++i).length=m*A.length+m*d.length+m*i.length:=fun A=>by rw[bq,bq,j4,j4]
     have v:∀A:List Nat,m*(A++d).length=m*A.length+m*d.length:=fun A=>by rw[bq,j4]
     cases k with
     |true=>simp only[gD];rw[u];omega
     |false=>simp only[qg,jA,iE];rw[v];omega
theorem uL {more:Bool} {m:Nat} (e:m=if more then 2 else 0):∀(t:FT) (s:Nat),t.wf->gG lt h t s->(downG more h yv y fr ub t s).2.1<=m*(downG more h yv y fr ub t s).1.length+4*t.ht+1
 |.leaf a,s,b,c=>by
  simp only[downG];split
  .simp
  .split
   .simp
   .split<;>simp
 |.node l r,s,b,c=>by
  have z:(FT.node l r).lo=l.lo/\(FT.node l r).hi=r.hi:=⟨rfl,rfl⟩;have D:=FT.eQ l b.1;have E:=FT.eQ r b.2.1;have F:=b.2.2;have B:=uL e l s b.1 c.2.2.1;have C:=uL e r (s+l.size) b.2.1 c.2.2.2;have g:=sw (y:=y) (yv:=yv) (fr:=fr) (ub:=ub) e l s b.1 c.2.2.1;have i:=sw (y:=y) (yv:=yv) (fr:=fr) (ub:=ub) e r (s+l.size) b.2.1 c.2.2.2;have key:(downG more h yv y fr ub l s).2.1+(downG more h yv y fr ub r (s+l.size)).2.1<=m*(downG more h yv y fr ub l s).1.length+m*(downG more h yv y fr ub r (s+l.size)).1.length+4*(max l.ht r.ht)+2/\(downG more h yv y fr ub l s).2.1<=m*(downG more h yv y fr ub l s).1.length+4*(max l.ht r.ht)+1:=by
   refine⟨?_,by omega⟩;by_cases p:ub<=r.lo
   .rw[su (t:=r) (.inr p)];simp only[fB];omega
   .by_cases o:l.hi<=fr
    .rw[su (t:=l) (.inl o)];simp only[fB];omega
    .have g:=g (.inr (by omega));have i:=i (.inl (by omega));omega
  simp only[downG,FT.ht];generalize downG more h yv y fr ub l s=k at*;generalize downG more h yv y fr ub r (s+l.size)=n at*;have⟨d,w,j⟩:=k;have⟨f,x,v⟩:=n;simp only at key |-;split
  .simp
  .split
   .simp
   .split
    .simp
    .have q:∀A:List Nat,m*(A++d++f).length=m*A.length+m*d.length+m*f.length:=fun A=>by rw[bq,bq,j4,j4]
     have u:∀A:List Nat,m*(A++d).length=m*A.length+m*d.length:=fun A=>by rw[bq,j4]
     cases j with
     |true=>simp only[gD];rw[q];omega
     |false=>simp only[qg,jA,iE];rw[u];omega
end
def pullH (lb:Nat->Nat->Bool):FT->Nat->iy->iy
 |.leaf _,s,h=>fV h s none
 |.node l r,s,h=>match h (l.root s),h (r.root (s+l.size))with
  |none,none=>fV h ((FT.node l r).root s) none
  |some i,none=>pullH lb l s (fV h ((FT.node l r).root s) (some i))
  |none,some j=>pullH lb r (s+l.size) (fV h ((FT.node l r).root s) (some j))
  |some i,some j=>if lb i j then pullH lb l s (fV h ((FT.node l r).root s) (some i))else pullH lb r (s+l.size) (fV h ((FT.node l r).root s) (some j))
structure Ord (lt:Nat->Nat->Prop) (lb:Nat->Nat->Bool) (n:Nat):Prop where
 tr:∀i j k,lt i j->lt j k->lt i k
 BK:∀i j,i<n->j<n->i≠j->lt i j\/lt j i
 dec:∀i j,lb i j=true↔lt i j
section
variable {lt:Nat->Nat->Prop} {lb:Nat->Nat->Bool} {n:Nat}
theorem jo:∀(t:FT) (s:Nat) (h:iy) (k:Nat),(k<s\/s+t.size<=k)->pullH lb t s h k=h k
 |.leaf a,s,h,k,b=>by
  simp only[FT.size]at b;exact gU (by omega)
 |.node l r,s,h,k,b=>by
  have d:(FT.node l r).size=l.size+r.size+1:=rfl;have c:(FT.node l r).root s=s+(l.size+r.size+1)-1:=rfl;have hu:∀v,fV h ((FT.node l r).root s) v k=h k:=fun v=>gU (by omega);simp only[pullH];cases h (l.root s)<;>cases h (r.root (s+l.size))<;>simp only
  .exact hu _
  .rw[jo r _ _ k (by omega),hu]
  .rw[jo l s _ k (by omega),hu]
  .split
   .rw[jo l s _ k (by omega),hu]
   .rw[jo r _ _ k (by omega),hu]
theorem y9 {l r:FT} {s i:Nat} {h b:iy} (m:(FT.node l r).wf)
  (c:b ((FT.node l r).root s)=some i) (g:gG lt b l s) (k:gG lt b r (s+l.size)) (f:l.lo<=i/\i<r.hi)
  (d:∀j∈held b l s,lt i j) (e:∀j∈held b r (s+l.size),lt i j):gG lt b (.node l r) s:=
 ⟨fun j a=>by
  rw[c]at a;injection a with a;subst a;exact⟨f,d,e⟩,(fun a=>by rw[c]at a;cases a),g,k⟩
theorem pW (O:Ord lt lb n):∀(t:FT) (s:Nat) (h:iy) (x:Nat),t.wf->t.hi<=n->gG lt h t s->h (t.root s)=some x->(held h t s).Nodup->
  gG lt (pullH lb t s h) t s/\(x::held (pullH lb t s h) t s).Perm (held h t s)
 |.leaf a,s,h,x,c,ab,af,e,V=>by
  have ag:h s=some x:=e;refine⟨fun i hi=>?_,?_⟩
  .simp only[pullH,fO]at hi;cases hi
  .show(x::((fV h s none) s).toList).Perm (h s).toList;rw[fO,ag];exact oL _
 |.node l r,s,h,x,c,ab,af,e,V=>by
  have ar:(FT.node l r).size=l.size+r.size+1:=rfl;have aq:(FT.node l r).root s=s+(l.size+r.size+1)-1:=rfl;have au:l.root s=s+l.size-1:=rfl;have aA:r.root (s+l.size)=s+l.size+r.size-1:=rfl;have pl:=l.size_pos;have aw:=r.size_pos;have ax:=FT.eQ l c.1;have ay:=FT.eQ r c.2.1;have az:=c.2.2;have ap:r.hi<=n:=ab;have⟨Z,aa,q,u⟩:=af;have aj:held h (.node l r) s=x::(held h l s++held h r (s+l.size)):=by simp only[held];rw[e];rfl
  rw[aj]at V |-;have ac:=(lY.1 V).2;rw[oF]at ac;have⟨ad,ae,av⟩:=ac;have hu:∀v k,k≠(FT.node l r).root s->fV h ((FT.node l r).root s) v k=h k:=fun v k z=>gU z;have U:∀v,fV h ((FT.node l r).root s) v ((FT.node l r).root s)=v:=fun v=>fO _ _ _;have S:∀v,∀k,s<=k->k<s+l.size->fV h ((FT.node l r).root s) v k=h k:=fun v k Z aa=>hu v k (by omega);have T:∀v,∀k,s+l.size<=k->k<s+l.size+r.size->fV h ((FT.node l r).root s) v k=h k:=fun v k Z aa=>hu v k (by omega);have X:∀i,h (l.root s)=some i->(∀j∈held h r (s+l.size),lt i j)->
    gG lt (pullH lb l s (fV h ((FT.node l r).root s) (some i))) (.node l r) s/\(x::held (pullH lb l s (fV h ((FT.node l r).root s) (some i))) (.node l r) s).Perm (x::(held h l s++held h r (s+l.size))):=fun i m R=>by
   have A:=U (some i);have o:=S (some i);have p:=T (some i);have I:fV h ((FT.node l r).root s) (some i) (l.root s)=some i:=by rw[hu _ _ (by omega)];exact m
   generalize fV h ((FT.node l r).root s) (some i)=w at*;have P:=bP l s o;have Q:=bP r _ p;have⟨G,d⟩:=pW O l s w i c.1 (by omega) (q.congr o) I (by rw[P];exact ad);have D:=jo (lb:=lb) l s w;generalize pullH lb l s w=y at*;rw[P]at d;have K:∀k,s+l.size<=k->k<s+l.size+r.size->y k=h k:=fun k E F=>by rw[D k (.inr E)];exact p k E F
   have B:y ((FT.node l r).root s)=some i:=by rw[D _ (by omega)];exact A
   have W:(i::held y l s).Nodup:=d.nodup_iff.2 ad;have N:i∈held h l s:=d.mem_iff.1 (by simp);have ak:=q.span c.1 i N;refine⟨y9 (h:=h) c B G (u.congr K) (by omega) (fun j b=>?_) (fun j b=>?_),?_⟩
   .rcases q.first m j (d.mem_iff.1 (kC _ b))with h9|h9
    .subst h9;exact absurd b (lY.1 W).1
    .exact h9
   .rw[bP r _ K]at b;exact R j b
   .refine List.Perm.cons x ?_;simp only[held];rw[B,bP r _ K];exact d.append_right _
  have Y:∀i,h (r.root (s+l.size))=some i->(∀j∈held h l s,lt i j)->
    gG lt (pullH lb r (s+l.size) (fV h ((FT.node l r).root s) (some i))) (.node l r) s/\(x::held (pullH lb r (s+l.size) (fV h ((FT.node l r).root s) (some i))) (.node l r) s).Perm (x::(held h l s++held h r (s+l.size))):=fun i m R=>by
   have A:=U (some i);have o:=S (some i);have p:=T (some i);have I:fV h ((FT.node l r).root s) (some i) (r.root (s+l.size))=some i:=by rw[hu _ _ (by omega)];exact m
   generalize fV h ((FT.node l r).root s) (some i)=w at*;have P:=bP l s o;have Q:=bP r _ p;have⟨G,d⟩:=pW O r (s+l.size) w i c.2.1 (by omega) (u.congr p) I (by rw[Q];exact ae);have D:=jo (lb:=lb) r (s+l.size) w;generalize pullH lb r (s+l.size) w=y at*;rw[Q]at d;have J:∀k,s<=k->k<s+l.size->y k=h k:=fun k E F=>by rw[D k (.inl F)];exact o k E F
   have B:y ((FT.node l r).root s)=some i:=by rw[D _ (by omega)];exact A
   have W:(i::held y r (s+l.size)).Nodup:=d.nodup_iff.2 ae;have N:i∈held h r (s+l.size):=d.mem_iff.1 (by simp);have ak:=u.span c.2.1 i N;refine⟨y9 (h:=h) c B (q.congr J) G (by omega) (fun j b=>?_) (fun j b=>?_),?_⟩
   .rw[bP l _ J]at b;exact R j b
   .rcases u.first m j (d.mem_iff.1 (kC _ b))with h9|h9
    .subst h9;exact absurd b (lY.1 W).1
    .exact h9
   .refine List.Perm.cons x ?_;simp only[held];rw[B,bP l _ J];show(i::(held h l s++held y r (s+l.size))).Perm _;exact(List.perm_middle.symm).trans (d.append_left _)
  have al:∀i,h (l.root s)=some i->i<n/\i<l.hi:=fun i m=>by
   have⟨L,H⟩:=oq m;have:=q.span c.1 i (by rw[H];simp);omega
  have am:∀i,h (r.root (s+l.size))=some i->i<n/\r.lo<=i:=fun i m=>by
   have⟨L,H⟩:=oq m;have:=u.span c.2.1 i (by rw[H];simp);omega
  simp only[pullH];split
  .rename_i f g;have an:=q.empty f;have ao:=u.empty g;have A:=U none;have o:=S none;have p:=T none;generalize fV h ((FT.node l r).root s) none=w at*;refine⟨⟨fun j b=>?_,fun _=>?_,q.congr o,u.congr p⟩,?_⟩
   .rw[A]at b;cases b
   .rw[bP l s o,bP r _ p];exact⟨an,ao⟩
   .refine List.Perm.cons x ?_;simp only[held];rw[A,bP l s o,bP r _ p];exact oL _
  .rename_i i f g;exact X i f (fun j b=>by rw[u.empty g]at b;exact absurd b gZ)
  .rename_i j f g;exact Y j g (fun k z=>by rw[q.empty f]at z;exact absurd z gZ)
  .rename_i i j f g;split
   .rename_i M;have C:=(O.dec i j).1 M;refine X i f fun k z=>?_;rcases u.first g k z with h9|h9
    .rw[h9];exact C
    .exact O.tr _ _ _ C h9
   .rename_i M;have C:lt j i:=by
     have ah:=al i f;have ai:=am j g;rcases O.BK i j ah.1 ai.1 (by omega)with h9|h9
     .exact absurd ((O.dec i j).2 h9) M
     .exact h9
    refine Y j g fun k z=>?_;rcases q.first f k z with h9|h9
    .rw[h9];exact C
    .exact O.tr _ _ _ C h9
def dropH (lb:Nat->Nat->Bool):FT->Nat->Nat->iy->iy
 |.leaf a,s,x,h=>pullH lb (.leaf a) s h
 |.node l r,s,x,h=>if h ((FT.node l r).root s)=some x then pullH lb (.node l r) s h else if x<l.hi then dropH lb l s x h else dropH lb r (s+l.size) x h
theorem sD:∀(t:FT) (s x:Nat) (h:iy) (k:Nat),(k<s\/s+t.size<=k)->dropH lb t s x h k=h k
 |.leaf a,s,x,h,k,b=>jo (.leaf a) s h k b
 |.node l r,s,x,h,k,b=>by
  have c:(FT.node l r).size=l.size+r.size+1:=rfl;simp only[dropH];split
  .exact jo _ s h k b
  .split
   .exact sD l s x h k (by omega)
   .exact sD r _ x h k (by omega)
theorem uM (O:Ord lt lb n):∀(t:FT) (s:Nat) (h:iy) (x:Nat),t.wf->t.hi<=n->gG lt h t s->x∈held h t s->(held h t s).Nodup->
  gG lt (dropH lb t s x h) t s/\(x::held (dropH lb t s x h) t s).Perm (held h t s)
 |.leaf a,s,h,x,b,q,u,z,p=>by
  have e:h s=some x:=by simpa[held]using z
  exact pW O (.leaf a) s h x b q u e p
 |.node l r,s,h,x,b,q,u,z,p=>by
  have V:(FT.node l r).size=l.size+r.size+1:=rfl;have U:(FT.node l r).root s=s+(l.size+r.size+1)-1:=rfl;have pl:=l.size_pos;have X:=r.size_pos;have Y:=FT.eQ l b.1;have Z:=FT.eQ r b.2.1;have aa:=b.2.2;have T:r.hi<=n:=q;simp only[dropH];split
  .rename_i e;exact pW O _ s h x b q u e p
  .rename_i e;have⟨I,J,A,B⟩:=u;have QH:=z;simp only[held,bT,zz,e,false_or]at QH;cases m:h ((FT.node l r).root s)with
   |none=>
    have⟨R,S⟩:=J m;rw[R,S]at QH;rcases QH with QH|QH<;>exact absurd QH gZ
   |some i=>
    have K:held h (.node l r) s=i::(held h l s++held h r (s+l.size)):=by simp only[held];rw[m];rfl
    rw[K]at p |-;have H:=(lY.1 p).2;rw[oF]at H;have⟨P,Q,W⟩:=H;have⟨C,D,E⟩:=I i m;split
    .rename_i L;have M:x∈held h l s:=by
      rcases QH with h9|h9
      .exact h9
      .have:=B.span b.2.1 x h9;omega
     have⟨v,f⟩:=uM O l s h x b.1 (by omega) A M P;have o:=sD (lb:=lb) l s x h;generalize dropH lb l s x h=d at*;have y:∀k,s+l.size<=k->k<s+l.size+r.size->d k=h k:=fun k F G=>o k (.inr F);have g:d ((FT.node l r).root s)=some i:=by rw[o _ (by omega)];exact m
     refine⟨y9 (h:=h) b g v (B.congr y) C (fun j c=>D j (f.mem_iff.1 (kC _ c))) (fun j c=>by rw[bP r _ y]at c;exact E j c),?_⟩;simp only[held];rw[g,bP r _ y];show(x::i::(held d l s++held h r (s+l.size))).Perm _;exact(List.Perm.swap _ _ _).trans ((f.append_right _).cons i)
    .rename_i L;have N:x∈held h r (s+l.size):=by
      rcases QH with h9|h9
      .have:=A.span b.1 x h9;omega
      .exact h9
     have⟨v,f⟩:=uM O r (s+l.size) h x b.2.1 (by omega) B N Q;have o:=sD (lb:=lb) r (s+l.size) x h;generalize dropH lb r (s+l.size) x h=d at*;have w:∀k,s<=k->k<s+l.size->d k=h k:=fun k F G=>o k (.inl G);have g:d ((FT.node l r).root s)=some i:=by rw[o _ (by omega)];exact m
     refine⟨y9 (h:=h) b g (A.congr w) v C (fun j c=>by rw[bP l _ w]at c;exact D j c) (fun j c=>E j (f.mem_iff.1 (kC _ c))),?_⟩;simp only[held];rw[g,bP l _ w];show(x::i::(held h l s++held d r (s+l.size))).Perm _;refine(List.Perm.swap _ _ _).trans (List.Perm.cons i ?_);exact(List.perm_middle.symm).trans (f.append_left _)
theorem xV:∀(t:FT) (s:Nat) (h:iy) (x:Nat),t.wf->gG lt h t s->t.lo<=x->x<t.hi->
  ((∀k∈t.path s x,h k≠some x)->x∉held h t s)/\
  ∀m k:Nat,(t.path s x)[m]? =some k->h k=some x->(∀i<m,∀k',(t.path s x)[i]? =some k'->h k'≠some x)->∃c b,(c,b)∈t.subs s/\k=c.root b/\dropH lb t s x h=pullH lb c b h
 |.leaf a,s,h,x,n,v,q,u=>by
  refine⟨fun f e=>f s (by simp[FT.path]) (by simpa[held]using e),fun m k g f o=>?_⟩;have J:m=0/\k=s:=by
   cases m with
   |zero=>simp[FT.path]at g;exact⟨rfl,g.symm⟩
   |succ m=>simp[FT.path]at g
  exact⟨.leaf a,s,by simp[FT.subs],by rw[J.2];rfl,rfl⟩
 |.node l r,s,h,x,n,v,q,u=>by
  have Q:=n.2.2;have D:l.lo<=x:=q;have E:x<r.hi:=u;have⟨O,P,w,y⟩:=v;have M:=w.span n.1;have N:=y.span n.2.1;have step:∀(t2:FT) (d:Nat),(FT.node l r).path s x=(FT.node l r).root s::t2.path d x->(∀p∈t2.subs d,p∈(FT.node l r).subs s)->
    (x∈held h (.node l r) s->h ((FT.node l r).root s)≠some x->x∈held h t2 d)->(h ((FT.node l r).root s)≠some x->dropH lb (.node l r) s x h=dropH lb t2 d x h)->
    (((∀k∈t2.path d x,h k≠some x)->x∉held h t2 d)/\∀m k:Nat,(t2.path d x)[m]? =some k->h k=some x->(∀i<m,∀k',(t2.path d x)[i]? =some k'->h k'≠some x)->∃c b,(c,b)∈t2.subs d/\k=c.root b/\dropH lb t2 d x h=pullH lb c b h)->
    ((∀k∈(FT.node l r).path s x,h k≠some x)->x∉held h (.node l r) s)/\
     ∀m k:Nat,((FT.node l r).path s x)[m]? =some k->h k=some x->(∀i<m,∀k',((FT.node l r).path s x)[i]? =some k'->h k'≠some x)->∃c b,(c,b)∈(FT.node l r).subs s/\k=c.root b/\dropH lb (.node l r) s x h=pullH lb c b h:=by
   intro t2 d C L G F ih;rw[C];refine⟨fun f e=>?_,fun m k g f o=>?_⟩
   .exact ih.1 (fun k I=>f k (kC _ I)) (G e (f _ (by simp)))
   .cases m with
    |zero=>
     simp only[aM,iV]at g;subst g;exact⟨.node l r,s,by simp[FT.subs],rfl,by simp only[dropH];rw[aK f]⟩
    |succ m=>
     have K:=o 0 (by omega) ((FT.node l r).root s) (by simp);have⟨c,b,z,A,B⟩:=ih.2 m k (by simpa using g) f (fun i hi k' H=>o (i+1) (by omega) k' (by simpa using H));exact⟨c,b,L _ z,A,by rw[F K];exact B⟩
  by_cases e:x<l.hi
  .refine step l s (by rw[FT.path,aK e]) (fun p hp=>by simp only[FT.subs,bT];exact .inl (.inl hp)) (fun hh j=>?_) (fun j=>by simp only[dropH];rw[aI j,aK e]) (xV l s h x n.1 w D e);simp only[held,bT,zz,j,false_or]at hh;rcases hh with hh|hh
   .exact hh
   .have:=N x hh;omega
  .refine step r (s+l.size) (by rw[FT.path,aI e]) (fun p hp=>by simp only[FT.subs,bT];exact .inl (.inr hp)) (fun hh j=>?_) (fun j=>by simp only[dropH];rw[aI j,aI e]) (xV r _ h x n.2.1 y (by omega) E);simp only[held,bT,zz,j,false_or]at hh;rcases hh with hh|hh
   .have:=M x hh;omega
   .exact hh
end
def yQ (R:List Pt) (i j:Nat):Prop:=sG (bV R i) (bV R j)
def BL (R:List Pt) (i j:Nat):Bool:=decide (sG (bV R i) (bV R j))
theorem Iq {R:List Pt} (hu:(ids R).Nodup) {i k:Nat} (hi:i<R.length) (a:k<R.length) (b:i≠k):jw R i≠jw R k:=by
 unfold jw;rw[dF hi,dF a];have hid:=dE.1 hu;rcases Nat.lt_trichotomy i k with h|h|h
 .exact gH.1 hid i k hi a h
 .exact absurd h b
 .exact fun e=>gH.1 hid k i a hi h e.symm
theorem Ir {R:List Pt} (hu:(ids R).Nodup):Ord (yQ R) (BL R) R.length:=
 ⟨fun i j k h a=>rR h a,fun i j hi c b=>by
  have:=Iq hu hi c b;unfold jw at this;unfold yQ sG;omega,fun i j=>by unfold BL yQ;simp⟩
def nE (R:List Pt) (h:iy):List Nat:=if R.length=0 then[]else held h (dK 0 R.length) 0
theorem mV {R:List Pt} {h:iy} (a:0<R.length):nE R h=held h (dK 0 R.length) 0:=by unfold nE;rw[aI (by omega)]
structure lK (R:List Pt) (h:iy):Prop where
 zT:R.Pairwise jV
 ids:(ids R).Nodup
 ok:0<R.length->gG (yQ R) h (dK 0 R.length) 0
 iP:(nE R h).Nodup
section
variable {R:List Pt} {h:iy} {l:List Pt}
theorem lK.lt (H:lK R h) {i:Nat} (hi:i∈nE R h):i<R.length:=by
 by_cases a:R.length=0
 .unfold nE at hi;rw[aK a]at hi;exact absurd hi gZ
 .obtain⟨w1,w2,w3⟩:=bO 0 R.length (by omega);rw[mV (by omega)]at hi;have:=(H.ok (by omega)).span w1 i hi;omega
theorem lK.Ro (H:lK R h):(bU R).Pairwise (·<=·):=dE.2 (H.zT.imp fun h=>by unfold jV at h;omega)
def AP (R:List Pt):iy:=fillH (dK 0 R.length) 0 (dO R) fun _=>none
theorem JK (c:R.Pairwise jV) (hu:(ids R).Nodup):lK R (AP R)/\(nE R (AP R)).Perm (dO R):=by
 have b:=pM c hu;have key:0<R.length->gG (yQ R) (AP R) (dK 0 R.length) 0/\(held (AP R) (dK 0 R.length) 0).Perm (dO R):=fun a=>by
  have⟨w1,w2,w3⟩:=bO 0 R.length a;exact uH (lt:=yQ R) _ 0 (dO R) _ w1 b.Sw b.nodup (fun i hi=>by have:=b.lt hi;omega) (fun _ _ _=>rfl)
 have hp:(nE R (AP R)).Perm (dO R):=by
  by_cases a:R.length=0
  .have:dO R=[]:=gJ (by rw[jH];exact a);unfold nE;rw[aK a,this]
  .rw[mV (by omega)];exact(key (by omega)).2
 exact⟨⟨c,hu,fun a=>(key a).1,hp.nodup_iff.2 b.nodup⟩,hp⟩
theorem K7 (a:R.Pairwise jV) (hu:(ids R).Nodup):((nE R (AP R)).map (bV R)).Perm R:=by
 have e:(dO R).map (bV R)=jP R:=by
  unfold dO;rw[uq]
  conv=>rhs;rw[<-List.map_id (jP R)]
  exact Di fun p hp=>Al ((jG R p).1 hp)
 exact(((JK a hu).2.map (bV R)).trans (by rw[e])).trans (iM R)
def BM (R:List Pt) (x:Nat) (h:iy):iy:=dropH (BL R) (dK 0 R.length) 0 x h
theorem lK.drop (H:lK R h) {x:Nat} (c:x∈nE R h):lK R (BM R x h)/\(x::nE R (BM R x h)).Perm (nE R h):=by
 have g:=H.lt c;have a:0<R.length:=by omega
 have⟨w1,w2,w3⟩:=bO 0 R.length a;have d:=c;have b:=H.iP;rw[mV a]at d b;have⟨e,f⟩:=uM (Ir H.ids) (dK 0 R.length) 0 h x w1 (by omega) (H.ok a) d b;have hp:(x::nE R (BM R x h)).Perm (nE R h):=by rw[mV a,mV a];exact f
 exact⟨⟨H.zT,H.ids,fun _=>e,(lY.1 (hp.nodup_iff.2 H.iP)).2⟩,hp⟩
abbrev xW (R:List Pt) (h:iy) (l:List Pt):Prop:=((nE R h).map (bV R)).Perm l
theorem xW.ids (H:lK R h) (c:xW R h l):(Go.Proofs.YtkjdbndekceffaaGreat.ids l).Nodup:=by
 have a:(((nE R h).map (bV R)).map fun p=>p.2.2).Nodup:=by
  rw[uq];refine dE.2 (zf (fun{i k} hi b d=>?_) H.iP);exact Iq H.ids (H.lt hi) (H.lt b) d
 exact(c.map _).nodup_iff.1 a
theorem xW.mem (a:xW R h l) (p:Pt):p∈l↔∃i∈nE R h,bV R i=p:=by rw[<-a.mem_iff,dI]
theorem xW.len (a:xW R h l):(nE R h).length=l.length:=by have:=a.length_eq;simpa using this
theorem lK.few (H:lK R h):(nE R h).length<=R.length:=xz H.iP fun k a=>H.lt a
theorem xW.drop (H:lK R h) (a:xW R h l) {x:Nat} (i:x∈nE R h):xW R (BM R x h) (l.filter fun q=>decide (q≠bV R x)):=by
 have⟨j,d⟩:=H.drop i;have b:(bV R x::(nE R (BM R x h)).map (bV R)).Perm l:=(d.map (bV R)).trans a;have f:l.Nodup:=kU (R:=fun p q:Pt=>p.2.2≠q.2.2) (fun p h=>h rfl) (dE.1 (xW.ids H a));have e:=b.nodup_iff.2 f;have c:=b.filter fun q=>decide (q≠bV R x);rw[zg (by simp),mH.2 (fun q g=>by
  simp only[bW];rintro rfl;exact(lY.1 e).1 g)]at c
 exact c
def JL (x1 x2 y:Int) (p:Pt):Bool:=decide (x1<=p.1/\p.1<=x2/\p.2.1<=y)
def vZ (l:List Pt) (x1 x2 y:Int):List Int:=eD (ids (l.filter (JL x1 x2 y)))
theorem ND (x1 x2 y:Int):(vZ l x1 x2 y).length=(l.filter (JL x1 x2 y)).length:=by unfold vZ;rw[jC];simp[Go.Proofs.YtkjdbndekceffaaGreat.ids]
def iU (R:List Pt) (x1:Int):Nat:=(aR (bU R) x1).1
def lD (R:List Pt) (x2:Int):Nat:=(aP (bU R) x2).1
def mF (more:Bool) (R:List Pt) (h:iy) (x1 x2 y:Int):List Nat×Nat:=
 if R.length=0\/x2<x1 then([],0)else
 if iU R x1<lD R x2 then((downG more h (kR R) y (iU R x1) (lD R x2) (dK 0 R.length) 0).1,(aR (bU R) x1).2+(aP (bU R) x2).2+(downG more h (kR R) y (iU R x1) (lD R x2) (dK 0 R.length) 0).2.1)
 else([],(aR (bU R) x1).2+(aP (bU R) x2).2)
theorem PN (R:List Pt) (x2:Int):lD R x2<=R.length:=by
 have:=(fU (fun i=>decide (x2<(bU R).getD i 0)) (bU R).length).2;have e:(bU R).length=R.length:=by simp[bU]
 unfold lD aP;omega
theorem JM (H:lK R h) (x1 x2 y:Int) {i:Nat} (hi:i<R.length):yG (kR R) y (iU R x1) (lD R x2) i=JL x1 x2 y (bV R i):=by
 have c:i<(bU R).length:=by unfold bU;simpa using hi
 have d:(bU R)[i]=(bV R i).1:=by rw[dF hi];simp[bU]
 have a:=ry H.Ro x1 c;have b:=rz H.Ro x2 c;rw[d]at a b;unfold yG JL iU lD kR;rw[ni,bW,bW,a,b]
theorem NF (i j:Nat):yQ R i j->kR R i<=kR R j:=fun h=>by unfold yQ sG at h;unfold kR;omega
def xX (R:List Pt) (h:iy) (x1 x2 y:Int):List Nat:=(nE R h).filter fun i=>JL x1 x2 y (bV R i)
theorem JN (H:lK R h) (more:Bool) (x1 x2 y:Int):(mF more R h x1 x2 y).1=if more then xX R h x1 x2 y else(xX R h x1 x2 y).take 1:=by
 have b:(∀i∈nE R h,JL x1 x2 y (bV R i)=false)->([]:List Nat)=if more then xX R h x1 x2 y else(xX R h x1 x2 y).take 1:=fun d=>by
  have:xX R h x1 x2 y=[]:=wK.2 fun i hi=>by rw[d i hi];decide
  rw[this];cases more<;>rfl
 unfold mF;split
 .rename_i c;refine b fun i hi=>?_;have g:=H.lt hi;unfold JL;simp only[iA];omega
 .rename_i c;split
  .have a:0<R.length:=by omega
   have⟨w1,w2,w3⟩:=bO 0 R.length a;have e:xX R h x1 x2 y=(held h (dK 0 R.length) 0).filter (yG (kR R) y (iU R x1) (lD R x2)):=by
    unfold xX;rw[mV a];refine lZ fun i hi=>?_;rw[JM H x1 x2 y (H.lt (by rw[mV a];exact hi))]
   cases more with
   |true=>rw[e];exact(uJ NF _ 0 w1 (H.ok a)).1
   |false=>rw[e];exact(xU NF _ 0 w1 (H.ok a)).1
  .rename_i f;refine b fun i hi=>?_;rw[<-JM H x1 x2 y (H.lt hi)];unfold yG;simp only[iA];omega
theorem NG (a:xW R h l) (x1 x2 y:Int):((xX R h x1 x2 y).map (bV R)).Perm (l.filter (JL x1 x2 y)):=by
 have:=a.filter (JL x1 x2 y);rw[wW]at this;exact this
theorem Iu (c:xW R h l) (x1 x2 y:Int):eD ((xX R h x1 x2 y).map (jw R))=vZ l x1 x2 y/\(xX R h x1 x2 y).length=(vZ l x1 x2 y).length:=by
 have a:=NG c x1 x2 y;have b:((xX R h x1 x2 y).map (jw R)).Perm (Go.Proofs.YtkjdbndekceffaaGreat.ids (l.filter (JL x1 x2 y))):=by
  have:=a.map fun p=>p.2.2;rw[uq]at this;exact this
 refine⟨?_,?_⟩
 .unfold vZ;exact D7 (rA _) ((qz _ _).trans b.symm)
 .rw[ND];have:=a.length_eq;simpa using this
theorem Cy (H:lK R h) (g:R.length<=100000) (more:Bool) (x1 x2 y:Int):
  (mF more R h x1 x2 y).1.length<=(mF more R h x1 x2 y).2/\(mF more R h x1 x2 y).2<=(if more then 2 else 0)*(mF more R h x1 x2 y).1.length+6*Lib.bitLen R.length+1:=by
 unfold mF;split
 .simp
 .rename_i j;have a:0<R.length:=by omega
  have d:(bU R).length=R.length:=by simp[bU]
  have b:=ko (bU R) x1 (by omega);have c:=ku (bU R) x2 (by omega);rw[d]at b c;split
  .obtain⟨w1,w2,w3⟩:=bO 0 R.length a;have i:=(bM R.length (by omega) (by omega)).2.2;have k:=uz 0 R.length (Lib.bitLen R.length) (by omega);have e:=uL (more:=more) (yv:=kR R) (y:=y) (fr:=iU R x1) (ub:=lD R x2) rfl (dK 0 R.length) 0 w1 (H.ok a);have f:=uK (h:=h) (yv:=kR R) (y:=y) (fr:=iU R x1) (ub:=lD R x2) more (dK 0 R.length) 0;simp only;omega
  .simp only[fB];omega
theorem FM (H:lK R h) (d:R.length<=20000) (more:Bool) (x1 x2 y:Int):(mF more R h x1 x2 y).1.length<=R.length/\(mF more R h x1 x2 y).2<=100000:=by
 have a:=(Cy H (by omega) more x1 x2 y).2;have e:Lib.bitLen R.length<=15:=bJ (fw d (by omega)) (by decide);have b:(mF more R h x1 x2 y).1.length<=R.length:=by
  rw[JN H];have c:(xX R h x1 x2 y).length<=R.length:=bJ (gK _ _) H.few;cases more with
  |true=>exact c
  |false=>simp only[qg,jA,eB];omega
 refine⟨b,?_⟩;cases more<;>simp at a<;>omega
end
end
section
open Go.RowKit Go.Sort Go.Shelf Go.Lib Go.Maps
attribute [local irreducible] wpQuiet
def stk (a b:Nat):List (FT×Nat)->List Nat×Nat
 |[]=>([],0)
 |p::st=>((p.1.canon p.2 a b).1++(stk a b st).1,(p.1.canon p.2 a b).2+(stk a b st).2)
def qx:List (FT×Nat)->Nat
 |[]=>0
 |p::st=>p.1.size+qx st
def AQ (st:List (FT×Nat)):List Nat:=(st.map fun p=>p.1.root p.2).reverse
theorem xY (p:FT×Nat) (a:List (FT×Nat)):AQ (p::a)=AQ a++[p.1.root p.2]:=by simp[AQ]
theorem wh (a:List (FT×Nat)):(AQ a).length=a.length:=by simp[AQ]
theorem JO:∀a:List (FT×Nat),a.length<=qx a
 |[]=>ay _
 |p::a=>by
  have b:=JO a;have c:=p.1.size_pos;simp only[qx,dY];omega
theorem FT.pX (a b:Nat):∀(t:FT) (s:Nat),(t.canon s a b).2<=t.size/\(t.canon s a b).1.length<=t.size:=by
 intro t
 induction t with
 |leaf x=>
  intro s;rw[FT.canon];split<;>simp[FT.size]
 |node l r c d=>
  intro s;have e:=c s;have f:=d (s+l.size);rw[FT.canon];split
  .simp[FT.size]
  .split
   .simp[FT.size]
   .show _+_+1<=_/\((_:List Nat)++_).length<=_;rw[bq];simp only[FT.size];omega
def fA (i:Nat):Value:=.int .i64 (i:Nat)
def PO (w:World) (n a b:Nat) (e:Ending) (w':World):Prop:=
 ∃v,e=.returned (.tuple #[v,aa (((dK 0 n).canon 0 a b).2:Nat),aa 0])/\w'.ownsRow w.heap.size 3 1 v ((dK 0 n).canon 0 a b).1.length (((dK 0 n).canon 0 a b).1.map fA)/\Below w.heap.size w w'
theorem PQ {w:World} {g off:Nat} {N:List Nd} {i:Nat} {d:Nd} (h:cz nU 7 w (some (ae g off)) N) (hi:N[i]? =some d):
  g<w.heap.size/\w.cell? (ae g (off+i*7))=some (.int .u8 d.kind)/\w.cell? (ae g (off+i*7+1))=some (aa d.l)/\w.cell? (ae g (off+i*7+2))=some (aa d.r)/\w.cell? (ae g (off+i*7+3))=some (aa d.fr)/\w.cell? (ae g (off+i*7+4))=some (aa d.Jk)/\w.cell? (ae g (off+i*7+5))=some (aa 0)/\w.cell? (ae g (off+i*7+6))=some (aa d.item):=by
 have⟨a,hd⟩:=fC.1 hi;rcases h with h|⟨b,o,e,f,j⟩
 .subst h;simp at a
 .cases e;have c:=j i a;rw[hd]at c;exact⟨f,c 0 (by omega),c 1 (by omega),c 2 (by omega),c 3 (by omega),c 4 (by omega),c 5 (by omega),c 6 (by omega)⟩
theorem wm (l:List Nat) (k:Nat):(l++[k]).map fA=l.map fA++[.int .i64 (k:Nat)]:=by simp[fA]
theorem FN (base fb n a b:Nat) (b1:Value) (cf:n<=40000) (b8:a<b) (aK:b<=n) (w:World) (h:mQ w base fb n b1):
  aH 175 #[ah fb,aa a,aa b] w (PO w n a b):=by
 have bn:fb<w.heap.size:=(aZ.1 h.blk).1;have am:=h.blk;have aI:w.cell? (ae fb 5)=some (.bool true):=by simp[World.cell?,am]
 have aG:w.cell? (ae fb 4)=some (aa n):=by simp[World.cell?,am]
 have aY:=pF fb w aI;have aO:=dh n;obtain⟨b0,nc,rfl,-,-,aV⟩:=cz.aC iZ (by decide) h.row;have bS:∃g off,b0=some (ae g off):=by
  rcases aV with h9|⟨g,off,e,_⟩
  .rw[h9]at aO;simp at aO;omega
  .exact⟨g,off,e⟩
 obtain⟨g,off,rfl⟩:=bS;have aX:=q9 fb n _ ⟨_,_,rfl⟩ w am;have a0:=af (fun W (aK:Below w.heap.size w W)=>jd fb n (by omega) (by omega) W ((aK.cell (p:=(ae fb 5)) bn).trans aI) ((aK.cell (p:=(ae fb 4)) bn).trans aG));have bQ:=bO 0 n (by omega);have hS:=eZ 0 n (by omega);have bw:=af (jF n (by omega));have bE:=af aV;have aD:Hid ((dK 0 n).root 0=2*n-2/\(dK 0 n).size=2*n-1):=⟨by unfold FT.root;omega,hS⟩;have aM:=FT.pX a b (dK 0 n) 0;rw[hS]at aM;have d1:decide ((a:Int)<0)=false:=by simp
 have d2:decide ((a:Int)>(b:Int))=false:=by simp;omega
 have d3:decide ((b:Int)<(a:Int))=false:=by simp;omega
 have d4:decide (b<a)=false:=by simp;omega
 have d5:decide ((b:Int)>(n:Int))=false:=by simp;omega
 have d6:decide ((n:Int)<(b:Int))=false:=by simp;omega
 have d7:decide (n<b)=false:=by simp;omega
 have d8:((a:Int)==(b:Int))=false:=by simp;omega
 have d9:(a==b)=false:=by simp;omega
 have d10:decide (a=b)=false:=by simp;omega
 have b7:(aU n).length<=100000:=by omega
 have bB:=af aM;unfold PO;generalize bj:(dK 0 n).canon 0 a b=C at*;have a1:=af bj;generalize bP:aU n=D at*;clear bP am h aV bQ hS aO bj aM;go_enter func175,ntmps175
 go_wp2_with fail
 with_reducible refine aY.mono ?_
 rintro e w' ⟨rfl,bh⟩;subst w';clear aY
 go_wp2_with fail
 with_reducible refine aX.mono ?_
 rintro e w1 ⟨rfl,al⟩;clear aX d1 d2 d3 d4 d5 d6 d7 d8 d9 d10 aI aG
 go_wp2_with fail
 refine(a0.o w1 al).mono ?_;rintro e w2 ⟨rfl,bh⟩;subst bh;clear a0
 go_wp2_with fail
 have bs:=Ad w2 w.heap.size [.int .i64 ((2*n-2:Nat):Int)] 3 al.size (by unfold maxLen;simp);simp only[dY,fB,jU]at bs
 go_loopg [10,11,12] (2*n) (fun bY bu b2 bv wr=>∃(c:List (FT×Nat)) (f:List Nat) (y:Nat),b2=.int .i64 y/\qx c<=bY/\qx c<=80000/\Below w.heap.size w wr/\Hid (∀p∈c,FT.At D p.1 p.2)/\Hid (C=(f++(stk a b c).1,y+(stk a b c).2))/\
  Hid (wr.ownsRow w.heap.size 3 1 bu f.length (f.map fA))/\Hid (wr.ownsRow w.heap.size 3 1 bv c.length ((AQ c).map fA))/\Hid (∀g,bu.ownBlock=some g->bv.ownBlock≠some g))
 case atStart=>
  refine⟨[(dK 0 n,0)],[],0,rfl,?_,?_,al.trans ((aB _ w2).alloc al.size _),?_,?_,dz _ _ _ _,?_,?_⟩
  .simp only[qx];have:=aD.o.2;omega
  .simp only[qx];have:=aD.o.2;omega
  .intro p hp;obtain rfl:=ll.1 hp;exact bw.o
  .show C=_;simp[stk,a1.o]
  .simp only[AQ,lC,oN,List.reverse_singleton,aD.o.1];exact bs
  .intro g h;cases h
 case round=>
  obtain⟨c,f,y,rfl,bp,an,L,aw,X,G,P,a3⟩:=hrel;cases c with
  |nil=>
   have aJ:=X.o;simp only[stk,iE,dM]at aJ;have bA:=af aJ;simp only[fB]at P;obtain⟨U,V,rfl⟩:=fD G.o;obtain⟨ck,cl,rfl⟩:=fD P.o;clear aJ X a1;go_wp2;go_ret3;rw[bA.o];exact⟨_,rfl,G.o,L⟩
  |cons p c=>
   obtain⟨t,s⟩:=p;obtain⟨U,V,rfl⟩:=fD G.o;have ak:FT.At D t s:=aw.o _ (.head _);obtain⟨M,bG,a7,a8,a9,ba,bH,bI⟩:=PQ (bE.o.below L) ak.get;have cg:=ak.lt;rw[FT.DD]at a9;rw[FT.uA]at ba;obtain⟨go,bb,bM,cd,ce,bk,ca⟩:=aQ P.o (by simp);subst bM;have S:=P.o;rw[xY,wm]at S;simp only[dY]at S bk;have bt:wr.cell? (ae go c.length)=some (aa (t.root s:Nat)):=by
    have h9:=S.cellAt c.length (by omega);rw[mG (by simp[wh])]at h9;simpa[wh]using h9
   have aT:=lH S (m:=c.length) (by omega);rw[iF,CV (by simp[wh]),jQ (by simp[wh])]at aT;have R:C=(f++((t.canon s a b).1++(stk a b c).1),y+((t.canon s a b).2+(stk a b c).2)):=X.o;have az:(t.hi<=a\/b<=t.lo)->Hid (C=(f++(stk a b c).1,(y+1)+(stk a b c).2)):=fun h=>by
    show C=_;rw[R,FT.ic h,fK,wY]
   have Z:¬(t.hi<=a\/b<=t.lo)->(a<=t.lo/\t.hi<=b)->Hid (C=((f++[t.root s])++(stk a b c).1,(y+1)+(stk a b c).2)):=fun h v=>by
    show C=_;rw[R,FT.qU h v,dW,wY]
   have ad:¬(t.hi<=a\/b<=t.lo)->¬(a<=t.lo/\t.hi<=b)->∃l r,t=.node l r/\Hid (C=(f++(stk a b ((l,s)::(r,s+l.size)::c)).1,(y+1)+(stk a b ((l,s)::(r,s+l.size)::c)).2)):=fun h v=>by
    cases t with
    |leaf x=>exact absurd (by simp only[FT.lo,FT.hi]at h |-;omega) v
    |node l r=>
     refine⟨l,r,rfl,?_⟩;show C=_;rw[R,FT.l7 h v];simp only[stk,dW];refine Prod.ext rfl ?_;simp only;omega
   have b6:y+1<=100000/\f.length+1<=100000:=by
    have z:=bB.o;have aF:=(FT.pX a b t s);rw[R]at z;have aG:0<(t.canon s a b).2:=by
     cases t with
     |leaf x=>rw[FT.canon];split<;>simp
     |node l r=>rw[FT.canon];split;simp;split<;>simp
    simp only[bq]at z;omega
   have bV:c.length+2<=100000:=by
    have z:=JO c;have v:t.size+qx c<=80000:=an;have aF:=t.size_pos;omega
   have Y:Hid (∀p∈c,FT.At D p.1 p.2):=fun p hp=>aw.o p (.tail _ hp);have E:=af ak;have aA:=af aT;have ab:=af (show t.size+qx c<=_ from bp);have ch:0<t.size:=t.size_pos;obtain⟨m,aP⟩:∃m,m=c.length:=⟨_,rfl⟩;have ac:=af aP;simp only[dY];rw[<-aP]at bt bk bV |-;have cb:decide ((0:Int)<((m+1:Nat):Int))=true:=by simp
   generalize bo:t.root s=k at*;have b4:=af bo;generalize bW:t.hi=j at*;generalize bX:t.lo=tl at*;generalize(t.top s).kind=av at*;generalize bl:(t.top s).l=ag at*;generalize bm:(t.top s).r=ai at*;generalize(t.top s).item=ar at*;have O:Hid ((t.top s).l=ag/\(t.top s).r=ai):=⟨bl,bm⟩;clear bo bW bX bl bm aP S aT R aw X P ak bp;have aN:qx c<=80000:=by have v:t.size+qx c<=80000:=an;omega
   have bC:Hid (t.size+qx c<=80000):=an;have aW:=L.size;have J:Hid (∀g,(Value.slice U f.length V).ownBlock=some g->g≠go):=fun g e d=>a3.o g e (by rw[d];rfl);have b9:f.length<=100000:=by omega
   clear an a3;by_cases z:j<=a\/b<=tl
   .have I:=az z;clear az Z ad E O;have F:∀W,W=wr.alloc (.cells #[.int .u8 av,aa ag,aa ai,aa tl,aa j,aa 0,aa ar] 163)->Below w.heap.size w W/\W.ownsRow w.heap.size 3 1 (.slice U f.length V) f.length (f.map fA)/\W.ownsRow w.heap.size 3 1 (aj go m bb) c.length ((AQ c).map fA):=fun W e=>by
     subst e;exact⟨L.alloc aW _,G.o.alloc _,by rw[ac.o];exact aA.o.alloc _⟩
    have a2:=af F;clear F;by_cases v:j<=a
    .have bc:decide ((j:Int)<=(a:Int))=true:=by simp;omega
     have d:decide (j<=a)=true:=by simp;omega
     clear z v;go_wp2
     go_roundg (qx c)
     case measure=>have:=ab.o;omega
     case rel=>
      obtain⟨f1,f2,f3⟩:=a2.o _ rfl;exact⟨c,f,y+1,by go_num,ay _,aN,f1,Y,I,f2,f3,fun g e d=>J.o g e (by injection d with d;exact d.symm)⟩
    .have bc:decide ((j:Int)<=(a:Int))=false:=by simp;omega
     have d:decide (j<=a)=false:=by simp;omega
     have aE:decide ((b:Int)<=(tl:Int))=true:=by simp;omega
     have bJ:decide (b<=tl)=true:=by simp;omega
     clear z v;go_wp2
     go_roundg (qx c)
     case measure=>have:=ab.o;omega
     case rel=>
      obtain⟨f1,f2,f3⟩:=a2.o _ rfl;exact⟨c,f,y+1,by go_num,ay _,aN,f1,Y,I,f2,f3,fun g e d=>J.o g e (by injection d with d;exact d.symm)⟩
   .have bc:decide ((j:Int)<=(a:Int))=false:=by simp;omega
    have d:decide (j<=a)=false:=by simp;omega
    have aE:decide ((b:Int)<=(tl:Int))=false:=by simp;omega
    have bJ:decide (b<=tl)=false:=by simp;omega
    clear az;by_cases v:a<=tl/\j<=b
    .have I:=Z z v;have bd:decide ((a:Int)<=(tl:Int))=true:=by simp;omega
     have be:decide (a<=tl)=true:=by simp;omega
     have bf:decide ((j:Int)<=(b:Int))=true:=by simp;omega
     have bg:decide (j<=b)=true:=by simp;omega
     clear Z ad E O z v;obtain⟨i,A⟩:∃i,i=wr.alloc (.cells #[.int .u8 av,aa ag,aa ai,aa tl,aa j,aa 0,aa ar] 163):=⟨_,rfl⟩;have a4:Hid (i.ownsRow w.heap.size 3 1 (.slice U f.length V) f.length (f.map fA)):=by rw[A];exact G.o.alloc _
     have H:Below wr.heap.size wr i:=by rw[A];exact(aB _ _).alloc (ay _) _
     have N:=af H;have bU:wr.heap.size<=i.heap.size:=H.size;clear H
     go_upto_region 19 with fail
     rw[<-A];clear A
     go_wp2_with (at_builtin;refine bZ mI w.heap.size a4.o [.int .i64 k] rfl (by simp[Value.oneCell']) rfl _ _ rfl rfl _ rfl (by unfold maxLen;omega) (by omega) (by omega) ?_;intro b3 w3 aR M aL)
     go_roundg (qx c)
     case measure=>have:=ab.o;omega
     case rel=>
      have Q:Below w.heap.size w i:=L.trans (N.o.mono aW);have K:au (fun q=>(Value.slice U f.length V).ownBlock=some q) wr w3:=((au.refl _ wr).below N.o).grown M (fun q T=>.inl T);refine⟨c,f++[k],y+1,by go_num,ay _,aN,dB Q a4.o M Q.size (ay _),Y,I,?_,?_,?_⟩
      .show World.ownsRow _ _ _ _ _ _ _;rw[wm,bq];exact aR
      .show World.ownsRow _ _ _ _ _ _ _;have h9:=aS aA.o K (fun B e d=>J.o B d (by injection e with e;exact e.symm));rw[ac.o];exact h9
      .intro B e d;have aE:go=B:=by injection d
       rcases gu aL with h9|⟨q,h9,bi⟩
       .exact J.o B (h9▸e) aE.symm
       .rw[h9]at e;injection e with e;omega
    .obtain⟨l,r,bN,I⟩:=ad z v;subst bN;have bR:=E.o.left.lt;have bT:=E.o.right.lt;have bK:ag=((l.root s:Nat):Int):=by rw[<-O.o.1];simp only[FT.top];unfold FT.root;have:=l.size_pos;omega
     have bL:ai=((r.root (s+l.size):Nat):Int):=by rw[<-O.o.2];simp only[FT.top];unfold FT.root;have:=r.size_pos;omega
     have bx:=af E.o.left;have bz:=af E.o.right;subst bK bL;have a6:Hid ((FT.node l r).size=l.size+r.size+1):=rfl;obtain⟨kl,ao⟩:∃kl,kl=l.root s:=⟨_,rfl⟩;obtain⟨kr,ap⟩:∃kr,kr=r.root (s+l.size):=⟨_,rfl⟩;rw[<-ao]at a7 bR;rw[<-ap]at a8 bT;have b5:Hid (kl=l.root s/\kr=r.root (s+l.size)):=⟨ao,ap⟩;have bF:Hid ((AQ ((l,s)::(r,s+l.size)::c)).map fA=(AQ c).map fA++[.int .i64 (kr:Nat),.int .i64 (kl:Nat)]):=by
      show _=_;rw[xY,xY,wm,wm,ao,ap,dW];rfl
     clear ao ap Z ad O E z;obtain⟨i,A⟩:∃i,i=wr.alloc (.cells #[.int .u8 av,aa kl,aa kr,aa tl,aa j,aa 0,aa ar] 163):=⟨_,rfl⟩;have H:Below wr.heap.size wr i:=by rw[A];exact(aB _ _).alloc (ay _) _
     have aq:i.heap[wr.heap.size]? =some (.cells #[.int .u8 av,aa kl,aa kr,aa tl,aa j,aa 0,aa ar] 163 (0,0)):=by rw[A];exact di _ _
     have ci:i.cell? (ae wr.heap.size 1)=some (aa kl):=by simp[World.cell?,aq]
     have cj:i.cell? (ae wr.heap.size 2)=some (aa kr):=by simp[World.cell?,aq]
     have a5:Hid (i.ownsRow w.heap.size 3 1 (aj go m bb) m ((AQ c).map fA)):=by
      show World.ownsRow _ _ _ _ _ _ _;rw[ac.o];exact ax aA.o H
     have N:=af H;have bU:wr.heap.size<i.heap.size:=(aZ.1 aq).1;have br:cz (fun x:Int=>[aa x]) 1 (i.alloc (.cells #[aa kr,aa kl] 3)) (some (ae i.heap.size 0)) [(kr:Int),(kl:Int)]:=cz.lit (enc:=fun x:Int=>[aa x]) (sz:=1) (fun _=>rfl) i 3 [(kr:Int),(kl:Int)] _ rfl;have bD:=af br;clear br H aq;by_cases aF:a<=tl
     all_goals
      first
       |(have bd:decide ((a:Int)<=(tl:Int))=true:=by simp;omega)
       |(have bd:decide ((a:Int)<=(tl:Int))=false:=by simp;omega)
      first
       |(have be:decide (a<=tl)=true:=by simp;omega)
       |(have be:decide (a<=tl)=false:=by simp;omega)
      first
       |(have bf:decide ((j:Int)<=(b:Int))=false:=by simp;omega)
       |(have bf:True:=trivial)
      first
       |(have bg:decide (j<=b)=false:=by simp;omega)
       |(have bg:True:=trivial)
      clear v aF
      go_upto_region 16 with fail
      rw[<-A];clear A bG a7 a8 a9 ba bH bI bt
      go_wp2_with (at_builtin;refine mJ mI (enc:=fun x:Int=>[aa x]) (fun _=>rfl) (fun x u hu=>by simp at hu;subst hu;rfl) w.heap.size (a5.o.alloc _) bD.o rfl _ _ rfl rfl 2 rfl (by unfold maxLen;simp;omega) (by simp;omega) (by simp;omega) ?_;intro b3 w3 aR M aL)
      go_roundg (qx ((l,s)::(r,s+l.size)::c))
      case measure=>have h9:=ab.o;have bi:=a6.o;simp only[qx];omega
      case rel=>
       have Q:Below w.heap.size w (i.alloc (.cells #[aa kr,aa kl] 3)):=(L.trans (N.o.mono aW)).alloc (by omega) _;have K:au (fun q=>q=go) wr w3:=(((au.refl _ wr).below N.o).alloc _).grown M (fun q T=>.inl (by injection T with T;exact T.symm));refine⟨(l,s)::(r,s+l.size)::c,f,y+1,by go_num,ay _,?_,dB Q (a5.o.alloc _) M Q.size (ay _),?_,I,?_,?_,?_⟩
       .have h9:=bC.o;have bi:=a6.o;simp only[qx];omega
       .intro p hp;rcases gP.1 hp with rfl|hp
        .exact bx.o
        .rcases gP.1 hp with rfl|hp
         .exact bz.o
         .exact Y.o p hp
       .exact aS G.o K (fun B e d=>J.o B e d)
       .show World.ownsRow _ _ _ _ _ _ _;rw[bF.o,dY,dY,<-ac.o];exact aR
       .intro B e d;have cc:=(G.o.lt B e).2;rcases aL with h9|h9
        .rw[h9]at d;exact J.o B e (by injection d with d;exact d.symm)
        .rw[h9]at d;injection d with d;simp at d;omega
end
section
open Go Go.RowKit
def Uu (YS:List Nat) (d:Nd):List Nat:=YS.filter fun i=>decide (d.fr<=(i:Int)/\(i:Int)<d.Jk)
def lk (N:List Nd) (YS:List Nat) (k:Nat):List Nat:=match N[k]? with|some d=>Uu YS d|none=>[]
section
variable {N:List Nd} {YS:List Nat} {yv:Nat->Int} {y1 y2:Int}
theorem PR (t:FT) (s:Nat):Uu YS (t.top s)=nl YS t:=by
 unfold Uu nl;refine lZ fun i _=>?_;rw[FT.DD,FT.uA,tV];omega
theorem AR {t:FT} {s:Nat} (h:FT.At N t s):lk N YS (t.root s)=nl YS t:=by
 unfold lk;rw[h.get];exact PR t s
theorem Iw (k:Nat):(lk N YS k).Sublist YS:=by
 unfold lk;split
 .exact Dc
 .exact List.nil_sublist _
theorem xZ {a b:Nat} (i:Nat):∀(t:FT) (s:Nat),FT.At N t s->t.wf->(i∈(t.canon s a b).1.flatMap (fun k=>DF yv y1 y2 (lk N YS k))↔i∈nl YS t/\a<=i/\i<b/\y1<=yv i/\yv i<=y2):=by
 have j:∀t:FT,i∈nl YS t->t.lo<=i/\i<t.hi:=fun t hi=>by simpa using(bK.1 hi).2
 have one:∀(t:FT) (s:Nat),FT.At N t s->a<=t.lo->t.hi<=b->(i∈[t.root s].flatMap (fun k=>DF yv y1 y2 (lk N YS k))↔i∈nl YS t/\a<=i/\i<b/\y1<=yv i/\yv i<=y2):=fun t s h d e=>by
  rw[lq,List.flatMap_nil,iE,AR h];unfold DF;rw[bK,bW];constructor
  .rintro⟨c,f⟩;have:=j t c;exact⟨c,by omega,by omega,f⟩
  .rintro⟨c,_,_,f⟩;exact⟨c,f⟩
 intro t
 induction t with
 |leaf x=>
  intro s h g;by_cases h0:(FT.leaf x).hi<=a\/b<=(FT.leaf x).lo
  .rw[FT.ic h0];refine⟨fun h=>absurd h (by simp),fun⟨d,e,c,_⟩=>?_⟩;have:=j _ d;rcases h0 with h0|h0<;>omega
  .rw[FT.canon,aI h0];refine one _ s h ?_ ?_
   .simp only[FT.hi,FT.lo]at h0 |-;omega
   .simp only[FT.hi,FT.lo]at h0 |-;omega
 |node l r m n=>
  intro s h g;by_cases h0:(FT.node l r).hi<=a\/b<=(FT.node l r).lo
  .rw[FT.ic h0];refine⟨fun h=>absurd h (by simp),fun⟨d,e,c,_⟩=>?_⟩;have:=j _ d;rcases h0 with h0|h0<;>omega
  .by_cases d:a<=(FT.node l r).lo/\(FT.node l r).hi<=b
   .rw[FT.qU h0 d];exact one _ s h d.1 d.2
   .rw[FT.l7 h0 d];show i∈((_:List Nat)++_).flatMap _↔_;rw[gM,bT,m s h.left g.1,n _ h.right g.2.1,rP YS l r g,nQ YS l r g,bK,bK,bW,nO,iA];constructor
    .rintro(⟨⟨e,_⟩,c⟩|⟨⟨e,_⟩,c⟩)<;>exact⟨e,c⟩
    .rintro⟨e,c⟩;by_cases f:i<l.hi
     .exact .inl ⟨⟨e,f⟩,c⟩
     .exact .inr ⟨⟨e,f⟩,c⟩
theorem FO {a b:Nat} (j:YS.Nodup):∀(t:FT) (s:Nat),FT.At N t s->t.wf->((t.canon s a b).1.flatMap (fun k=>DF yv y1 y2 (lk N YS k))).Nodup:=by
 have one:∀(t:FT) (s:Nat),FT.At N t s->([t.root s].flatMap (fun k=>DF yv y1 y2 (lk N YS k))).Nodup:=fun t s h=>by
  rw[lq,List.flatMap_nil,iE];exact lg _ (j.sublist (Iw _))
 intro t
 induction t with
 |leaf x=>
  intro s h c;rw[FT.canon];split
  .simp
  .exact one _ s h
 |node l r m n=>
  intro s h c;rw[FT.canon];split
  .simp
  .split
   .exact one _ s h
   .show(((_:List Nat)++_).flatMap _).Nodup;rw[gM];refine oF.2 ⟨m s h.left c.1,n _ h.right c.2.1,fun i hi k g e=>?_⟩;subst e;have d:=((xZ i l s h.left c.1).1 hi).1;have f:=((xZ i r _ h.right c.2.1).1 g).1;have o:l.lo<=i/\i<l.hi:=by simpa using(bK.1 d).2
    have p:r.lo<=i/\i<r.hi:=by simpa using(bK.1 f).2
    have:=c.2.2;omega
end
theorem FT.NH {N:List Nd} {a b:Nat}:∀(t:FT) (s:Nat),FT.At N t s->∀k∈(t.canon s a b).1,k<N.length:=by
 intro t
 induction t with
 |leaf x=>
  intro s h k hk;rw[FT.canon]at hk;split at hk
  .cases hk
  .obtain rfl:=ll.1 hk;exact h.lt
 |node l r c d=>
  intro s h k hk;rw[FT.canon]at hk;split at hk
  .cases hk
  .split at hk
   .obtain rfl:=ll.1 hk;exact h.lt
   .rcases bT.1 hk with hk|hk
    .exact c s h.left k hk
    .exact d _ h.right k hk
end
end Go.Proofs.YtkjdbndekceffaaGreat
set_option autoImplicit false
namespace Go.Proofs.YtkjdbndekceffaaGreat
open Tryz
section
open Go
abbrev Qf:=Nat->Nat
def swp (f:Qf) (i j:Nat):Qf:=fun k=>if k=i then f j else if k=j then f i else f k
def par (j:Nat):Nat:=(j-1)/2
structure LO (lb:Nat->Nat->Bool):Prop where
 U6:∀a b,lb a b=true->lb b a=false
 tr:∀a b c,lb b a=false->lb c b=false->lb c a=false
def HO (lb:Nat->Nat->Bool) (f:Qf) (n:Nat):Prop:=∀j,0<j->j<n->lb (f j) (f (par j))=false
section
variable {lb:Nat->Nat->Bool} (O:LO lb)
include O
end
end
section
open Go Go.RowKit
def lowO (R:List Pt):Option Nat->Option Nat->Option Nat
 |none,b=>b
 |some i,none=>some i
 |some i,some k=>if BL R k i then some k else some i
def kM (R:List Pt) (S:Nat->Prop):Option Nat->Prop
 |none=>∀j,¬S j
 |some i=>S i/\∀j,S j->j=i\/yQ R i j
section
variable {R:List Pt} {S T:Nat->Prop} {a b:Option Nat}
theorem PS (i:Nat):¬yQ R i i:=ve _
theorem x8 {i j k:Nat} (h:yQ R i j) (a:yQ R j k):yQ R i k:=rR h a
theorem kM.uniq (c:kM R S a) (d:kM R S b):a=b:=by
 cases a with
 |none=>
  cases b with
  |none=>rfl
  |some k=>exact absurd d.1 (c k)
 |some i=>
  cases b with
  |none=>exact absurd c.1 (d i)
  |some k=>
   rcases c.2 k d.1 with h|h
   .rw[h]
   .rcases d.2 i c.1 with h2|h2
    .rw[h2]
    .exact absurd (x8 h h2) (PS _)
theorem kM.congr (h:∀j,S j↔T j) (b:kM R S a):kM R T a:=by
 cases a with
 |none=>exact fun j c=>b j ((h j).2 c)
 |some i=>exact⟨(h i).1 b.1,fun j c=>b.2 j ((h j).2 c)⟩
theorem FP {n:Nat} (O:Ord (yQ R) (BL R) n) (hS:∀j,S j->j<n) (l:∀j,T j->j<n) (c:kM R S a) (d:kM R T b):kM R (fun j=>S j\/T j) (lowO R a b):=by
 cases a with
 |none=>
  refine d.congr fun j=>⟨.inr,fun h=>h.resolve_left (c j)⟩
 |some i=>
  cases b with
  |none=>exact c.congr (T:=fun j=>S j\/T j) fun j=>⟨.inl,fun h=>h.resolve_right (d j)⟩
  |some k=>
   show kM R _ (if BL R k i then some k else some i);by_cases h:BL R k i=true
   .rw[aK h];have g:=(O.dec k i).1 h;refine⟨.inr d.1,fun j hj=>?_⟩;rcases hj with hj|hj
    .rcases c.2 j hj with h9|h9
     .rw[h9];exact .inr g
     .exact .inr (x8 g h9)
    .exact d.2 j hj
   .rw[aI h];have f:k=i\/yQ R i k:=by
     by_cases e:k=i
     .exact .inl e
     .rcases O.BK k i (l k d.1) (hS i c.1) e with h9|h9
      .exact absurd ((O.dec k i).2 h9) h
      .exact .inr h9
    refine⟨.inl c.1,fun j hj=>?_⟩;rcases hj with hj|hj
    .exact c.2 j hj
    .rcases d.2 j hj with h9|h9
     .rw[h9];exact f
     .rcases f with h8|h8
      .rw[<-h8];exact .inr h9
      .exact .inr (x8 h8 h9)
theorem FQ {L:List Nat} (h:L.Pairwise (yQ R)):kM R (fun j=>j∈L) L.head?:=by
 cases L with
 |nil=>exact fun j a=>absurd a gZ
 |cons i L=>
  refine⟨mZ,fun j a=>?_⟩;rcases gP.1 a with h9|h9
  .exact .inl h9
  .exact .inr ((lh.1 h).1 j h9)
end
def kz (N:List Nd) (YS:List Nat) (k:Nat):Option Nat:=(lk N YS k).head?
def RJ (YS:List Nat) (a b:Nat):List Nat:=YS.filter fun i=>decide (a<=i/\i<b)
section
variable {R:List Pt} {gone:List Bool} {YS:List Nat} {N:List Nd}
theorem cB.UW (a:cB R gone YS) (k:Nat):(lk N YS k).Pairwise (yQ R):=List.Pairwise.sublist (Iw k) a.Sw
theorem sF (a:cB R gone YS) (k:Nat):kM R (fun j=>j∈lk N YS k) (kz N YS k):=FQ (a.UW k)
theorem Cz (a:cB R gone YS) {k j:Nat} (h:j∈lk N YS k):j<R.length:=a.lt ((Iw k).subset h)
theorem AU (a:cB R gone YS) {k i:Nat} (h:kz N YS k=some i):i<R.length:=by
 have:=sF (N:=N) a k;rw[h]at this;exact Cz a this.1
theorem PT (YS:List Nat) {l r:FT} (a:(FT.node l r).wf):(nl YS l++nl YS r).Perm (nl YS (.node l r)):=by
 rw[rP YS l r a,nQ YS l r a];exact List.filter_append_perm _ _
theorem FR (a:cB R gone YS) {l r:FT} {s:Nat} (b:FT.At N (.node l r) s) (d:(FT.node l r).wf):
  kz N YS ((FT.node l r).root s)=lowO R (kz N YS (l.root s)) (kz N YS (r.root (s+l.size))):=by
 have c:=FP (Ir a.ids) (fun j h=>Cz a h) (fun j h=>Cz a h) (sF (N:=N) a (l.root s)) (sF (N:=N) a (r.root (s+l.size)));refine kM.uniq (sF a _) (c.congr fun j=>?_);rw[AR b,AR b.left,AR b.right,<-(PT YS d).mem_iff,bT]
theorem AV (e:cB R gone YS) {a s:Nat} (f:FT.At N (.leaf a) s):kz N YS s=if a∈YS then some a else none:=by
 have c:∀j,j∈lk N YS s↔j=a/\a∈YS:=fun j=>by
  have:lk N YS s=nl YS (.leaf a):=AR f;rw[this];unfold nl;rw[bK,bW];simp only[FT.lo,FT.hi];constructor
  .rintro⟨d,g⟩;obtain rfl:j=a:=by omega
   exact⟨rfl,d⟩
  .rintro⟨rfl,h⟩;exact⟨h,by omega⟩
 refine kM.uniq (sF e s) ?_;split
 .rename_i h;exact⟨(c a).2 ⟨rfl,h⟩,fun j b=>.inl ((c j).1 b).1⟩
 .rename_i h;exact fun j b=>h ((c j).1 b).2
theorem JP (L:List Nat):DF (fun _=>0) 0 0 L=L:=by unfold DF;exact mH.2 fun i _=>by simp
theorem Iy {a b:Nat} (i:Nat) (t:FT) (s:Nat) (c:FT.At N t s) (d:t.wf):i∈(t.canon s a b).1.flatMap (lk N YS)↔i∈nl YS t/\a<=i/\i<b:=by
 have h:=xZ (yv:=fun _=>0) (y1:=0) (y2:=0) (YS:=YS) (N:=N) (a:=a) (b:=b) i t s c d;simp only[JP]at h;rw[h];simp
theorem K8 (d:cB R gone YS) (c:0<R.length) (a b:Nat):(((dK 0 R.length).canon 0 a b).1.flatMap (lk (aU R.length) YS)).Perm (RJ YS a b):=by
 have⟨w1,w2,w3⟩:=bO 0 R.length c;have f:=jF R.length c;have e:=FO (yv:=fun _=>0) (y1:=0) (y2:=0) (N:=aU R.length) (a:=a) (b:=b) d.nodup (dK 0 R.length) 0 f w1;simp only[JP]at e;refine(yu e (d.nodup.sublist Dc)).2 fun i=>?_;rw[Iy i _ 0 f w1,d.top c,bK,bW]
def rF (R:List Pt) (N:List Nd) (YS:List Nat) (ks:List Nat):Option Nat:=ks.foldl (fun o k=>lowO R o (kz N YS k)) none
theorem K9 (a:List Nat) (k:Nat):rF R N YS (a++[k])=lowO R (rF R N YS a) (kz N YS k):=by unfold rF;rw[List.foldl_append];rfl
theorem FU (a:cB R gone YS) (b:List Nat):∀(o:Option Nat) (S:Nat->Prop),(∀j,S j->j<R.length)->kM R S o->kM R (fun j=>S j\/j∈b.flatMap (lk N YS)) (b.foldl (fun o k=>lowO R o (kz N YS k)) o):=by
 induction b with
 |nil=>intro o S hS h;exact h.congr fun j=>by simp
 |cons k b ih=>
  intro o S hS h;have c:=FP (Ir a.ids) hS (fun j h=>Cz a h) h (sF (N:=N) a k);have d:=ih _ _ (fun j e=>e.elim (hS j) (Cz a)) c;rw[zG];refine d.congr fun j=>?_;rw[lq,bT,or_assoc]
theorem JQ (c:cB R gone YS) (a b:Nat):(RJ YS a b).Pairwise (yQ R):=lg _ c.Sw
theorem Iz (c:cB R gone YS) (d:0<R.length) (a b:Nat):rF R (aU R.length) YS ((dK 0 R.length).canon 0 a b).1=(RJ YS a b).head?:=by
 have e:=FU (N:=aU R.length) c ((dK 0 R.length).canon 0 a b).1 none (fun _=>False) (fun _ h=>h.elim) (fun _ h=>h);refine kM.uniq (e.congr fun j=>?_) (FQ (JQ c a b));rw[(K8 c d a b).mem_iff];simp
end
def yR (x1 x2:Int) (p:Pt):Bool:=decide (x1<=p.1/\p.1<=x2)
def Ml (l:List Pt) (x1 x2:Int):List Pt:=jP (l.filter (yR x1 x2))
theorem PU (l:List Pt) (x1 x2:Int):(Ml l x1 x2).length<=l.length:=by
 unfold Ml;rw[(iM _).length_eq];exact gK _ _
section
variable {R:List Pt} {gone:List Bool} {YS:List Nat} {l:List Pt}
theorem PV (b:cB R gone YS) (f:ru R YS l) (x1 x2:Int):(RJ YS (iU R x1) (lD R x2)).map (bV R)=Ml l x1 x2:=by
 have e:∀i,i∈YS->(iU R x1<=i/\i<lD R x2↔yR x1 x2 (bV R i)=true):=fun i hi=>by
  have d:=b.lt hi;have g:i<(bU R).length:=by unfold bU;simpa using d
  have h:(bU R)[i]=(bV R i).1:=by rw[dF d];simp[bU]
  have c:=ry b.Ro x1 g;have a:=rz b.Ro x2 g;rw[h]at c a;unfold iU lD yR;rw[bW,c,a]
 have hu:(ids (l.filter (yR x1 x2))).Nodup:=f.iP.sublist (List.filter_sublist.map _);refine Jz hu (dE.2 (JQ b _ _)) fun p=>?_;rw[dI,bK,f.mem];constructor
 .rintro⟨i,hi,rfl⟩;unfold RJ at hi;rw[bK,bW]at hi;exact⟨⟨i,hi.1,rfl⟩,(e i hi.1).1 hi.2⟩
 .rintro⟨⟨i,hi,rfl⟩,a⟩;refine⟨i,?_,rfl⟩;unfold RJ;rw[bK,bW];exact⟨hi,(e i hi).2 a⟩
theorem NI (l:List Pt) {x1 x2:Int} (h:x2<x1):Ml l x1 x2=[]:=by
 unfold Ml;rw[wK.2 (fun p _=>by unfold yR;simp only[bW];omega)];exact gJ (iM []).length_eq
end
end
section
open Go.RowKit Go.Sort Go.Shelf Go.Lib Go.Maps
attribute [local irreducible] wpQuiet
attribute [local go_sem] Oper.fo
def nG:Option Nat->Int
 |none=>-1
 |some i=>i
theorem NJ (i:Nat):nG (some i)=(i:Int):=rfl
theorem PW {o:Option Nat} {i:Nat}:nG o=(i:Int)↔o=some i:=by
 cases o with
 |none=>simp only[nG];constructor<;>intro h<;>first|omega|cases h
 |some j=>simp only[nG,iV];omega
def GA (h:iy) (n:Nat):List Value:=(List.range n).map fun k=>.int .i64 (nG (h k))
theorem JR (h:iy) {n k:Nat} (a:k<n):(GA h n)[k]? =some (.int .i64 (nG (h k))):=by simp[GA,a]
theorem JS (h:iy) {n k:Nat} (c:k<n) (v:Option Nat):(GA h n).set k (.int .i64 (nG v))=GA (fV h k v) n:=by
 apply qI (by simp[GA]);intro i a b;simp only[GA,List.getElem_set,fJ,wQ];by_cases e:k=i
 .subst e;rw[aK rfl,fO]
 .rw[aI e,gU (iG e)]
theorem La {h h':iy} {n:Nat} (e:∀k,k<n->h' k=h k):GA h' n=GA h n:=by
 unfold GA;exact Di fun k a=>by rw[e k (ug.1 a)]
theorem gG.sub {lt:Nat->Nat->Prop} {h:iy}:∀{t:FT} {s:Nat},gG lt h t s->∀p∈t.subs s,gG lt h p.1 p.2
 |.leaf a,s,b,p,hp=>by
  have:p=(.leaf a,s):=by simpa[FT.subs]using hp
  subst this;exact b
 |.node l r,s,b,p,hp=>by
  simp only[FT.subs,bT,ll]at hp;rcases hp with(hp|hp)|hp
  .exact gG.sub b.2.2.1 p hp
  .exact gG.sub b.2.2.2 p hp
  .subst hp;exact b
theorem lK.at_ {R:List Pt} {h:iy} (H:lK R h) {t:FT} {s:Nat} (c:FT.At (aU R.length) t s):gG (yQ R) h t s/\t.wf/\t.hi<=R.length:=by
 have a:=ky c;have⟨w1,w2,w3⟩:=bO 0 R.length a;have b:=FT.at_mem (fG a▸c);exact⟨(H.ok a).sub _ b,FT.pG _ 0 w1 _ b,bJ (FT.y5 _ 0 w1 (t,s) b) (by omega)⟩
theorem lK.pl {R:List Pt} {h:iy} (H:lK R h) {k i:Nat} (f:k<(aU R.length).length) (e:h k=some i):i<R.length:=by
 have⟨t,s,d,g⟩:=rZ f;have⟨b,c,j⟩:=H.at_ d;rw[<-g]at e;have⟨L,a⟩:=oq e;have:=b.span c i (by rw[a];simp);omega
structure mr where
 rv:Value
 xv:Value
 nv:Value
 hv:Value
 fv:Value
abbrev Lb (rv xv:Value) (fb:Nat) (nv hv:Value) (n:Int):Obj:=.cells #[rv,xv,ah fb,nv,hv,aa n] 155 (0,0)
structure dm (w:World) (lo hi tb fb:Nat) (R:List Pt) (h:iy) (cnt:Int) (V:mr):Prop where
 blk:w.heap[tb]? =some (Lb V.rv V.xv fb V.nv V.hv cnt)
 fq:lo<=tb/\tb<hi/\lo<=fb/\fb<hi/\hi<=w.heap.size
 row:w.ownsRow lo 29 3 V.rv R.length (R.flatMap dx)
 xs:w.ownsRow lo 2 1 V.xv R.length ((bU R).map (Value.int .i64))
 ig:mQ w lo fb R.length V.fv
 iP:w.ownsRow lo 163 7 V.nv (aU R.length).length ((aU R.length).flatMap nU)
 nE:w.ownsRow lo 3 1 V.hv (aU R.length).length (GA h (aU R.length).length)
 top:∀v,v=V.rv\/v=V.xv\/v=V.nv\/v=V.hv\/v=V.fv->∀g,v.ownBlock=some g->g<hi
section
variable {w w':World} {lo hi tb fb:Nat} {R:List Pt} {h:iy} {cnt:Int} {V:mr}
theorem dm.kept {S:Nat->Prop} (H:dm w lo hi tb fb R h cnt V) (K:au S w w') (hS:∀k,lo<=k->k<hi->¬S k):dm w' lo hi tb fb R h cnt V:=by
 have ht:=H.top;have a:∀{e:TypeId} {sz:Nat} {v:Value} {n:Nat} {xs:List Value},w.ownsRow lo e sz v n xs->(∀g,v.ownBlock=some g->g<hi)->w'.ownsRow lo e sz v n xs:=fun a b=>aS a K fun g e=>hS g (a.lt g e).1 (b g e);exact⟨bF K H.blk (hS tb H.fq.1 H.fq.2.1),⟨H.fq.1,H.fq.2.1,H.fq.2.2.1,H.fq.2.2.2.1,bJ H.fq.2.2.2.2 K.size⟩,
  a H.row (ht _ (by simp)),a H.xs (ht _ (by simp)),
  ⟨bF K H.ig.blk (hS fb H.fq.2.2.1 H.fq.2.2.2.1),a H.ig.row (ht _ (by simp))⟩,a H.iP (ht _ (by simp)),a H.nE (ht _ (by simp)),H.top⟩
theorem dm.below {B:Nat} (H:dm w lo hi tb fb R h cnt V) (a:Below B w w') (e:hi<=B):dm w' lo hi tb fb R h cnt V:=
 H.kept (S:=fun k=>hi<=k) ⟨a.os,a.tape,a.output,a.size,fun k f g=>a.block k (by omega)⟩ fun k b c d=>by omega
theorem dm.ED (H:dm w lo hi tb fb R h cnt V):tb<w.heap.size:=bB H.fq.2.1 H.fq.2.2.2.2
theorem dm.nodes (H:dm w lo hi tb fb R h cnt V) (l:0<R.length):∃g off c,V.nv=.slice (some (ae g off)) (aU R.length).length c/\cz nU 7 w (some (ae g off)) (aU R.length):=by
 have m:=dh R.length;have⟨g,c,e,_⟩:=aQ H.iP (by omega);obtain⟨a,i,b,-,-,d⟩:=cz.aC iZ (by decide) H.iP;rw[e]at b;injection b with f j k;rw[<-f]at d;exact⟨g,0,c,e,d⟩
theorem dm.holds (H:dm w lo hi tb fb R h cnt V) (r:0<R.length):∃g c,V.hv=aj g (aU R.length).length c/\lo<=g/\g<hi/\g≠tb/\g≠fb/\g<w.heap.size/\(∀k,k<(aU R.length).length->w.cell? (ae g k)=some (aa (nG (h k)))/\w.frozen? (ae g k)=false)/\
  (∀a,V.rv.ownBlock=some a->a≠g)/\(∀a,V.xv.ownBlock=some a->a≠g)/\(∀a,V.nv.ownBlock=some a->a≠g)/\∀a,V.fv.ownBlock=some a->a≠g:=by
 have x:=dh R.length;have⟨g,c,e,y,u,s,t⟩:=aQ H.nE (by omega);have b:=H.nE;rw[e]at b;have p:(aj g (aU R.length).length c).ownBlock=some g:=rfl;have f:∀{j:TypeId} {sz n:Nat} {v:Value} {xs:List Value},w.ownsRow lo j sz v n xs->j≠3->∀a,v.ownBlock=some a->a≠g:=fun q o a d l=>bD q b o a d (l▸p);refine⟨g,c,e,(b.lt g rfl).1,H.top V.hv (by simp) g (by rw[e];rfl),fun i=>bz b H.blk (by decide) g rfl i.symm,fun i=>bz b H.ig.blk (by decide) g rfl i.symm,(b.lt g rfl).2,fun k m=>⟨?_,b.frozenAt k⟩,f H.row (by decide),f H.xs (by decide),f H.iP (by decide),f H.ig.row (by decide)⟩;have d:=b.cellAt k (by omega);rw[JR h m]at d;exact d
theorem dm.mW (H:dm w lo hi tb fb R h cnt V) {g n c:Nat} (i:V.hv=aj g n c) {k:Nat} (j:k<(aU R.length).length) (v:Option Nat):
  dm (w.setCell (ae g k) (.int .i64 (nG v))) lo hi tb fb R (fV h k v) cnt V:=by
 have K:au (fun k=>k=g) w (w.setCell (ae g k) (.int .i64 (nG v))):=(au.refl (fun k=>k=g) w).set (a:=(ae g k)) _ (.inl rfl);have e:=H.nE;rw[i]at e;have l:n=(aU R.length).length:=by
  rcases e.2 with⟨d,-⟩|⟨p,m,o,d,-⟩
  .cases d
  .injection d with _ d _
 subst l;have⟨cs,fr,b⟩:=pU e;have f:=(e.stored k (.int .i64 (nG v))).1;rw[JS h j v]at f;refine⟨Ef H.blk K b (by decide),by simpa using H.fq,eX H.row K b (by decide),eX H.xs K b (by decide),xR H.ig K b (by decide) (by decide),eX H.iP K b (by decide),?_,H.top⟩;rw[i];exact f
theorem dm.Ay (H:dm w lo hi tb fb R h cnt V) (m:Int):dm (w.setCell (ae tb 5) (.int .i64 m)) lo hi tb fb R h m V:=by
 have K:au (fun k=>k=tb) w (w.setCell (ae tb 5) (.int .i64 m)):=(au.refl (fun k=>k=tb) w).set (a:=(ae tb 5)) _ (.inl rfl);have b:=H.blk;exact⟨dA w tb 5 _ _ _ H.blk,by simpa using H.fq,eX H.row K b (by decide),eX H.xs K b (by decide),xR H.ig K b (by decide) (by decide),eX H.iP K b (by decide),eX H.nE K b (by decide),H.top⟩
end
abbrev x9 (fr ub:Nat) (y:Int) (F:Nat) (cb:Array Value) (c:Nat):Obj:=.cells #[aa fr,aa ub,aa y,.func (.func F) #[] cb,aa c] 250 (0,0)
structure PX (F:Nat) (cb:Array Value) (more:Bool) (R:List Pt) (w0:World) (FL:List Nat) (S:World->List Nat->(Nat->Prop)->Prop):Prop where
 enters:∀args w,(callFunc F args).run prog w=.ok (.enter F args) w
 base:∀W acc D,S W acc D->Below w0.heap.size w0 W
 lt:∀W acc D,S W acc D->∀k,D k->w0.heap.size<=k/\k<W.heap.size
 jE:∀W W' acc D E,S W acc D->au E W W'->(∀k,E k->w0.heap.size<=k/\¬D k)->S W' acc D
 told:∀W acc D i,S W acc D->i<R.length->acc++[i] <+: FL->
  aH F (#[iD (bV R i).1 (bV R i).2.1 (bV R i).2.2]++cb) W fun e w'=>e=.returned (.bool more)/\∃D',S w' (acc++[i]) D'/\(∀k,D' k->D k\/W.heap.size<=k)/\au D W w'
def Lc (S:World->List Nat->(Nat->Prop)->Prop) (W:World) (D:Nat->Prop) (ab fr ub:Nat) (y:Int) (F:Nat) (cb:Array Value) (c:Nat) (acc:List Nat) (r:List Nat×Nat×Bool) (e:Ending) (w':World):Prop:=
 e=.returned (.bool r.2.2)/\∃D',S w' (acc++r.1) D'/\(∀k,D' k->D k\/W.heap.size<=k)/\au (fun k=>D k\/k=ab) W w'/\w'.heap[ab]? =some (x9 fr ub y F cb (c+r.2.1))
theorem IA {P:Program} {ops:Array Oper} {o:Oper} {a:Act} {K:Act->World->Prop} {Q:Exit->Act->World->Prop} {E0:Prop} {f:FuncId} {w:World} {vals:Array Value} {R:Ending->World->Prop} (i:∀args w,(callFunc f args).run P w=.ok (.enter f args) w) (n:Region.wanted o (yielded ops a.tmps)=true) (g:Operand) (args:Array Operand) (p:Array TypeId) (l:o.op=.call {callee:=.value g,args:=args,argTypes:=p})
  (cb:Array Value) (j:a.eval g=.func (.func f) #[] cb) (c:vals=(args.toList.map a.eval).toArray++cb)
  (C:Calls P f vals w R) (h:∀e w',R e w'->∃v,e=.returned v/\K (a.put o.dst v) w'):
  if Region.wanted o (yielded ops a.tmps)=true then Oper.wp P o a w K Q else E0:=by
 rw[aK n];unfold Oper.wp;have b:args.map a.eval++cb=vals:=by rw[c,<-Dp]
 have d:(execOp a.eval o).run P w=.ok (.enter f vals) w:=by
  simp[execOp,l,resolve,invoke,j,b,Deferred.ofValue,i]
 rw[d,Oper.upon_enter];refine C.mono fun e w' m=>?_;obtain⟨v,rfl,k⟩:=h e w' m;exact k
theorem AX (F:Nat) (cb:Array Value) (more:Bool) (R:List Pt) (h:iy) (cnt:Int) (V:mr) (lo hi tb fb b:Nat) (w0:World) (S:World->List Nat->(Nat->Prop)->Prop) (y:Int) (fr ub:Nat) (N:List Nat)
  (aq:PX F cb more R w0 N S) (bs:dm w0 lo hi tb fb R h cnt V) (d3:R.length<=20000) (d4:w0.heap.size<=b)
  (t:FT) (s:Nat) (W:World) (f:List Nat) (D:Nat->Prop) (c:Nat) (bv:FT.At (aU R.length) t s) (a2:t.wf) (c5:t.hi<=R.length) (ce:gG (yQ R) h t s) (hS:S W f D) (b3:¬D b) (aV:W.heap[b]? =some (x9 fr ub y F cb c)) (c0:c+t.size<=1000000)
  (b5:f++(downG more h (kR R) y fr ub t s).1 <+: N)
  (db:∀l r,t=.node l r->(∀W f D c,S W f D->¬D b->W.heap[b]? =some (x9 fr ub y F cb c)->c+l.size<=1000000->f++(downG more h (kR R) y fr ub l s).1 <+: N->
    aH 174 #[ah tb,aa (l.root s:Nat),ah b] W (Lc S W D b fr ub y F cb c f (downG more h (kR R) y fr ub l s)))/\
    ∀W f D c,S W f D->¬D b->W.heap[b]? =some (x9 fr ub y F cb c)->c+r.size<=1000000->f++(downG more h (kR R) y fr ub r (s+l.size)).1 <+: N->
    aH 174 #[ah tb,aa (r.root (s+l.size):Nat),ah b] W (Lc S W D b fr ub y F cb c f (downG more h (kR R) y fr ub r (s+l.size)))):
  aH 174 #[ah tb,aa (t.root s:Nat),ah b] W (Lc S W D b fr ub y F cb c f (downG more h (kR R) y fr ub t s)):=by
 have b2:0<R.length:=by have:=t.eQ a2;omega
 have ed:=t.size_pos;have d5:=aq.base W f D hS;have cT:=aq.lt W f D hS;have co:=af cT;clear cT;have es:b<W.heap.size:=(aZ.1 aV).1;have dj:W.cell? (ae b 4)=some (aa c):=by simp[World.cell?,aV]
 have eq:W.frozen? (ae b 4)=false:=by simp[World.frozen?,aV]
 have et:c+1<=1000000:=by omega
 obtain⟨w1,aR⟩:∃w1,w1=W.setCell (ae b 4) (.int .i64 ((c+1:Nat):Int)):=⟨_,rfl⟩;have bS:au (fun k=>k=b) W w1:=by rw[aR];exact(au.refl (fun k=>k=b) W).set (a:=(ae b 4)) _ (.inl rfl)
 have ar:w1.heap[b]? =some (x9 fr ub y F cb (c+1)):=by rw[aR];exact dA W b 4 _ _ _ aV
 have b8:S w1 f D:=aq.jE W w1 f D _ hS bS (fun k Q=>by subst Q;exact⟨d4,b3⟩);have cZ:=aq.base w1 f D b8;have ao:=bs.below cZ bs.fq.2.2.2.2;obtain⟨dZ,off,cn,env,dq⟩:=ao.nodes b2;obtain⟨dY,ch,cI,-,-,-,-,eu,c1,-⟩:=ao.holds b2;obtain⟨dn,dp,cK,-,-,dr⟩:=cz.aC bu (by decide) ao.row;have aS:=ao.blk;rw[env,cI,cK]at aS;have c4:=bv.get;have b9:=bv.lt;obtain⟨ev,n0,bz,bA,a4,a5,cd,bB⟩:=l9 dq c4;rw[FT.DD]at a4;rw[FT.uA]at a5;have bo:=(c1 _ b9).1;have ee:tb<w1.heap.size:=ao.ED;have bX:w1.cell? (ae tb 0)=some (.slice dn R.length dp):=by simp[World.cell?,aS]
 have bY:w1.cell? (ae tb 3)=some (.slice (some (ae dZ off)) (aU R.length).length cn):=by simp[World.cell?,aS]
 have bZ:w1.cell? (ae tb 4)=some (aj dY (aU R.length).length ch):=by simp[World.cell?,aS]
 have ds:w1.cell? (ae b 0)=some (aa fr):=by simp[World.cell?,ar]
 have dt:w1.cell? (ae b 1)=some (aa ub):=by simp[World.cell?,ar]
 have du:w1.cell? (ae b 2)=some (aa y):=by simp[World.cell?,ar]
 have dv:w1.cell? (ae b 3)=some (.func (.func F) #[] cb):=by simp[World.cell?,ar]
 have c6:=t.eQ a2;have d0:(aU R.length).length<=40000:=by rw[dh];omega
 have eb:=t.size_pos;obtain⟨q,b0⟩:∃q,q=t.hi:=⟨_,rfl⟩;obtain⟨tl,b1⟩:∃tl,tl=t.lo:=⟨_,rfl⟩;rw[<-b0]at a5 c5 c6;rw[<-b1]at a4 c6;obtain⟨K,g⟩:∃K,K=t.root s:=⟨_,rfl⟩;obtain⟨d,hd⟩:∃d,d=t.top s:=⟨_,rfl⟩;obtain⟨o,bw⟩:∃o,o=h (t.root s):=⟨_,rfl⟩;rw[<-hd]at n0 bz bA bB;rw[<-bw]at bo;rw[<-g]at n0 bz bA a4 a5 cd bB b9 bo;obtain⟨r,H⟩:∃r,r=downG more h (kR R) y fr ub t s:=⟨_,rfl⟩;have aG:Hid (q=t.hi/\tl=t.lo/\K=t.root s/\d=t.top s/\o=h (t.root s)/\r=downG more h (kR R) y fr ub t s):=⟨b0,b1,g,hd,bw,H⟩;rw[<-H]at b5 |-;rw[<-g];have cp:=af b5;have P:=af aq;have cy:=af b8;have er:=af bs;have cx:=af dr;have cv:=af db;have dG:=af ce;have cq:=af bS;have ci:=af ar;have dK:=af a2;have dB:=af bv;have dC:=af c0;have bK:=af b3;have df:w1.heap.size=W.heap.size:=by rw[aR];simp
 have cB:=af df;obtain⟨M,b7⟩:∃M,M=(aU R.length).length:=⟨_,rfl⟩;obtain⟨a6,ca⟩:∃a6,a6=R.length:=⟨_,rfl⟩;rw[<-b7]at bY bZ b9 d0;rw[<-ca]at bX d3 c5 b2;have dE:Hid (M=(aU R.length).length/\a6=R.length):=⟨b7,ca⟩;have X:b<w1.heap.size:=by omega
 have dc:∀i,o=some i->i<a6/\tl<=i/\i<q:=fun i cJ=>by
  rw[bw]at cJ;obtain⟨L,dT⟩:=oq cJ;have:=ce.span a2 i (by rw[dT];simp);omega
 have cw:=af dc;clear dc b0 b1 g hd bw H b5 aq b8 bs dr db ce bS ar a2 bv c0 b3 df b7 ca aS c4 env cI cK c1 dq hS d5 ao cZ eb ed aV;go_enter func174,ntmps174
 go_upto_region 2 with fail
 rw[show W.setCell (ae b 4) (.int .i64 ((c:Int)+1))=w1 by rw[aR];rfl];clear aR dj eq;obtain⟨w2,bp⟩:∃w2,w2=(w1.alloc (.cells #[.int .u8 d.kind,aa d.l,aa d.r,aa tl,aa q,aa 0,aa d.item] 163)).drew:=⟨_,rfl⟩;have v:Below w1.heap.size w1 w2:=by rw[bp];exact((aB _ _).alloc (ay _) _).drew
 have I:w2.heap[w1.heap.size]? =some (.cells #[.int .u8 d.kind,aa d.l,aa d.r,aa tl,aa q,aa 0,aa d.item] 163 (0,0)):=by rw[bp];exact di w1 _
 have cj:=af v;have bk:=af I;have bO:Hid (S w2 f D):=P.o.jE w1 w2 f D (fun _=>False) cy.o ((au.refl _ w1).below v) (fun k h=>h.elim);clear v I;have bq:=ag bY;have br:=ag bZ;have ef:=ag n0;have eg:=ag bz;have eh:=ag bA;have ei:=ag a4;have ej:=ag a5;have ek:=ag cd;have el:=ag bB;have em:=ag bo;refine ak (fun W=>∃p:aT w1,W=p.W) [16] [(0,false),(1,false),(2,false),(3,true),(4,false),(5,false),(6,true),(7,false),(8,false),(9,false),(10,true),(11,false),(12,false),(13,true)] ⟨⟨_,(aB _ _).drew⟩,rfl⟩ 3 ?_;simp only[bn,aX,aY,aW,aN,aM,aO]
 repeat(refine aD (fun K g=>?_);go_simp;first|(refine g _ ?_;clear g K)|(apply Exists.intro;refine⟨fun _=>?_,g _ ?_⟩;rfl;clear g K))
 refine aJ ?_;refine aA 14 rfl fun K g=>?_;go_simp;refine g _ _ (fun _ _=>⟨⟨_,(aB _ w1).alloc (ay _) _|>.drew⟩,rfl⟩) ?_;clear g K;refine aA 15 rfl fun K g=>?_;go_simp;refine g _ _ (fun _ _=>⟨⟨_,(aB _ w1).alloc (ay _) _|>.drew⟩,rfl⟩) ?_;clear g K;refine aF [16] _ _ _ (by kernel_rfl) ?_;simp only[pick,aX,aY,aW,aN,aM];rw[<-bp];clear bq br ef eg eh ei ej ek el em bp
 go_upto_region 3 with fail
 have v:=cj.o;have a3:w1.heap.size<w2.heap.size:=(aZ.1 bk.o).1;have I:=bk.o;have bl:=(v.cell (p:=(ae tb 0)) ee).trans bX;have t0:=(v.cell (p:=(ae b 0)) X).trans ds;have t1:=(v.cell (p:=(ae b 1)) X).trans dt;have t2:=(v.cell (p:=(ae b 2)) X).trans du;have t3:=(v.cell (p:=(ae b 3)) X).trans dv;have C:w2.cell? (ae w1.heap.size 0)=some (.int .u8 d.kind):=by simp[World.cell?,I]
 have x1:w2.cell? (ae w1.heap.size 1)=some (aa d.l):=by simp[World.cell?,I]
 have x2:w2.cell? (ae w1.heap.size 2)=some (aa d.r):=by simp[World.cell?,I]
 have eH:w2.cell? (ae w1.heap.size 3)=some (aa tl):=by simp[World.cell?,I]
 have eI:w2.cell? (ae w1.heap.size 4)=some (aa q):=by simp[World.cell?,I]
 have bH:Hid (w2.heap[b]? =some (x9 fr ub y F cb (c+1))):=(v.block b X).trans ci.o;have bM:Hid (au (fun k=>D k\/k=b) W w2):=(cq.o.mono fun k h=>.inr h).below v;have aQ:Hid (cz dx 3 w2 dn R):=cx.o.below v;have bG:Hid (∀(a7:World) (n:Nat),Below w2.heap.size w2 a7->r=([],1,true)->Lc S W D b fr ub y F cb c f r (.returned (.bool true)) a7):=fun a7 n G e=>by
  rw[e];show Lc S W D b fr ub y F cb c f ([],1,true) _ _;refine⟨rfl,D,?_,fun k h=>.inl h,bM.o.below G,(G.block b (uo X a3)).trans bH.o⟩;show S a7 (f++[]) D;rw[iE];exact P.o.jE w2 a7 f D (fun _=>False) bO.o ((au.refl _ w2).below G) (fun k h=>h.elim)
 clear v I bX bY bZ ds dt du dv n0 bz bA a4 a5 cd bB bo;cases o with
 |none=>
  have H:r=([],1,true):=by
   obtain⟨-,-,-,-,w,x⟩:=aG.o;rw[x];exact mq w.symm
  have aE:Hid (∀n,Lc S W D b fr ub y F cb c f r (.returned (.bool true)) (w2.drewN n)):=fun n=>bG.o _ n (Below.bC _ _) H;clear H;simp only[nG]
  go_quiet (fail)
  go_wp2;go_ret;exact aE.o _
 |some i=>
  obtain⟨d8,ew,ex⟩:=cw.o i rfl;have a0:i<R.length:=by rw[<-dE.o.2];exact d8
  obtain⟨bD,bE,dU,ey,bx⟩:=aQ.o.get (by omega);have ab:=bx i a0 0 (by omega);have ac:=bx i a0 1 (by omega);have ad:=bx i a0 2 (by omega);simp only[dx,aM,aN,dM]at ab ac ad;rw[<-dF a0]at ab ac ad;subst dU;have dg:kR R i=(bV R i).2.1:=rfl;have cD:Hid (∀W f D,S W f D->f++[i] <+: N->aH F (#[iD (bV R i).1 (bV R i).2.1 (bV R i).2.2]++cb) W fun e w'=>e=.returned (.bool more)/\∃cg,S w' (f++[i]) cg/\(∀k,cg k->D k\/W.heap.size<=k)/\au D W w'):=fun W f D J cM=>P.o.told W f D i J a0 cM;have bR:=af dg;clear bx dg;generalize bV R i=p at*;obtain⟨dl,A,dk⟩:=p;simp only at ab ac ad;simp only[NJ];have dQ:((i:Int)==-1)=false:=by first|(simp;done)|(simp;omega)
  have dR:decide ((i:Int)=-1)=false:=by first|(simp;done)|(simp;omega)
  by_cases hp:y<A\/q<=fr\/ub<=tl
  .have H:r=([],1,true):=by
    obtain⟨aw,ax,-,-,w,x⟩:=aG.o;rw[x];refine lU w.symm ?_;have:=bR.o;simp only at this;rw[this,<-aw,<-ax];exact hp
   have aE:Hid (∀n,Lc S W D b fr ub y F cb c f r (.returned (.bool true)) (w2.drewN n)):=fun n=>bG.o _ n (Below.bC _ _) H;clear H;by_cases J:y<A
   .have d1:decide (A>y)=true:=by simp;omega
    have d2:decide (y<A)=true:=by simp;omega
    clear hp
    go_quiet (fail)
    go_wp2;go_ret;exact aE.o _
   .have d1:decide (A>y)=false:=by simp;omega
    have d2:decide (y<A)=false:=by simp;omega
    by_cases cM:q<=fr
    .have f1:decide ((q:Int)<=(fr:Int))=true:=by simp;omega
     have f2:decide (q<=fr)=true:=by simp;omega
     clear hp
     go_quiet (fail)
     go_wp2;go_ret;exact aE.o _
    .have f1:decide ((q:Int)<=(fr:Int))=false:=by simp;omega
     have f2:decide (q<=fr)=false:=by simp;omega
     have f3:decide ((tl:Int)>=(ub:Int))=true:=by simp;omega
     have f4:decide ((ub:Int)<=(tl:Int))=true:=by simp;omega
     have f5:decide (ub<=tl)=true:=by simp;omega
     clear hp
     go_quiet (fail)
     go_wp2;go_ret;exact aE.o _
  .have d1:decide (A>y)=false:=by simp;omega
   have d2:decide (y<A)=false:=by simp;omega
   have f1:decide ((q:Int)<=(fr:Int))=false:=by simp;omega
   have f2:decide (q<=fr)=false:=by simp;omega
   have f3:decide ((tl:Int)>=(ub:Int))=false:=by simp;omega
   have f4:decide ((ub:Int)<=(tl:Int))=false:=by simp;omega
   have f5:decide (ub<=tl)=false:=by simp;omega
   have bN:=af hp;clear hp bG
   go_quiet (fail)
   obtain⟨w3,u⟩:∃w3,w3=w2.drewN nq:=⟨_,rfl⟩;have a9:Hid (Below w2.heap.size w2 w3):=by rw[u];exact Below.bC _ _
   have bl:w3.cell? (ae tb 0)=some (.slice (some (ae bD bE)) a6 dp):=by rw[u];exact bl
   have t0:w3.cell? (ae b 0)=some (aa fr):=by rw[u];exact t0
   have t1:w3.cell? (ae b 1)=some (aa ub):=by rw[u];exact t1
   have t3:w3.cell? (ae b 3)=some (.func (.func F) #[] cb):=by rw[u];exact t3
   have C:w3.cell? (ae w1.heap.size 0)=some (.int .u8 d.kind):=by rw[u];exact C
   have x1:w3.cell? (ae w1.heap.size 1)=some (aa d.l):=by rw[u];exact x1
   have x2:w3.cell? (ae w1.heap.size 2)=some (aa d.r):=by rw[u];exact x2
   have ab:w3.cell? (ae bD (bE+i*3))=some (aa dl):=by rw[u];exact ab
   have ac:w3.cell? (ae bD (bE+i*3+1))=some (aa A):=by rw[u];exact ac
   have ad:w3.cell? (ae bD (bE+i*3+2))=some (ai dk):=by rw[u];exact ad
   have bP:Hid (S w3 f D):=P.o.jE w2 w3 f D (fun _=>False) bO.o ((au.refl _ w2).below a9.o) (fun k h=>h.elim);have bc:Hid (au (fun k=>D k\/k=b) W w3):=bM.o.below a9.o;have bI:Hid (w3.heap[b]? =some (x9 fr ub y F cb (c+1))):=(a9.o.block b (uo X a3)).trans bH.o;have Y:w1.heap.size<w3.heap.size:=by rw[u];exact a3
   go_upto_region 5 with fail
   rw[<-u];clear u;obtain⟨T,cH⟩:∃T:List Nat,T=(if fr<=i/\i<ub then[i]else[]):=⟨_,rfl⟩;have aL:=af cH;clear cH;obtain⟨j,cc⟩:∃j,j=w1.heap.size:=⟨_,rfl⟩;have be:=af cc;rw[<-cc]at C x1 x2 Y a3 bk |-;clear cc
   go_cut [93]from 65 (fun eo al=>∃(bm:Bool) (E:Nat->Prop),eo=.bool bm/\Hid (bm=(decide (fr<=i/\i<ub)&&!more))/\Hid (S al (f++T) E)/\Hid (∀k,E k->D k\/W.heap.size<=k)/\Hid (au (fun k=>D k\/k=b) W al)/\Hid (al.heap[b]? =some (x9 fr ub y F cb (c+1)))/\Hid (¬E b)/\
    al.cell? (ae j 0)=some (.int .u8 d.kind)/\al.cell? (ae j 1)=some (aa d.l)/\al.cell? (ae j 2)=some (aa d.r)/\Hid (¬E j/\j<al.heap.size))
   case first=>
    by_cases av:fr<=i/\i<ub
    .have g1:decide ((i:Int)>=(fr:Int))=true:=by simp;omega
     have cL:decide ((fr:Int)<=(i:Int))=true:=by simp;omega
     have bq:decide (fr<=i)=true:=by simp;omega
     have br:decide ((i:Int)<(ub:Int))=true:=by simp;omega
     have dX:decide (i<ub)=true:=by simp;omega
     have eB:=ag bl;have eC:=ag t0;have eD:=ag t1;have eE:=ag t3;have dj:=ag ab;have eF:=ag ac;have eG:=ag ad;refine ak (fun W=>∃p:aT w3,W=p.W) [26,27,28] [(0,false),(1,false),(2,false),(3,false),(4,true),(5,false),(6,false),(7,false),(8,false),(9,false),(10,false),(11,true),(12,false),(13,false),(14,false),(15,false),(16,false),(17,false),(18,true),(19,false),(20,false),(21,false),(22,true),(23,false),(24,false),(25,true)] ⟨⟨_,(aB _ _).drew⟩,rfl⟩ 3 ?_;simp only[bn,aX,aY,aW,aN,aM,aO]
     repeat(refine aD (fun K g=>?_);go_simp;first|(refine g _ ?_;clear g K)|(apply Exists.intro;refine⟨fun _=>?_,g _ ?_⟩;rfl;clear g K))
     refine aJ ?_;refine aA 26 rfl fun K g=>?_;have cC:S w3.drew f D:=P.o.jE w3 w3.drew f D (fun _=>False) bP.o (au.refl _ w3).drew (fun k h=>h.elim);have ct:f++[i] <+: N:=by
      obtain⟨aw,ax,-,-,w,x⟩:=aG.o;have J:=NC (more:=more) (yv:=kR R) (y:=y) (fr:=fr) (ub:=ub) w.symm (by rw[bR.o,<-aw,<-ax];exact bN.o) av;rw[<-x]at J;exact((List.prefix_append_right_inj f).2 J).trans cp.o
     refine IA P.o.enters (by first|rfl|(go_simp;done)) (.tmp 83) _ _ rfl cb rfl (vals:=#[iD dl A dk]++cb) rfl (cD.o w3.drew f D cC ct) ?_;rintro e w4 ⟨rfl,az,cW,bt,cU⟩;refine⟨_,rfl,g _ _ (fun _ h=>absurd (by simp) h) ?_⟩;clear g K;refine aF [27,28] _ _ _ (by kernel_rfl) ?_;simp only[pick,aX,aY,aW,aN,aM];have cS:¬D b:=bK.o;have ap:¬D j:=fun m=>by have:=co.o j m;have:=cB.o;have:=be.o;omega
     have ez:b<w3.heap.size:=uo (by have:=be.o;omega) Y;have U:au D w3 w4:=(au.refl D w3).drew.trans cU;have ep:=((cu U Y ap).1 0).trans C;have y1:=((cu U Y ap).1 1).trans x1;have y2:=((cu U Y ap).1 2).trans x2;have eA:=U.size;have bg:Hid (S w4 (f++T) az):=by rw[aL.o,aK av];exact cW
     have dI:Hid (∀k,az k->D k\/W.heap.size<=k):=fun k m=>(bt k m).imp id fun h8=>by
      have cN:w3.heap.size<=k:=h8;have:=bc.o.size;omega
     have bh:Hid (au (fun k=>D k\/k=b) W w4):=bc.o.trans (U.mono fun k h=>.inl h);have bi:Hid (w4.heap[b]? =some (x9 fr ub y F cb (c+1))):=bF U bI.o cS;have aP:Hid (¬az b/\¬az j/\j<w4.heap.size):=⟨fun m=>by
      rcases bt b m with h8|h8
      .exact cS h8
      .have cN:w3.heap.size<=b:=h8;omega,fun m=>by
      rcases bt j m with h8|h8
      .exact ap h8
      .have cN:w3.heap.size<=j:=h8;omega,by omega⟩
     have bj:Hid ((!more)=(decide (fr<=i/\i<ub)&&!more)):=by show _=_;simp[av]
     clear cU cW bt U cC ct;go_wp2;go_meet;exact⟨_,az,rfl,bj,bg,dI,bh,bi,aP.o.1,ep,y1,y2,aP.o.2⟩
    .have dV:(decide ((i:Int)>=(fr:Int))=true/\decide ((i:Int)<(ub:Int))=false)\/decide ((i:Int)>=(fr:Int))=false:=by simp;omega
     have ap:¬D j:=fun m=>by have:=co.o j m;have:=cB.o;have:=be.o;omega
     have bg:Hid (∀n,S (w3.drewN n) (f++T) D):=fun n=>by
      rw[aL.o,aI av,iE];exact P.o.jE w3 _ f D (fun _=>False) bP.o ((au.refl _ w3).below (Below.bC _ _)) (fun k h=>h.elim)
     have bh:Hid (∀n,au (fun k=>D k\/k=b) W (w3.drewN n)):=fun n=>bc.o.below (Below.bC _ _);have bi:Hid (∀n,(w3.drewN n).heap[b]? =some (x9 fr ub y F cb (c+1))):=fun n=>bI.o;have aP:Hid (¬D j/\j<w3.heap.size):=⟨ap,Y⟩;have bj:Hid (false=(decide (fr<=i/\i<ub)&&!more)):=by show _=_;simp[av]
     have am:Hid (∀n o,(w3.drewN n).cell? (ae j o)=w3.cell? (ae j o)):=fun n o=>rfl;clear av;rcases dV with⟨g1,cL⟩|g1
     .have bq:decide ((fr:Int)<=(i:Int))=true:=by simpa using g1
      have br:decide (fr<=i)=true:=by simpa using g1
      have dX:decide (i<ub)=false:=by simpa using cL
      go_quiet (fail)
      go_wp2;go_meet;exact⟨_,D,rfl,bj,bg.o _,fun k h=>.inl h,bh.o _,bi.o _,bK.o,(am.o _ _).trans C,(am.o _ _).trans x1,(am.o _ _).trans x2,aP.o⟩
     .have bq:decide ((fr:Int)<=(i:Int))=false:=by simpa using g1
      have br:decide (fr<=i)=false:=by simpa using g1
      go_quiet (fail)
      go_wp2;go_meet;exact⟨_,D,rfl,bj,bg.o _,fun k h=>.inl h,bh.o _,bi.o _,bK.o,(am.o _ _).trans C,(am.o _ _).trans x1,(am.o _ _).trans x2,aP.o⟩
   case rest=>
    obtain⟨bm,E,rfl,cl,bQ,bb,bd,ba,cs,C,x1,x2,cr⟩:=hcut;have c8:=bN.o;obtain⟨aw,ax,en,Z,w,x⟩:=aG.o;have da:¬(y<kR R i\/t.hi<=fr\/ub<=t.lo):=by rw[bR.o,<-aw,<-ax];exact c8
    have bf:=af da;have ea:=cr.o.2;have d9:j≠b:=by have:=be.o;omega
    clear c8 aw ax en da bN bc bI bP a9 cj bk bO aQ bM bH cD ci cq cy cx dQ dR d1 d2 f1 f2 f3 f4 f5 bl t0 t1 t3 ab ac ad Y a3;cases bm with
    |true=>
     have G:=cl.o;simp only[Bool.true_eq,l5,bW,nO]at G;have z:r=([i],1,false):=by rw[x,G.2];exact AL w.symm bf.o G.1
     have O:Hid (Lc S W D b fr ub y F cb c f r (.returned (.bool false)) wc):=by
      rw[z];have J:=bQ.o;rw[aL.o,aK G.1]at J;exact⟨rfl,E,J,bb.o,bd.o,ba.o⟩
     clear z G Z w x;go_wp2;go_ret;exact O.o
    |false=>
     have cm:=af cl.o.symm;cases t with
     |leaf a=>
      have Q:d.kind=1:=by rw[Z];rfl
      have z:r=(T,1,true):=by
       have dS:h s=some i:=w.symm;rw[x,uI dS bf.o,cm.o,aL.o];rfl
      have O:Hid (Lc S W D b fr ub y F cb c f r (.returned (.bool true)) wc):=by
       rw[z];exact⟨rfl,E,bQ.o,bb.o,bd.o,ba.o⟩
      rw[Q]at C;clear z Q Z w x x1 x2;go_wp2;go_ret;exact O.o
     |node l B=>
      have Q:d.kind=2:=by rw[Z];rfl
      have c2:d.l=((l.root s:Nat):Int):=by rw[Z];show((s+l.size:Nat):Int)-1=_;unfold FT.root;have:=l.size_pos;omega
      have c3:d.r=((B.root (s+l.size):Nat):Int):=by rw[Z];show((s+l.size+B.size:Nat):Int)-1=_;unfold FT.root;have:=B.size_pos;omega
      have z:=AO (more:=more) (yv:=kR R) (y:=y) (fr:=fr) (ub:=ub) w.symm bf.o cm.o;rw[<-x,<-aL.o]at z;have dd:=pV (h:=h) (yv:=kR R) (y:=y) (fr:=fr) (ub:=ub) more l s;have de:=pV (h:=h) (yv:=kR R) (y:=y) (fr:=fr) (ub:=ub) more B (s+l.size);have d7:=dC.o;have ec:(FT.node l B).size=l.size+B.size+1:=rfl;obtain⟨bT,bU⟩:=cv.o l B rfl;rw[Q]at C;rw[c2]at x1;rw[c3]at x2;have a1:=cp.o;rw[z]at a1;generalize downG more h (kR R) y fr ub l s=dO at*;generalize downG more h (kR R) y fr ub B (s+l.size)=dP at*;obtain⟨cE,an,cF⟩:=dO;obtain⟨dL,cG,dN⟩:=dP;simp only at z dd de a1 bT bU;have c9:(f++T)++cE <+: N:=by
       refine List.IsPrefix.trans ?_ a1;exact⟨if cF then dL else[],by simp only[dW]⟩
      have dw:=af (bT wc (f++T) E (c+1) bQ.o cs.o ba.o (by omega) c9);have dJ:=af bU;have aQ:=af z;have dH:=af a1;have d6:c+1+l.size<=1000000/\c+1+an+B.size<=1000000:=by omega
      clear bT bU z a1 c9 Q c2 c3 Z w x dd de d7 ec cv aG dG dK dB bf cw;generalize l.root s=kl at*;generalize B.root (s+l.size)=kr at*
      go_wp2_with fail
      refine dw.o.mono ?_;rintro e cf ⟨rfl,a8,cX,b4,b6,cO⟩;have cQ:¬a8 b:=fun m=>by
       rcases b4 b m with h8|h8
       .exact cs.o h8
       .have:=(aZ.1 ba.o).1;omega
      have c7:¬(E j\/j=b):=fun m=>m.elim cr.o.1 d9;have x2:=((cu b6 ea c7).1 2).trans x2;have cA:=af cX;have bJ:Hid (∀k,a8 k->D k\/W.heap.size<=k):=fun k m=>by
       rcases b4 k m with h8|h8
       .exact bb.o k h8
       .have:=bd.o.size;exact .inr (by omega)
      have bL:Hid (au (fun k=>D k\/k=b) W cf):=((bd.o.mono (S':=fun k=>(D k\/k=b)\/W.heap.size<=k) (fun k h=>.inl h)).trans (b6.mono fun k m=>by
       rcases m with h8|h8
       .exact(bb.o k h8).imp .inl id
       .exact .inl (.inr h8))).strip
      have ck:=af cO;have dD:=af cQ;clear cX b4 b6 cO cQ c7 C x1;cases cF with
      |false=>
       have O:Hid (Lc S W D b fr ub y F cb c f r (.returned (.bool false)) cf):=by
        rw[aQ.o];simp only[qg,jA,iE,Bool.false_and,dM];refine⟨rfl,a8,?_,bJ.o,bL.o,?_⟩
        .have:=cA.o;rwa [dW]at this
        .have:=ck.o;rw[show c+(1+an)=c+1+an by omega];exact this
       go_wp2;go_ret;exact O.o
      |true=>
       have dy:=af (dJ.o cf (f++T++cE) a8 (c+1+an) cA.o dD.o ck.o d6.2 (by
        have:=dH.o;simp only[gD]at this;simpa only[dW]using this))
       go_wp2_with fail
       refine dy.o.mono ?_;rintro e w6 ⟨rfl,dz,cY,cR,cV,cP⟩;have O:Hid (Lc S W D b fr ub y F cb c f r (.returned (.bool dN)) w6):=by
        rw[aQ.o];simp only[gD,Bool.true_and];refine⟨rfl,dz,?_,fun k m=>?_,?_,?_⟩
        .simpa only[dW]using cY
        .rcases cR k m with h8|h8
         .exact bJ.o k h8
         .have:=bL.o.size;exact .inr (by omega)
        .exact((bL.o.mono (S':=fun k=>(D k\/k=b)\/W.heap.size<=k) (fun k h=>.inl h)).trans (cV.mono fun k m=>by
          rcases m with h8|h8
          .exact(bJ.o k h8).imp .inl id
          .exact .inl (.inr h8))).strip
        .rw[show c+(1+an+cG)=c+1+an+cG by omega];exact cP
       clear cY cR cV cP;go_wp2;go_ret;exact O.o
theorem Ld (F:Nat) (cb:Array Value) (more:Bool) (R:List Pt) (h:iy) (cnt:Int) (V:mr) (lo hi tb fb d:Nat) (w0:World) (S:World->List Nat->(Nat->Prop)->Prop) (y:Int) (fr ub:Nat) (n:List Nat)
  (u:PX F cb more R w0 n S) (p:dm w0 lo hi tb fb R h cnt V) (q:R.length<=20000) (v:w0.heap.size<=d):
  ∀(t:FT) (s:Nat) (W:World) (b:List Nat) (D:Nat->Prop) (c:Nat),FT.At (aU R.length) t s->t.wf->t.hi<=R.length->gG (yQ R) h t s->S W b D->¬D d->W.heap[d]? =some (x9 fr ub y F cb c)->c+t.size<=1000000->
  b++(downG more h (kR R) y fr ub t s).1 <+: n->
  aH 174 #[ah tb,aa (t.root s:Nat),ah d] W (Lc S W D d fr ub y F cb c b (downG more h (kR R) y fr ub t s)):=by
 intro t
 induction t with
 |leaf a=>exact fun s W b D c k j o m hS f g i hF=>AX F cb more R h cnt V lo hi tb fb d w0 S y fr ub n u p q v _ s W b D c k j o m hS f g i hF (fun l r e=>by cases e)
 |node l r w x=>
  intro s W b D c k j o m hS f g i hF;refine AX F cb more R h cnt V lo hi tb fb d w0 S y fr ub n u p q v _ s W b D c k j o m hS f g i hF fun l' C e=>?_;cases e;have z:=FT.eQ r j.2.1;have A:=j.2.2;have B:(FT.node l r).hi=r.hi:=rfl;exact⟨fun W b D c hS f g i hF=>w s W b D c k.left j.1 (by omega) m.2.2.1 hS f g i hF,fun W b D c hS f g i hF=>x _ W b D c k.right j.2.1 (by omega) m.2.2.2 hS f g i hF⟩
def RL (ob:Nat) (R:List Pt) (w0:World) (W:World) (acc:List Nat) (D:Nat->Prop):Prop:=
 Below w0.heap.size w0 W/\∃v,W.heap[ob]? =some (.cells #[v] 35 (0,0))/\W.ownsRow w0.heap.size 27 1 v acc.length ((acc.map (jw R)).map (Value.int .u32))/\D=fun k=>k=ob\/v.ownBlock=some k
theorem IB:∀args w,(callFunc 109 args).run prog w=.ok (.enter 109 args) w:=cK func109 (by kernel_rfl) rfl
theorem IC (R:List Pt) (ob:Nat) (w0:World) (G:List Nat) (az:G.length<=1000000) (U:w0.heap.size<=ob):
  PX 109 #[ah ob] true R w0 G (RL ob R w0) where
 enters:=IB
 base:=fun W d D h=>h.1
 lt:=fun W d D h k hk=>by
  obtain⟨m,v,b,c,rfl⟩:=h;rcases hk with rfl|hk
  .exact⟨U,(aZ.1 b).1⟩
  .exact c.lt k hk
 jE:=fun W W' d D aq h y x=>by
  obtain⟨m,v,b,c,rfl⟩:=h;exact⟨m.trans (y.toBelow m.size (fun k hk=>(x k hk).1)),v,(y.block ob (aZ.1 b).1 (fun h9=>(x ob h9).2 (.inl rfl))).trans b,aS c y (fun g e h9=>(x g h9).2 (.inr e)),rfl⟩
 told:=fun W d D i h hi hF=>by
  obtain⟨m,v,b,c,rfl⟩:=h;have Q:=hF.length_le;rw[bq,zh]at Q;have ao:(bV R i).2.2=jw R i:=rfl;have ab:Hid ((((d++[i]).map (jw R)).map (Value.int .u32))=((d.map (jw R)).map (Value.int .u32))++[.int .u32 (bV R i).2.2]):=by
   show _=_;rw[bS,bS];rfl
  have K:Hid ((d++[i]).length=d.length+1):=by show _=_;simp
  generalize bV R i=p at*;obtain⟨C,E,r⟩:=p;obtain⟨f,j,rfl⟩:=fD c;have V:ob<W.heap.size:=(aZ.1 b).1;obtain⟨n,T⟩:∃n,n=d.length:=⟨_,rfl⟩;rw[<-T]at b c Q K |-;obtain⟨w1,s⟩:∃w1,w1=W.alloc (.cells #[aa C,aa E,ai r] 29):=⟨_,rfl⟩;have q:Below W.heap.size W w1:=by rw[s];exact(aB _ _).alloc (ay _) _
  have Y:w1.heap[W.heap.size]? =some (.cells #[aa C,aa E,ai r] 29 (0,0)):=by rw[s];exact di W _
  have z:=(q.block ob V).trans b;have ar:w1.cell? (ae ob 0)=some (.slice f n j):=by simp[World.cell?,z]
  have av:w1.cell? (ae W.heap.size 2)=some (ai r):=by simp[World.cell?,Y]
  have ag:Hid (w1.ownsRow w0.heap.size 27 1 (.slice f n j) n ((d.map (jw R)).map (Value.int .u32))):=ax c q;have ac:=af z;have I:=af q;have H:=af m;have am:w0.heap.size<=w1.heap.size:=bJ m.size q.size;have ap:ob<w1.heap.size:=bB V q.size;have ak:=af c.lt;have X:∀l,(Value.slice f n j).ownBlock=some l->ob≠l:=bz c b (by decide);have L:=af X;clear hF m b c Y z q X T ao;show aH 109 #[iD C E r,ah ob] W _;go_enter func109,ntmps109
  go_upto_region 1 with fail
  rw[<-s];clear s
  go_upto_region 1 with fail
  have al:Hid (∀(F:Value) (w2:World),w1.grownBy w2 (Value.slice f n j).ownBlock->w2.heap[ob]? =some (.cells #[.slice f n j] 35 (0,0))/\au (fun k=>k=ob\/(Value.slice f n j).ownBlock=some k) W w2):=fun F w2 t=>by
   have N:au (fun k=>(Value.slice f n j).ownBlock=some k) w1 w2:=(au.refl _ _).grown t (fun k hk=>.inl hk);exact⟨(N.block ob ap (fun h=>L.o ob h rfl)).trans ac.o,((au.refl _ W).below I.o).trans (N.mono fun k h=>.inr h)⟩
  go_wp2_with (at_builtin;refine bZ sM w0.heap.size ag.o [.int .u32 r] rfl (by simp[Value.oneCell']) rfl _ _ rfl rfl _ rfl (by unfold maxLen;omega) (by omega) am ?_;intro F w2 B t P;have h9:=al.o F w2 t;have ad:=af h9.1;have Z:=af h9.2;have A:=h9.1;have aA:(w2.frozen? (ae ob 0)=false):=(by simp[World.frozen?,A]);have aw:(w2.cell? (ae ob 0)=some (.slice f n j)):=(by simp[World.cell?,A]);have J:=af P;have aj:=af B;obtain⟨u,w,rfl⟩:=fD B;clear h9 A B P t)
  go_ret;have M:=(Z.o.set (a:=(ae ob 0)) (.slice u (n+1) w) (.inl (.inl rfl)));have an:∀l,(Value.slice u (n+1) w).ownBlock=some l->l≠ob:=fun l e=>by
   rcases J.o with h9|h9
   .exact fun O=>L.o l (h9▸e) O.symm
   .rw[h9]at e;injection e with e;intro O;simp at e;omega
  refine⟨rfl,_,⟨H.o.trans (M.toBelow H.o.size (fun k h=>?_)),.slice u (n+1) w,dA _ ob 0 _ _ _ ad.o,?_,rfl⟩,fun k h=>?_,M⟩
  .rcases h with rfl|h
   .exact U
   .exact(ak.o k h).1
  .have h9:=aS (S:=fun k=>k=ob) aj.o ((au.refl (fun k=>k=ob) w2).set (a:=(ae ob 0)) (.slice u (n+1) w) (.inl rfl)) an;rw[K.o,ab.o];exact h9
  .rcases h with rfl|h
   .exact .inl (.inl rfl)
   .rcases J.o with h9|h9
    .exact .inl (.inr (h9▸h))
    .rw[h9]at h;injection h with h;have:=I.o.size;simp at h;right;omega
theorem PY {more:Bool} {R:List Pt} {h:iy} {x1 x2 y:Int} (a:R.length=0\/x2<x1):mF more R h x1 x2 y=([],0):=by unfold mF;rw[aK a]
theorem IE (F:Nat) (cb:Array Value) (more:Bool) (R:List Pt) (h:iy) (cnt:Int) (V:mr) (lo hi tb fb:Nat) (w0 W:World) (S:World->List Nat->(Nat->Prop)->Prop) (D:Nat->Prop) (x1 x2 y:Int)
  (z:dm w0 lo hi tb fb R h cnt V) (I:lK R h) (an:R.length<=20000) (s:PX F cb more R w0 (mF more R h x1 x2 y).1 S) (hS:S W [] D):
  aH 108 #[ah tb,aa x1,aa x2,aa y,.func (.func F) #[] cb] W (D5 S W D (mF more R h x1 x2 y)):=by
 have J:=s.base W [] D hS;have l:=z.below J z.fq.2.2.2.2;have aw:=l.ED;have q:=l.blk;obtain⟨a2,a3,U⟩:=fD l.row;obtain⟨ab,ac,X,-,-,K⟩:=Rd.aC l.xs;rw[U,X]at q;have w:(bU R).length=R.length:=by unfold bU;rw[bX]
 rw[w]at q;have aJ:W.cell? (ae tb 0)=some (.slice a2 R.length a3):=by simp[World.cell?,q]
 have Q:W.cell? (ae tb 1)=some (.slice ab R.length ac):=by simp[World.cell?,q]
 have T:W.cell? (ae tb 2)=some (ah fb):=by simp[World.cell?,q]
 have P:Hid (∀W',Below W.heap.size W W'->S W' [] D):=fun W' A=>s.jE W W' [] D (fun _=>False) hS ((au.refl _ W).below A) (fun k h=>h.elim);by_cases v:R.length=0\/x2<x1
 .rw[PY v];have aj:Hid (D5 S W D ([],0) (.returned (aa 0)) W):=⟨rfl,D,hS,fun k h=>.inl h,au.refl _ _⟩;clear z I s hS l q J P K U X Q T;generalize R.length=n at*;by_cases b:n=0
  .have d0:((n:Int)==0)=true:=by simp[b]
   have d1:(n==0)=true:=by simp[b]
   have d2:decide (n=0)=true:=by simp[b]
   clear b v w;go_enter func108,ntmps108;go_wp2;go_ret;exact aj.o
  .have d0:((n:Int)==0)=false:=by simp[b]
   have d1:(n==0)=false:=by simp[b]
   have d2:decide (n=0)=false:=by simp[b]
   have f1:decide (x1>x2)=true:=by simp;omega
   have f2:decide (x2<x1)=true:=by simp;omega
   clear b v w;go_enter func108,ntmps108;go_wp2;go_ret;exact aj.o
 .have b:0<R.length:=by omega
  have L:=af (fun W' (A:Below W.heap.size W W')=>DY ab (bU R) ac x1 W' (K.below A) (by omega));have M:=af (fun W' (A:Below W.heap.size W W')=>DZ ab (bU R) ac x2 W' (K.below A) (by omega));have a0:=fU (fun i=>decide (x1<=(bU R).getD i 0)) (bU R).length;have a1:=fU (fun i=>decide (x2<(bU R).getD i 0)) (bU R).length;have bc:(aR (bU R) x1).2<=20000:=by unfold aR;omega
  have bd:(aP (bU R) x2).2<=20000:=by unfold aP;omega
  obtain⟨ax,a4,a5⟩:=bO 0 R.length b;have aU:=eZ 0 R.length b;have B:Hid (∀a W' c,S W' [] D->¬D a->w0.heap.size<=a->W'.heap[a]? =some (x9 (iU R x1) (lD R x2) y F cb c)->c<=40000->iU R x1<lD R x2->
    aH 174 #[ah tb,aa ((2*R.length-2:Nat):Int),ah a] W' (Lc S W' D a (iU R x1) (lD R x2) y F cb c [] (downG more h (kR R) y (iU R x1) (lD R x2) (dK 0 R.length) 0))):=fun a W' c aT aS u aV a9 r=>by
   have d:=Ld F cb more R h cnt V lo hi tb fb a w0 S y (iU R x1) (lD R x2) _ s z an u (dK 0 R.length) 0 W' [] D c (jF _ b) ax (by omega) (I.ok b) aT aS aV (by omega) (by
    unfold mF;rw[aI v,aK r];exact List.prefix_rfl)
   rw[show(dK 0 R.length).root 0=2*R.length-2 by unfold FT.root;omega]at d;exact d
  have ba:=(FM I an more x1 x2 y).2;have x:Hid (mF more R h x1 x2 y=if iU R x1<lD R x2 then((downG more h (kR R) y (iU R x1) (lD R x2) (dK 0 R.length) 0).1,(aR (bU R) x1).2+(aP (bU R) x2).2+(downG more h (kR R) y (iU R x1) (lD R x2) (dK 0 R.length) 0).2.1)else([],(aR (bU R) x1).2+(aP (bU R) x2).2)):=by
   show mF more R h x1 x2 y=_
   conv=>lhs;unfold mF
   rw[aI v]
  have O:Hid (iU R x1=(aR (bU R) x1).1/\lD R x2=(aP (bU R) x2).1):=⟨rfl,rfl⟩;rw[<-O.o.1,w]at L;rw[<-O.o.2,w]at M;have C:=af l;have aE:=af (s.lt W [] D hS);have a8:=J.size;have f1:decide (x1>x2)=false:=by simp;omega
  have f2:decide (x2<x1)=false:=by simp;omega
  obtain⟨dg,ar⟩:∃dg,dg=downG more h (kR R) y (iU R x1) (lD R x2) (dK 0 R.length) 0:=⟨_,rfl⟩;rw[<-ar]at B x;clear z I s hS l q J K U X v a0 a1 ax a4 a5 aU w ar;generalize iU R x1=fr at*;generalize lD R x2=tu at*;generalize aW:(aR (bU R) x1).2=f at*;generalize aX:(aP (bU R) x2).2=g at*;generalize mF more R h x1 x2 y=ask at*;clear aW aX O;have aF:Hid (mQ W lo fb R.length V.fv):=C.o.ig;have aG:Hid (fb<W.heap.size):=bB C.o.fq.2.2.2.1 C.o.fq.2.2.2.2;clear C;generalize R.length=n at*;have d0:((n:Int)==0)=false:=by simp;omega
  have d1:(n==0)=false:=by simp;omega
  have d2:decide (n=0)=false:=by simp;omega
  go_enter func108,ntmps108
  go_wp2_with fail
  refine(L.o W (aB _ _)).mono ?_;rintro e w1 ⟨rfl,Y⟩;have aL:=(Y.cell (p:=(ae tb 1)) aw).trans Q;have E:=af Y;clear Y
  go_wp2_with fail
  refine(M.o w1 E.o).mono ?_;rintro e w2 ⟨rfl,ap⟩;have G:Hid (Below W.heap.size W w2):=E.o.trans (ap.mono E.o.size);clear ap aL L M E
  go_upto_region 6 with fail
  obtain⟨w3,H⟩:∃w3,w3=w2.alloc (.cells #[aa fr,aa tu,aa y,.func (.func F) #[] cb,aa ((f+g:Nat):Int)] 250):=⟨_,rfl⟩;have aq:Below w2.heap.size w2 w3:=by rw[H];exact(aB _ _).alloc (ay _) _
  obtain⟨a,u⟩:∃a,a=w2.heap.size:=⟨_,rfl⟩;have t:w3.heap[a]? =some (x9 fr tu y F cb (f+g)):=by rw[H,u];exact di w2 _
  have j:Hid (Below W.heap.size W w3):=G.o.trans (aq.mono G.o.size);have a6:W.heap.size<=a:=by rw[u];exact G.o.size
  rw[show w2.alloc (.cells #[aa fr,aa tu,aa y,.func (.func F) #[] cb,aa ((f:Int)+(g:Int))] 250)=w3 by rw[H];rfl,<-u];have ai:=af t;have bb:=(j.o.cell (p:=(ae tb 2)) aw).trans T;have a7:a<w3.heap.size:=(aZ.1 t).1;have aD:Hid (¬D a):=fun d=>by have:=(aE.o a d).2;omega
  clear H aq t u G aJ Q T;by_cases r:fr<tu
  .have aN:decide ((fr:Int)<(tu:Int))=true:=by simp;omega
   have aO:decide (fr<tu)=true:=by simp;omega
   have m:=x.o;rw[aK r]at m;have aA:=af m;have av:=aF.o.blk;have Z:=(j.o.block fb aG.o).trans av;have ag:=af (jd fb n b (by omega) w3 (by simp[World.cell?,Z]) (by simp[World.cell?,Z]));have ad:=af (B.o a w3 (f+g) (P.o w3 j.o) aD.o (by omega) ai.o (by omega) r);clear m r Z av B x
   go_wp2_with fail
   refine ag.o.mono ?_;rintro e w' ⟨rfl,aM⟩;subst aM
   go_wp2_with fail
   refine ad.o.mono ?_;rintro e w4 ⟨rfl,az,ao,al,am,ak⟩;have aY:w4.cell? (ae a 4)=some (aa ((f+g+dg.2.1:Nat):Int)):=by simp[World.cell?,ak]
   have N:Hid (D5 S W D ask (.returned (aa ((f+g+dg.2.1:Nat):Int))) w4):=by
    rw[aA.o];refine⟨rfl,az,ao,fun k d=>(al k d).imp id fun aQ=>by have:=j.o.size;omega,?_⟩;exact(((au.refl (fun k=>D k\/W.heap.size<=k) W).below j.o).trans (am.mono fun k d=>d.imp id fun aQ=>by omega)).strip
   clear ao al am ak ad ag;go_wp2;go_ret;exact N.o
  .have aN:decide ((fr:Int)<(tu:Int))=false:=by simp;omega
   have aO:decide (fr<tu)=false:=by simp;omega
   have m:=x.o;rw[aI r]at m;have N:Hid (D5 S W D ask (.returned (aa ((f+g:Nat):Int))) w3):=by
    rw[m];exact⟨rfl,D,P.o w3 j.o,fun k h=>.inl h,(au.refl _ W).below j.o⟩
   have t:=ai.o;have aY:w3.cell? (ae a 4)=some (aa ((f+g:Nat):Int)):=by simp[World.cell?,t]
   clear m r t B x;go_wp2;go_ret;exact N.o
def Uv (w:World) (R:List Pt) (r:List Nat×Nat) (e:Ending) (w':World):Prop:=
 ∃v,e=.returned (.tuple #[v,aa (r.2:Nat)])/\w'.ownsRow w.heap.size 27 1 v r.1.length ((eD (r.1.map (jw R))).map (Value.int .u32))/\Below w.heap.size w w'
theorem IG {w:World} {lo hi tb fb:Nat} {R:List Pt} {h:iy} {cnt:Int} {V:mr} (x:dm w lo hi tb fb R h cnt V) (j:lK R h) (i:R.length<=20000) (x1 x2 y:Int):
  aH 41 #[ah tb,aa x1,aa x2,aa y] w (Uv w R (mF true R h x1 x2 y)):=by
 obtain⟨w1,c⟩:∃w1,w1=w.alloc (.cells #[aG] 35):=⟨_,rfl⟩;have z:Below w.heap.size w w1:=by rw[c];exact(aB _ _).alloc (ay _) _
 have B:w1.heap[w.heap.size]? =some (.cells #[aG] 35 (0,0)):=by rw[c];exact di w _
 have hS:RL w.heap.size R w w1 [] (fun k=>k=w.heap.size\/(aG).ownBlock=some k):=⟨z,aG,B,dz _ _ _ _,rfl⟩;have⟨N,M⟩:=FM j i true x1 x2 y;have m:=IE 109 #[ah w.heap.size] true R h cnt V lo hi tb fb w w1 (RL w.heap.size R w) _ x1 x2 y x j i
  (IC R w.heap.size w _ (by omega) (ay _)) hS
 generalize mF true R h x1 x2 y=r at*;have p:=af m;have O:r.1.length<=40000:=by omega
 go_enter func41,ntmps41
 go_wp2_with fail
 rw[<-c];refine p.o.mono ?_;rintro e w2 ⟨rfl,I,⟨A,v,a,b,rfl⟩,K,L⟩;have s:=af b;have d:=af A;have J:=af a;have F:w2.cell? (ae w.heap.size 0)=some v:=by simp[World.cell?,a]
 have E:∀f,v.ownBlock=some f->w.heap.size≠f:=bz b a (by decide);have u:=af E;have C:=(aZ.1 a).1;have n:=af (uW (l:=r.1.map (jw R)) b (by omega));obtain⟨G,H,rfl⟩:=fD b
 go_wp2_with fail
 refine n.o.mono ?_;rintro e w3 ⟨rfl,D,g⟩;have t:=af D;have P:w3.cell? (ae w.heap.size 0)=some (.slice G r.1.length H):=((cu g C (fun h=>u.o _ h rfl)).1 0).trans F;have q:Hid (Below w.heap.size w w3):=d.o.trans (g.toBelow d.o.size (fun k h=>(s.o.lt k h).1));go_wp2;go_ret2;exact⟨_,rfl,t.o,q.o⟩
theorem NK (p q:Pt) (w:World):aH 71 #[iD p.1 p.2.1 p.2.2,iD q.1 q.2.1 q.2.2] w (eY w (aa (nA p q))):=
 (Rp p q w).mono fun e w' ⟨a,b⟩=>⟨a,b.below (ay _)⟩
def BN (lb:Nat->Nat->Bool) (h:iy):FT->Nat->Int
 |.leaf _,_=>-1
 |.node l r,s=>match h (l.root s),h (r.root (s+l.size))with
  |none,none=>-1
  |some _,none=>(l.root s:Nat)
  |none,some _=>(r.root (s+l.size):Nat)
  |some i,some j=>if lb i j then(l.root s:Nat)else(r.root (s+l.size):Nat)
theorem FV {w:World} {lo hi tb fb:Nat} {cnt:Int} {R:List Pt} {h:iy} {V:mr} (H:dm w lo hi tb fb R h cnt V) (bi:R.length<=20000) {t:FT} {s:Nat} (E:FT.At (aU R.length) t s) (G:∀k i,k<(aU R.length).length->h k=some i->i<R.length):
  aH 195 #[ah tb,aa (t.root s:Nat)] w (eY w (aa (BN (BL R) h t s))):=by
 have a0:=E.lt;have bh:(aU R.length).length<=40000:=by rw[dh];omega
 have ao:0<R.length:=by have:=dh R.length;omega
 obtain⟨be,off,cn,env,a7⟩:=H.nodes ao;obtain⟨L,ch,aP,-,-,-,-,aq,aR,-⟩:=H.holds ao;obtain⟨a5,a6,aQ,-,-,a8⟩:=cz.aC bu (by decide) H.row;have F:=H.blk;rw[env,aP,aQ]at F;have aw:=H.ED;obtain⟨bO,n0,br,bs,bt,bv,bw,bx⟩:=l9 a7 E.get;have am:w.cell? (ae tb 0)=some (.slice a5 R.length a6):=by simp[World.cell?,F]
 have bc:w.cell? (ae tb 3)=some (.slice (some (ae be off)) (aU R.length).length cn):=by simp[World.cell?,F]
 have an:w.cell? (ae tb 4)=some (aj L (aU R.length).length ch):=by simp[World.cell?,F]
 have ad:=af aR;have bb:=af a8;have ai:=af G;obtain⟨M,ap⟩:∃M,M=(aU R.length).length:=⟨_,rfl⟩;obtain⟨A,au⟩:∃A,A=R.length:=⟨_,rfl⟩;obtain⟨K,u⟩:∃K,K=t.root s:=⟨_,rfl⟩;rw[<-ap]at bc an bh a0;rw[<-au]at am bi ao;rw[<-u]at n0 br bs bt bv bw bx a0 |-;have al:Hid (M=(aU R.length).length/\A=R.length):=⟨ap,au⟩;obtain⟨w1,x⟩:∃w1,w1=w.alloc (.cells #[.int .u8 (t.top s).kind,aa (t.top s).l,aa (t.top s).r,aa (t.top s).fr,aa (t.top s).Jk,aa 0,aa (t.top s).item] 163):=⟨_,rfl⟩;have N:Below w.heap.size w w1:=by rw[x];exact(aB _ _).alloc (ay _) _
 have I:w1.heap[w.heap.size]? =some (.cells #[.int .u8 (t.top s).kind,aa (t.top s).l,aa (t.top s).r,aa (t.top s).fr,aa (t.top s).Jk,aa 0,aa (t.top s).item] 163 (0,0)):=by rw[x];exact di w _
 have bU:w1.cell? (ae w.heap.size 0)=some (.int .u8 (t.top s).kind):=by simp[World.cell?,I]
 have x1:w1.cell? (ae w.heap.size 1)=some (aa (t.top s).l):=by simp[World.cell?,I]
 have x2:w1.cell? (ae w.heap.size 2)=some (aa (t.top s).r):=by simp[World.cell?,I]
 have B:=af N;have T:=(N.cell (p:=(ae tb 0)) aw).trans am;have ax:=(N.cell (p:=(ae tb 4)) aw).trans an;have z:w.heap.size<w1.heap.size:=(aZ.1 I).1;have a3:tb<w1.heap.size:=uo aw z;have bN:L<w1.heap.size:=uo aq z;clear aR a8 G ap au F env aP aQ a7 N I u;cases t with
 |leaf a=>
  have d1:(((FT.leaf a).top s).kind !=(2:Int))=true:=rfl;clear x1 x2 T ax am an;generalize(FT.leaf a).top s=d at*;go_enter func195,ntmps195
  go_upto_region 2 with fail
  rw[<-x];clear x;go_wp2;go_ret;exact⟨rfl,B.o⟩
 |node l r=>
  have d1:(((FT.node l r).top s).kind !=(2:Int))=false:=rfl;have ar:=E.left.lt;have av:=E.right.lt;have aS:((FT.node l r).top s).l=((l.root s:Nat):Int):=by show((s+l.size:Nat):Int)-1=_;unfold FT.root;have:=l.size_pos;omega
  have aV:((FT.node l r).top s).r=((r.root (s+l.size):Nat):Int):=by show((s+l.size+r.size:Nat):Int)-1=_;unfold FT.root;have:=r.size_pos;omega
  rw[aS]at x1;rw[aV]at x2;have C:=(B.o.cell (p:=(ae L (l.root s))) aq).trans (ad.o _ ar).1;have D:=(B.o.cell (p:=(ae L (r.root (s+l.size)))) aq).trans (ad.o _ av).1;have aL:Hid (∀g f,h (l.root s)=g->h (r.root (s+l.size))=f->BN (BL R) h (.node l r) s=match g,f with|none,none=>-1|some _,none=>(l.root s:Nat)|none,some _=>(r.root (s+l.size):Nat)|some i,some j=>if BL R i j then(l.root s:Nat)else(r.root (s+l.size):Nat)):=fun g f bf bg=>by subst bf bg;rfl
  have a1:=ar;have a2:=av;rw[<-al.o.1]at ar av;obtain⟨g,P⟩:∃g,g=h (l.root s):=⟨_,rfl⟩;obtain⟨f,Q⟩:∃f,f=h (r.root (s+l.size)):=⟨_,rfl⟩;have J:=af (aL.o g f P.symm Q.symm);have aA:Hid (∀i,g=some i->i<R.length):=fun i e=>ai.o _ i a1 (P▸e);have aE:Hid (∀i,f=some i->i<R.length):=fun i e=>ai.o _ i a2 (Q▸e);rw[<-P]at C;rw[<-Q]at D;clear aS aV aL P Q ai ad E a1 a2;generalize BN (BL R) h (.node l r) s=res at*;generalize(FT.node l r).top s=d at*;generalize l.root s=kl at*;generalize r.root (s+l.size)=kr at*;have bG:=ag ax;have bH:=ag x1;have bJ:=ag x2;have bK:=ag C;have bL:=ag D;go_enter func195,ntmps195
  go_upto_region 2 with fail
  rw[<-x];clear x
  go_upto_region 4 with fail
  refine ak (fun W=>∃p:aT w1,W=p.W) [17] [(0,false),(1,false),(2,false),(3,true),(4,false),(5,true),(6,false),(7,true),(8,false),(9,false),(10,false),(11,true),(12,false),(13,true),(14,false),(15,true),(16,false)] ⟨⟨_,(aB _ _).drew⟩,rfl⟩ 1 ?_;simp only[bn,aX,aY,aW,aN,aM,aO]
  repeat(refine aD (fun K u=>?_);go_simp;first|(refine u _ ?_;clear u K)|(apply Exists.intro;refine⟨fun _=>?_,u _ ?_⟩;rfl;clear u K))
  refine aJ ?_;refine aF [17] _ _ _ (by kernel_rfl) ?_;simp only[pick,aX,aY,aW,aN,aM];have m:Hid (Below w.heap.size w w1.drew):=B.o.drew;have T:w1.drew.cell? (ae tb 0)=some (.slice a5 A a6):=T;have x1:w1.drew.cell? (ae w.heap.size 1)=some (aa kl):=x1;have x2:w1.drew.cell? (ae w.heap.size 2)=some (aa kr):=x2;have z:w.heap.size<w1.drew.heap.size:=z;have a3:tb<w1.drew.heap.size:=a3;clear bG bH bJ bK bL ax C D B;generalize w1.drew=w2 at*;cases g with
  |none=>
   cases f with
   |none=>
    simp only[nG];have c:=J.o;simp only at c;subst c;go_wp2;go_ret;exact⟨rfl,m.o⟩
   |some j=>
    simp only[nG];have c:=J.o;simp only at c;subst c;have C:((j:Int)==-1)=false:=by first|(simp;done)|(simp;omega)
    have D:decide ((j:Int)=-1)=false:=by first|(simp;done)|(simp;omega)
    have ac:Hid (∀n,Below w.heap.size w (w2.drewN n)):=fun n=>m.o.trans ((Below.bC _ n).mono m.o.size)
    go_upto_region 7 with fail
    go_quiet (fail)
    go_wp2;go_ret;exact⟨rfl,ac.o _⟩
  |some i=>
   have C:((i:Int)==-1)=false:=by first|(simp;done)|(simp;omega)
   have D:decide ((i:Int)=-1)=false:=by first|(simp;done)|(simp;omega)
   have bM:((i:Int)!=-1)=true:=by first|(simp;done)|(simp;omega)
   cases f with
   |none=>
    simp only[nG];have c:=J.o;simp only at c;subst c;have ac:Hid (∀n,Below w.heap.size w (w2.drewN n)):=fun n=>m.o.trans ((Below.bC _ n).mono m.o.size)
    go_upto_region 7 with fail
    go_quiet (fail)
    go_wp2;go_ret;exact⟨rfl,ac.o _⟩
   |some j=>
    have f1:((j:Int)==-1)=false:=by first|(simp;done)|(simp;omega)
    have f2:decide ((j:Int)=-1)=false:=by first|(simp;done)|(simp;omega)
    simp only[nG];have hi:=aA.o i rfl;have y:=aE.o j rfl;obtain⟨bS,bT,bd,bR,v⟩:=(bb.o.below m.o).get (by omega);have U:=v i hi 0 (by omega);have X:=v i hi 1 (by omega);have Y:=v i hi 2 (by omega);have Z:=v j y 0 (by omega);have v1:=v j y 1 (by omega);have ab:=v j y 2 (by omega);simp only[dx,aM,aN,dM]at U X Y Z v1 ab;rw[<-dF hi]at U X Y;rw[<-dF y]at Z v1 ab;subst bd;have aG:Hid (BL R i j=decide (nA (bV R i) (bV R j)<0)):=by
     show _=_;unfold BL;rw[tV,pK]
    have bP:i<A:=by rw[al.o.2];exact hi
    have bQ:j<A:=by rw[al.o.2];exact y
    have c:=J.o;simp only at c;rw[aG.o]at c;clear v hi y aG aA aE;generalize bV R i=p at*;generalize bV R j=q at*;have a9:=af (fun W=>NK p q W);generalize nA p q=S at*;obtain⟨bA,bB,bz⟩:=p;obtain⟨bE,bF,bD⟩:=q;simp only at U X Y Z v1 ab;have ba:Hid (∀b:aT w2,aH 71 #[iD bA bB bz,iD bE bF bD] b.W fun e w'=>e=.returned (aa S)/\Below b.W.heap.size b.W w'):=fun b=>a9.o b.W;have bj:=ag T;have bk:=ag U;have bl:=ag X;have bm:=ag Y;have bo:=ag Z;have bp:=ag v1;have bq:=ag ab
    go_upto_region 7 with fail
    refine bI (by kernel_rfl) (by kernel_rfl) ?_
    repeat(quiet_step ((go_at_call 71;exact dC (ba.o _))))
    refine jb ?_;intro w4 a4;have O:Below w2.heap.size w2 w4:=by obtain⟨b,rfl⟩:=a4;exact b.h
    have x1:=(O.cell (p:=(ae w.heap.size 1)) z).trans x1;have x2:=(O.cell (p:=(ae w.heap.size 2)) z).trans x2;have az:Hid (Below w.heap.size w w4):=m.o.trans (O.mono m.o.size);clear a4 O bj bk bl bm bo bp bq;by_cases G:S<0
    .have d1:decide (S<0)=true:=by simp[G]
     rw[d1,aK rfl]at c;subst c;go_wp2;go_ret;exact⟨rfl,az.o⟩
    .have d1:decide (S<0)=false:=by simp[G]
     rw[d1,aI (by decide)]at c;subst c;go_wp2;go_ret;exact⟨rfl,az.o⟩
theorem Le {lb:Nat->Nat->Bool} {N:List Nd} {t:FT} {s:Nat} {h:iy} (d:FT.At N t s):
  (BN lb h t s=-1/\pullH lb t s h=fV h (t.root s) none)\/
  ∃t2 e i,BN lb h t s=((t2.root e:Nat):Int)/\FT.At N t2 e/\t2.size<t.size/\h (t2.root e)=some i/\pullH lb t s h=pullH lb t2 e (fV h (t.root s) (some i)):=by
 cases t with
 |leaf a=>exact .inl ⟨rfl,rfl⟩
 |node l r=>
  have g:(FT.node l r).size=l.size+r.size+1:=rfl;have pl:=l.size_pos;have k:=r.size_pos;cases c:h (l.root s)with
  |none=>
   cases b:h (r.root (s+l.size))with
   |none=>left;simp only[BN,pullH];rw[c,b];exact⟨rfl,rfl⟩
   |some j=>right;refine⟨r,s+l.size,j,?_,d.right,by omega,b,?_⟩<;>simp only[BN,pullH]<;>rw[c,b]
  |some i=>
   cases b:h (r.root (s+l.size))with
   |none=>right;refine⟨l,s,i,?_,d.left,by omega,c,?_⟩<;>simp only[BN,pullH]<;>rw[c,b]
   |some j=>
    right;cases f:lb i j with
    |true=>refine⟨l,s,i,?_,d.left,by omega,c,?_⟩<;>simp only[BN,pullH]<;>rw[c,b]<;>simp[f]
    |false=>refine⟨r,s+l.size,j,?_,d.right,by omega,b,?_⟩<;>simp only[BN,pullH]<;>rw[c,b]<;>simp[f]
theorem II:∀args w,(callFunc 194 args).run prog w=.ok (.enter 194 args) w:=cK func194 (by kernel_rfl) rfl
theorem IJ {w:World} {lo hi tb fb:Nat} {R:List Pt} {h:iy} {cnt:Int} {V:mr} (H:dm w lo hi tb fb R h cnt V) (tc ac x k:Nat) (t:w.cell? (ae tc 0)=some (ah tb)) (r:w.cell? (ae ac 0)=some (aa x)) (j:k<(aU R.length).length) (q:R.length<=20000):
  aH 194 #[aa k,ah tc,ah ac] w (eY w (.bool (decide (h k=some x)))):=by
 have i:0<R.length:=by have:=dh R.length;omega
 have p:(aU R.length).length<=40000:=by rw[dh];omega
 obtain⟨g,ch,d,-,-,-,-,s,e,-⟩:=H.holds i;have b:=H.blk;rw[d]at b;have l:w.cell? (ae tb 4)=some (aj g (aU R.length).length ch):=by simp[World.cell?,b]
 have m:=(e k j).1;have f:decide (h k=some x)=decide (nG (h k)=(x:Int)):=by rw[tV,PW]
 rw[f];have c:Hid (∀n,Below w.heap.size w (w.drewN n)):=fun n=>Below.bC _ _;clear e b d H f;generalize(aU R.length).length=M at*;generalize nG (h k)=v at*;go_enter func194,ntmps194
 go_upto_region 1 with fail
 by_cases a:v=x
 .have d1:(v==(x:Int))=true:=by simp[a]
  have d2:decide (v=(x:Int))=true:=by simp[a]
  clear a
  go_quiet (fail)
  go_wp2;go_ret;rw[d2];exact⟨rfl,c.o _⟩
 .have d1:(v==(x:Int))=false:=by simp[a]
  have d2:decide (v=(x:Int))=false:=by simp[a]
  clear a
  go_quiet (fail)
  go_wp2;go_ret;rw[d2];exact⟨rfl,c.o _⟩
def Tp (w:World) (h:iy) (x:Nat) (P:List Nat) (e:Ending) (w':World):Prop:=
 ∃r:Int,e=.returned (aa r)/\Below w.heap.size w w'/\((r=-1/\∀k∈P,h k≠some x)\/∃j k:Nat,r=j/\P[j]? =some k/\h k=some x/\∀i<j,∀k',P[i]? =some k'->h k'≠some x)
theorem NL {w:World} {lo hi tb fb:Nat} {R:List Pt} {h:iy} {cnt:Int} {V:mr} (H:dm w lo hi tb fb R h cnt V) (K:R.length<=20000) (tc ac x:Nat) (u:w.cell? (ae tc 0)=some (ah tb)) (m:w.cell? (ae ac 0)=some (aa x))
  (P:List Nat) (hP:∀k∈P,k<(aU R.length).length) (F:Option Addr) (N:Nat) (hp:Rd fA w F P) (L:P.length<=40000):
  aH 193 #[.slice F P.length N,.func (.func 194) #[] #[ah tc,ah ac]] w (Tp w h x P):=by
 have E:=gW w _ u;have B:=gW w _ m;simp only at E B;have G:Hid (∀W k,Below w.heap.size w W->k∈P->aH 194 #[aa k,ah tc,ah ac] W (eY W (.bool (decide (h k=some x))))):=fun W k q s=>
  IJ (H.below q H.fq.2.2.2.2) tc ac x k ((q.cell (p:=(ae tc 0)) E).trans u) ((q.cell (p:=(ae ac 0)) B).trans m) (hP k s) K
 have J:=af hp;have S:=II;clear H hp hP u m;unfold Tp;obtain⟨n,t⟩:∃n,n=P.length:=⟨_,rfl⟩;have z:=af t;rw[<-t]at L |-;clear t;go_enter func193,ntmps193;go_wp2
 go_loopg [8] n (fun M O wr=>∃j:Nat,O=.int .i64 j/\j<=n/\n-j<=M/\Hid (Below w.heap.size w wr)/\Hid (∀i<j,∀k',P[i]? =some k'->h k'≠some x))
 case atStart=>exact⟨0,rfl,bf _,by omega,aB _ _,fun i hi=>absurd hi (jR _)⟩
 case round=>
  obtain⟨j,rfl,U,X,a,g⟩:=hrel;by_cases Y:j<n
  .have f:j<P.length:=by have:=z.o;omega
   obtain⟨b,off,A,T,C⟩:=(J.o.below a.o).get (by omega);have Q:=C j f;simp only[fA]at Q;have d:=af (G.o wr P[j] a.o (bN f));have y:Hid (P[j]? =some P[j]):=dw f;have v:=af A;clear C A;generalize P[j]=k at*;obtain rfl:=v.o;clear v f;by_cases c:h k=some x
   .have hd:decide (h k=some x)=true:=by simp[c]
    rw[hd]at d;have l:=af c;clear hd c
    go_wp2_with (go_at_fn 194;refine d.o.mono ?_;rintro e w' ⟨rfl,r⟩)
    go_ret;exact⟨_,rfl,a.o.trans (r.mono a.o.size),.inr ⟨j,k,rfl,y.o,l.o,g.o⟩⟩
   .have hd:decide (h k=some x)=false:=by simp[c]
    rw[hd]at d;have l:=af c;clear hd c
    go_wp2_with (go_at_fn 194;refine d.o.mono ?_;rintro e w' ⟨rfl,r⟩)
    go_roundg (n-(j+1))
    case measure=>omega
    case rel=>
     refine⟨j+1,by go_num,by omega,ay _,a.o.trans (r.mono a.o.size),fun i hi k' D=>?_⟩;by_cases e:i=j
     .subst e;have:=y.o;rw[D]at this;injection this with this;rw[this];exact l.o
     .exact g.o i (by omega) k' D
  .obtain rfl:j=n:=by omega
   have I:Hid (∀k∈P,h k≠some x):=fun k s=>by
    obtain⟨i,hi,rfl⟩:=jk s;exact g.o i (by have:=z.o;omega) _ (dw hi)
   go_wp2;go_ret;exact⟨_,rfl,a.o,.inl ⟨rfl,I.o⟩⟩
theorem FW:∀args w,(callFunc 191 args).run prog w=.ok (.enter 191 args) w:=cK func191 (by kernel_rfl) rfl
theorem NM:∀args w,(callFunc 192 args).run prog w=.ok (.enter 192 args) w:=cK func192 (by kernel_rfl) rfl
def AY (w:World) (tb:Nat) (px py pi:Int):World:=(w.alloc (.cells #[ah tb] 87)).alloc (.cells #[aa px,aa py,ai pi] 29)
theorem FX (w:World) (tb:Nat) (b c a:Int):Below w.heap.size w (AY w tb b c a)/\(AY w tb b c a).heap[w.heap.size]? =some (.cells #[ah tb] 87 (0,0))/\(AY w tb b c a).heap[w.heap.size+1]? =some (.cells #[aa b,aa c,ai a] 29 (0,0))/\(AY w tb b c a).heap.size=w.heap.size+2:=
 ⟨((aB _ _).alloc (ay _) _).alloc (by simp) _,Dz w _ _,xx w _ _,by simp[AY]⟩
theorem AZ {h:iy}:∀{t:FT} {s:Nat},∀p∈t.subs s,∀i∈held h p.1 p.2,i∈held h t s
 |.leaf a,s,p,hp,i,hi=>by
  have:p=(.leaf a,s):=by simpa[FT.subs]using hp
  subst this;exact hi
 |.node l r,s,p,hp,i,hi=>by
  simp only[FT.subs,bT,ll]at hp;simp only[held,bT];rcases hp with(hp|hp)|hp
  .exact .inr (.inl (AZ p hp i hi))
  .exact .inr (.inr (AZ p hp i hi))
  .subst hp;simpa only[held,bT]using hi
def IK (w:World) (lo hi tb fb:Nat) (R:List Pt) (h:iy) (cnt:Int) (V:mr) (x:Nat) (e:Ending) (w':World):Prop:=
 (x∉nE R h/\e=.returned (.bool false)/\Below w.heap.size w w')\/(x∈nE R h/\e=.returned (.bool true)/\dm w' lo hi tb fb R (BM R x h) (cnt-1) V/\au (fun k=>lo<=k/\k<hi) w w')
theorem Er {w:World} {lo hi tb fb:Nat} {R:List Pt} {h:iy} {cnt:Int} {V:mr} (Y:dm w lo hi tb fb R h cnt V) (bv:lK R h) (dj:R.length<=20000) (dU:0<=cnt) (dV:cnt<=20000) {x:Nat} (a1:x<R.length) (p:Pt) (hp:R[x]=p):
  aH 126 #[ah tb,iD p.1 p.2.1 p.2.2] w (IK w lo hi tb fb R h cnt V x):=by
 have O:=Y.blk;have dB:=Y.ED;have b9:=Y.fq;obtain⟨a7,a8,bU,-,-,b6⟩:=cz.aC bu (by decide) Y.row;rw[bU]at O;have CB:=af (fun W (O:Below w.heap.size w W)=>Nn a7 R R.length a8 p W rfl (by omega) (b6.below O) bv.zT);have bx:=Eh bv.zT a1;rw[hp]at bx;rw[bx.1,bx.2]at CB;have c7:=af b6;have cL:bV R x=p:=by rw[dF a1];exact hp
 have c5:=af cL;have bj:=af a1;have dL:=af bU;obtain⟨an,ao,am⟩:=p;obtain⟨bw,b8,aV,cM⟩:=FX w tb an ao am;obtain⟨w1,bm⟩:∃w1,w1=AY w tb an ao am:=⟨_,rfl⟩;rw[<-bm]at bw b8 aV cM;unfold AY at bm;have cI:=(bw.block tb dB).trans O;have aG:w1.cell? (ae tb 0)=some (.slice a7 R.length a8):=by simp[World.cell?,cI]
 have t0:w1.cell? (ae w.heap.size 0)=some (ah tb):=by simp[World.cell?,b8]
 have a2:w1.cell? (ae (w.heap.size+1) 0)=some (aa an):=by simp[World.cell?,aV]
 have a3:w1.cell? (ae (w.heap.size+1) 1)=some (aa ao):=by simp[World.cell?,aV]
 have a4:w1.cell? (ae (w.heap.size+1) 2)=some (ai am):=by simp[World.cell?,aV]
 have al:0<R.length:=by omega
 have cO:=a1;obtain⟨n,b5⟩:∃n,n=R.length:=⟨_,rfl⟩;rw[<-b5]at dj aG CB al cO;have l:=af b5;have bb:=af bw;have cl:=af Y;have ct:=af bv;have cN:tb<w1.heap.size:=by omega
 have cb:w.heap.size<w1.heap.size:=by omega
 have bE:w.heap.size+1<w1.heap.size:=by omega
 clear Y b6 O bU b5 bw b8 aV cI cM bx hp a1 bv cL;have d0:((n:Int)==0)=false:=by simp;omega
 have d1:(n==0)=false:=by simp;omega
 have d2:decide (n=0)=false:=by simp;omega
 obtain⟨tc,ca⟩:∃tc,tc=w.heap.size:=⟨_,rfl⟩;have cs:=af ca;go_enter func126,ntmps126
 go_upto_region 1 with fail
 rw[<-bm];clear bm;rw[<-ca]at t0 a2 a3 a4 cb bE |-;clear ca
 go_upto_region 3 with fail
 have cm:Hid (∀b:aT w1,aH 191 #[.slice a7 n a8,iD an ao am,.func (.func 94) #[] #[]] b.W fun e w'=>e=.returned (.tuple #[aa (x:Nat),.bool true])/\Below b.W.heap.size b.W w'):=fun b=>CB.o b.W (bb.o.trans (b.h.mono bb.o.size));clear CB
 go_cut [5,6]from 5 (fun dH dI cT=>∃z:Nat,dH=ah z/\dI=.bool true/\Hid (Below w1.heap.size w1 cT)/\Hid (cT.heap[z]? =some (.cells #[aa (x:Nat)] 3 (0,0))))
 case first=>
  have bq:=ag aG;have br:=ag t0;have bs:=ag a2;have dQ:=ag a3;have dR:=ag a4;refine ak (fun W=>∃p:aT w1,W=p.W) [11] [(0,true),(1,false),(2,false),(3,true),(4,true)] ⟨⟨_,(aB _ _).drew⟩,rfl⟩ 7 ?_;simp only[bn,aX,aY,aW,aN,aM,aO]
  repeat(refine aD (fun K c=>?_);go_simp;first|(refine c _ ?_;clear c K)|(apply Exists.intro;refine⟨fun _=>?_,c _ ?_⟩;rfl;clear c K))
  refine aJ ?_;have C:Below w1.heap.size w1 w1.drew:=(aB _ _).drew;refine eT [5,9] (by kernel_rfl) (by simp) ?_;refine bA.cons rfl (fun K c=>?_) (bA.cons rfl (fun K c=>?_) bA.nil)
  .refine bg FW rfl _ _ rfl (vals:=#[.slice a7 n a8,iD an ao am,.func (.func 94) #[] #[]]) rfl (cm.o ⟨w1.drew,C⟩) ?_;rintro e w3 ⟨rfl,A⟩;have f:Below w1.heap.size w1 w3:=C.trans A;refine⟨_,rfl,c _ _ (fun _ _=>⟨⟨_,f⟩,rfl⟩) ?_⟩;clear c K;refine bG [(6,false),(7,false),(8,false)] ⟨⟨_,f⟩,rfl⟩ rfl ?_;simp only[bn,aX,aY,aW,aN,aM,aO]
   repeat(refine aD (fun K c=>?_);go_simp;first|(refine c _ ?_;clear c K)|(apply Exists.intro;refine⟨fun _=>?_,c _ ?_⟩;rfl;clear c K))
   refine aJ ?_;have av:Hid (Below w1.heap.size w1 (w3.alloc (.cells #[aa (x:Nat)] 3))):=f.alloc f.size _;have bR:=af (di w3 (.cells #[aa (x:Nat)] 3));refine aA 9 rfl fun K c=>?_;go_simp;refine c _ _ (fun _ _=>⟨⟨_,f.alloc f.size _⟩,rfl⟩) ?_;clear c K;refine aA 10 rfl fun K c=>?_;go_simp;refine c _ _ (fun _ _=>⟨⟨_,av.o⟩,rfl⟩) ?_;clear c K;refine aF [11] _ _ _ (by kernel_rfl) ?_;simp only[pick,aX,aY,aW,aN,aM];clear f A;go_wp2;go_meet;exact⟨_,rfl,rfl,av.o,bR.o⟩
  .obtain⟨w2,bo⟩:∃w2,w2=(w1.alloc (.cells #[aa 0] 3)).drew:=⟨_,rfl⟩;have aL:Below w1.heap.size w1 w2:=by rw[bo];exact((aB _ _).alloc (ay _) _).drew
   have cd:w2.heap[w1.heap.size]? =some (.cells #[aa 0] 3 (0,0)):=by rw[bo];exact di w1 _
   go_simp;rw[<-bo];clear bo;refine c _ _ (fun _ _=>⟨⟨_,aL⟩,rfl⟩) ?_;clear c K;refine aA 5 rfl fun K c=>?_;refine bg FW rfl _ _ rfl (vals:=#[.slice a7 n a8,iD an ao am,.func (.func 94) #[] #[]]) rfl (cm.o ⟨w2,aL⟩) ?_;rintro e w3 ⟨rfl,A⟩;have f:Below w1.heap.size w1 w3:=aL.trans (A.mono aL.size);have bJ:=(A.block _ (aZ.1 cd).1).trans cd;refine⟨_,rfl,c _ _ (fun _ _=>⟨⟨_,f⟩,rfl⟩) ?_⟩;clear c K;refine bG [(6,false),(7,false),(8,false)] ⟨⟨_,f⟩,rfl⟩ rfl ?_;simp only[bn,aX,aY,aW,aN,aM,aO]
   repeat(refine aD (fun K c=>?_);go_simp;first|(refine c _ ?_;clear c K)|(apply Exists.intro;refine⟨fun _=>?_,c _ ?_⟩;rfl;clear c K))
   refine aJ ?_;have ap:w3.cell? (ae w1.heap.size 0)=some (aa 0):=by simp[World.cell?,bJ]
   have aq:w3.frozen? (ae w1.heap.size 0)=false:=by simp[World.frozen?,bJ]
   have av:Hid (Below w1.heap.size w1 (w3.setCell (ae w1.heap.size 0) (.int .i64 (x:Nat)))):=⟨f.os,f.tape,f.output,by simpa using f.size,fun b O=>(az (show w1.heap.size≠b by omega)).trans (f.block b O)⟩;have bR:Hid ((w3.setCell (ae w1.heap.size 0) (.int .i64 (x:Nat))).heap[w1.heap.size]? =some (.cells #[aa (x:Nat)] 3 (0,0))):=dA w3 _ 0 _ _ _ bJ;refine aA 10 rfl fun K c=>?_;go_simp;refine c _ _ (fun _ _=>⟨⟨_,av.o⟩,rfl⟩) ?_;clear c K;refine aF [11] _ _ _ (by kernel_rfl) ?_;simp only[pick,aX,aY,aW,aN,aM];clear f A aL cd bJ ap aq;go_wp2;go_meet;exact⟨_,rfl,rfl,av.o,bR.o⟩
 case rest=>
  obtain⟨z,rfl,rfl,cY,cX⟩:=hcut;have bX:=cX.o;have D:=cY.o;have ar:Hid (Below w.heap.size w wc):=bb.o.trans (D.mono bb.o.size);have J:wc.cell? (ae z 0)=some (aa (x:Nat)):=by simp[World.cell?,bX]
  have Z:z<wc.heap.size:=(aZ.1 bX).1;have aG:=(D.cell (p:=(ae tb 0)) cN).trans aG;have t0:=(D.cell (p:=(ae tc 0)) cb).trans t0;have a2:=(D.cell (p:=(ae (tc+1) 0)) bE).trans a2;have a3:=(D.cell (p:=(ae (tc+1) 1)) bE).trans a3;have a4:=(D.cell (p:=(ae (tc+1) 2)) bE).trans a4;have y:tc<wc.heap.size:=bB cb D.size;have bh:Hid (dm wc lo hi tb fb R h cnt V):=cl.o.below ar.o b9.2.2.2.2;have cG:=bh.o.blk;have bk:wc.cell? (ae tb 2)=some (ah fb):=by simp[World.cell?,cG]
  obtain⟨b,off,dc,dl,v⟩:=(c7.o.below ar.o).get (by have:=l.o;omega);have ce:=v x bj.o 0 (by omega);have cf:=v x bj.o 1 (by omega);have cg:=v x bj.o 2 (by omega);rw[<-dF bj.o,c5.o]at ce cf cg;simp only[dx,aM,aN,dM]at ce cf cg;subst dc;have dZ:tb<wc.heap.size:=bB cN D.size;clear v bX D cG cl
  go_upto_region 4 with fail
  go_quiet (fail)
  obtain⟨w3,G⟩:∃w3,w3=wc.drewN nq:=⟨_,rfl⟩;have A:Below wc.heap.size wc w3:=by rw[G];exact Below.bC _ _
  have J:w3.cell? (ae z 0)=some (aa (x:Nat)):=by rw[G];exact J
  have t0:w3.cell? (ae tc 0)=some (ah tb):=by rw[G];exact t0
  have bk:w3.cell? (ae tb 2)=some (ah fb):=by rw[G];exact bk
  have aE:Hid (dm w3 lo hi tb fb R h cnt V):=bh.o.below A bh.o.fq.2.2.2.2;have bc:Hid (Below w.heap.size w w3):=ar.o.trans (A.mono ar.o.size);have Z:z<w3.heap.size:=by rw[G];exact Z
  have y:tc<w3.heap.size:=by rw[G];exact y
  go_upto_region 6 with fail
  rw[<-G];clear G A bh ar ce cf cg a2 a3 a4 aG dl;have C:Below w3.heap.size w3 w3.drew:=(aB _ _).drew;have ck:=af (uD lo fb n x V.fv (by omega) cO w3.drew (by rw[l.o];exact(aE.o.below C aE.o.fq.2.2.2.2).ig));have bq:=ag t0;have br:=ag bk;have bs:=ag J;refine ak (fun W=>∃p:aT w3,W=p.W) [5,6,7,8,9,10] [(0,true),(1,false),(2,false),(3,true),(4,true)] ⟨⟨_,(aB _ _).drew⟩,rfl⟩ 6 ?_;simp only[bn,aX,aY,aW,aN,aM,aO]
  repeat(refine aD (fun K c=>?_);go_simp;first|(refine c _ ?_;clear c K)|(apply Exists.intro;refine⟨fun _=>?_,c _ ?_⟩;rfl;clear c K))
  refine aJ ?_;refine aA 5 rfl fun K c=>?_;refine bg NM rfl _ _ rfl (vals:=#[ah fb,aa (x:Nat)]) rfl ck.o ?_;rintro e w4 ⟨pv,rfl,bH,cF⟩;have H:Below w3.heap.size w3 w4:=C.trans cF;refine⟨_,rfl,c _ _ (fun _ h=>absurd (by simp) h) ?_⟩;clear c K;refine bG [(6,false),(7,false),(8,false)] ⟨⟨_,H⟩,rfl⟩ rfl ?_;simp only[bn,aX,aY,aW,aN,aM,aO]
  repeat(refine aD (fun K c=>?_);go_simp;first|(refine c _ ?_;clear c K)|(apply Exists.intro;refine⟨fun _=>?_,c _ ?_⟩;rfl;clear c K))
  refine aJ ?_;refine aF [9,10] _ _ _ (by kernel_rfl) ?_;simp only[pick,aX,aY,aW,aN,aM];have be:Hid (dm w4 lo hi tb fb R h cnt V):=aE.o.below H aE.o.fq.2.2.2.2;have bN:Hid (Below w.heap.size w w4):=bc.o.trans (H.mono bc.o.size);have t0:=(H.cell (p:=(ae tc 0)) y).trans t0;have J:=(H.cell (p:=(ae z 0)) Z).trans J;have y:tc<w4.heap.size:=bB y H.size;have Z:z<w4.heap.size:=bB Z H.size;obtain⟨P,aK⟩:∃P,P=(dK 0 n).path 0 x:=⟨_,rfl⟩;rw[<-aK]at bH;have dT:P.length<=n+1:=by
   have cA:=FT.nP (dK 0 n) 0 x;have bW:=uz 0 n n (um (Dh));rw[aK];omega
  obtain⟨cc,dt,dq⟩:=bO 0 n al;have bt:=jF n al;rw[fG al]at bt;have cE:∀k∈P,k<(aU R.length).length:=fun k ac=>by
   rw[aK]at ac;obtain⟨⟨t,s⟩,dD,dC,-,-⟩:=FT.mg (dK 0 n) 0 x cc (by omega) (by omega) k ac;have dk:FT.At (aU n) t s:=by rw[fG al];exact FT.kg _ 0 bt _ dD
   have:=dk.lt;simp only at dC;rw[<-l.o];omega
  have bF:=xV (lt:=yQ R) (lb:=BL R) (dK 0 n) 0 h x cc (by have:=ct.o.ok (by have:=l.o;omega);rw[<-l.o]at this;exact this) (by omega) (by omega);rw[<-aK]at bF;have b1:nE R h=held h (dK 0 n) 0:=by rw[mV (by have:=l.o;omega),l.o]
  have cp:Hid (((∀k∈P,h k≠some x)->x∉nE R h)/\∀m k:Nat,P[m]? =some k->h k=some x->(∀i<m,∀k',P[i]? =some k'->h k'≠some x)->∃E I,FT.At (aU R.length) E I/\k=E.root I/\BM R x h=pullH (BL R) E I h/\x∈nE R h):=by
   refine⟨fun cB=>by rw[b1];exact bF.1 cB,fun m k cA bW dh=>?_⟩;obtain⟨E,I,a5,a6,bK⟩:=bF.2 m k cA bW dh;refine⟨E,I,?_,a6,?_,?_⟩
   .rw[<-l.o,fG al];exact FT.kg _ 0 bt _ a5
   .unfold BM;rw[<-l.o];exact bK
   .rw[b1];refine AZ _ a5 x ?_;obtain⟨L,db⟩:=oq (t:=E) (s:=I) (h:=h) (by rw[<-a6];exact bW);rw[db];simp
  obtain⟨cQ,cR,rfl,-,-,b7⟩:=Rd.aC (enc:=fA) bH;have cr:Hid (w4.ownsRow w3.heap.size 3 1 (.slice cQ P.length cR) P.length (P.map fA)):=bL bH (ay _);have dX:w.heap.size<=w3.heap.size:=bc.o.size;have c8:=af b7;have cj:=af (NL be.o (by have:=l.o;omega) tc z x t0 J P cE cQ cR b7 (by omega));clear bF b1 cE aK cc dt dq bt bH b7 H cF C bq br bs ck aE bc bk
  go_wp2_with fail
  refine cj.o.mono ?_;rintro e F ⟨d5,rfl,ab,dn⟩;have bf:Hid (dm F lo hi tb fb R h cnt V):=be.o.below ab be.o.fq.2.2.2.2;have bP:Hid (Below w.heap.size w F):=bN.o.trans (ab.mono bN.o.size);have t0:=(ab.cell (p:=(ae tc 0)) y).trans t0;have y:tc<F.heap.size:=bB y ab.size;have bS:=af (ax cr.o ab);clear ab cj be bN c8 J Z;rcases dn with⟨rfl,cK⟩|⟨j,k,rfl,bz,b4,cH⟩
  .have T:Hid (IK w lo hi tb fb R h cnt V x (.returned (.bool false)) F):=.inl ⟨cp.o.1 cK,rfl,bP.o⟩;clear cK;go_wp2;go_ret;exact T.o
  .obtain⟨E,I,a5,a6,bK,cS⟩:=cp.o.2 j k bz b4 cH;have dr:j<P.length:=(fC.1 bz).1;have cD:P[j]=k:=(fC.1 bz).2;have cW:=af a5;have c2:=af a6;have c4:=af bK;have cZ:=af cS;have bY:=bf.o.blk;have da:F.cell? (ae tb 5)=some (aa cnt):=by simp[World.cell?,bY]
   have dJ:F.frozen? (ae tb 5)=false:=by simp[World.frozen?,bY]
   have dP:decide ((j:Int)<0)=false:=by simp
   have dY:=bf.o.ED;have cJ:j<P.length:=dr;have c6:=af cD;clear cD bY a5 a6 bK cS bz b4 cH
   go_upto_region 11 with fail
   obtain⟨w6,bp⟩:∃w6,w6=F.setCell (ae tb 5) (.int .i64 (cnt-1)):=⟨_,rfl⟩;have c3:Hid (dm w6 lo hi tb fb R h (cnt-1) V):=by rw[bp];exact bf.o.Ay (cnt-1)
   have aR:au (fun k=>k=tb) F w6:=by rw[bp];exact(au.refl (fun k=>k=tb) F).set (a:=(ae tb 5)) _ (.inl rfl)
   have c1:Hid (au (fun k=>lo<=k/\k<hi) w w6):=((au.refl _ w).below bP.o).trans (aR.mono fun k h=>by subst h;exact⟨b9.1,b9.2.1⟩);have dz:tc≠tb:=by have:=cs.o;omega
   have t0:=((cu aR y dz).1 0).trans t0;have y:tc<w6.heap.size:=bB y aR.size;have bI:=aS bS.o aR (fun g e cB=>by have:=(bS.o.lt g e).1;omega);obtain⟨dS,dO,cy,-,-⟩:=aQ bI (by omega);rw[cy]at bI;injection cy with dd de df;have cU:=bI.cellAt j (by omega);rw[gY,dw cJ,c6.o]at cU;simp only[aO,fA]at cU;rw[<-bp];subst dd;clear bp da dJ aR bI de df bf bP bS cr cJ
   go_wp2_with fail
   go_loopg [10] E.size (fun dE dG wr=>∃(t:FT) (s:Nat) (u:iy),dG=.int .i64 (t.root s:Nat)/\t.size<=dE/\Hid (FT.At (aU R.length) t s)/\Hid (dm wr lo hi tb fb R u (cnt-1) V)/\Hid (pullH (BL R) t s u=BM R x h)/\Hid (∀k i,k<(aU R.length).length->u k=some i->i<R.length)/\Hid (au (fun k=>lo<=k/\k<hi) w wr)/\wr.cell? (ae tc 0)=some (ah tb))
   case atStart=>exact⟨E,I,h,by rw[c2.o],ay _,cW,c3,c4.o.symm,fun k i ac e=>ct.o.pl ac e,c1,t0⟩
   case round=>
    obtain⟨t,s,u,rfl,b4,bM,U,bT,bd,cn,a9⟩:=hrel;have S:=af (FV U.o (by have:=l.o;omega) bM.o bd.o);have dv:=Le (lb:=BL R) (h:=u) bM.o;have ad:=bM.o.lt;have d4:=U.o.ED;have a0:tc<wr.heap.size:=gW wr _ a9;rcases dv with⟨aI,X⟩|⟨t2,ci,i,aI,X,cv,cw,cx⟩
    .rw[aI]at S;have bi:=af X;clear aI X
     go_wp2_with fail
     refine S.o.mono ?_;rintro e d ⟨rfl,B⟩;have r:Hid (dm d lo hi tb fb R u (cnt-1) V):=U.o.below B U.o.fq.2.2.2.2;have aw:Hid (au (fun k=>lo<=k/\k<hi) w d):=cn.o.below B;have t7:=(B.cell (p:=(ae tc 0)) a0).trans a9;obtain⟨q,ch,N,bZ,b0,-,-,dp,v,-⟩:=r.o.holds (by have:=l.o;omega);obtain⟨ap,aq⟩:=v _ ad;have Q:=r.o.blk;rw[N]at Q;have bl:d.cell? (ae tb 4)=some (aj q (aU R.length).length ch):=by simp[World.cell?,Q]
     have T:Hid (IK w lo hi tb fb R h cnt V x (.returned (.bool true)) (d.setCell (ae q (t.root s)) (.int .i64 (-1)))):=by
      refine .inr ⟨cZ.o,rfl,?_,aw.o.set (a:=(ae q (t.root s))) _ (.inl ⟨bZ,b0⟩)⟩;have:=r.o.mW N ad none;rw[<-bi.o,bT.o]at this;exact this
     clear B Q v N r aw S a9 a0;generalize t.root s=kr at*;generalize(aU R.length).length=M at*;go_wp2;go_ret;exact T.o
    .rw[aI]at S;have bi:=af cx;have cV:=af X;have c9:=af cv;have bQ:=af cw;have bD:=X.lt;clear aI X cv cw cx
     go_wp2_with fail
     refine S.o.mono ?_;rintro e d ⟨rfl,B⟩;have r:Hid (dm d lo hi tb fb R u (cnt-1) V):=U.o.below B U.o.fq.2.2.2.2;have aw:Hid (au (fun k=>lo<=k/\k<hi) w d):=cn.o.below B;have t7:=(B.cell (p:=(ae tc 0)) a0).trans a9;have dy:tc<d.heap.size:=bB a0 B.size;obtain⟨q,ch,N,bZ,b0,-,-,dp,v,-⟩:=r.o.holds (by have:=l.o;omega);obtain⟨ap,aq⟩:=v _ ad;obtain⟨y1,-⟩:=v _ bD;rw[bQ.o]at y1;simp only[nG]at y1;have Q:=r.o.blk;rw[N]at Q;have bl:d.cell? (ae tb 4)=some (aj q (aU R.length).length ch):=by simp[World.cell?,Q]
     have d3:=r.o.ED;have dW:=bd.o _ i bD bQ.o;have T:Hid (∀ba,ba=d.drew.setCell (ae q (t.root s)) (.int .i64 (i:Nat))->dm ba lo hi tb fb R (fV u (t.root s) (some i)) (cnt-1) V/\au (fun k=>lo<=k/\k<hi) w ba/\ba.cell? (ae tc 0)=some (ah tb)):=fun ba dg=>by
      subst dg;have C:Below d.heap.size d d.drew:=(aB _ _).drew;have du:=r.o.below C r.o.fq.2.2.2.2;refine⟨du.mW N ad (some i),(aw.o.below C).set (a:=(ae q (t.root s))) _ (.inl ⟨bZ,b0⟩),?_⟩;have ds:au (fun k=>k=q) d.drew (d.drew.setCell (ae q (t.root s)) (.int .i64 (i:Nat))):=(au.refl (fun k=>k=q) _).set (a:=(ae q (t.root s))) _ (.inl rfl);exact((cu ds (show tc<d.drew.heap.size from dy) (by have:=cs.o;omega)).1 0).trans t7
     have co:Hid (∀k j,k<(aU R.length).length->fV u (t.root s) (some i) k=some j->j<R.length):=fun k j ac aP=>by
      by_cases e:k=t.root s
      .subst e;rw[fO]at aP;injection aP with aP;omega
      .rw[gU e]at aP;exact bd.o k j ac aP
     have cq:Hid (pullH (BL R) t2 ci (fV u (t.root s) (some i))=BM R x h):=by
      show _=_;rw[<-bi.o];exact bT.o
     clear B Q v N r aw S a9 a0 bi bQ bd bT;obtain⟨kr,b3⟩:∃kr,kr=t.root s:=⟨_,rfl⟩;obtain⟨cP,b2⟩:∃cP,cP=t2.root ci:=⟨_,rfl⟩;obtain⟨M,cC⟩:∃M,M=(aU R.length).length:=⟨_,rfl⟩;rw[<-b3]at ap aq ad T cq co |-;rw[<-b2]at y1 bD |-;rw[<-cC]at bl ad bD;have c0:=af b2;have dN:=af b3;clear b3 b2 cC;have bq:=ag t7;have br:=ag bl;have bs:=ag y1
     go_upto_region 16 with fail
     refine ak (fun W=>∃p:aT d,W=p.W) [12,13] [(0,true),(1,false),(2,false),(3,true),(4,false),(5,true),(6,false),(7,false),(8,true),(9,false),(10,false),(11,true)] ⟨⟨_,(aB _ _).drew⟩,rfl⟩ 2 ?_;simp only[bn,aX,aY,aW,aN,aM,aO]
     repeat(refine aD (fun K c=>?_);go_simp;first|(refine c _ ?_;clear c K)|(apply Exists.intro;refine⟨fun _=>?_,c _ ?_⟩;rfl;clear c K))
     refine aJ ?_;refine aF [12,13] _ _ _ (by kernel_rfl) ?_;simp only[pick,aX,aY,aW,aN,aM];have ap:d.drew.cell? (ae q kr)=some (aa (nG (u kr))):=ap;have aq:d.drew.frozen? (ae q kr)=false:=aq;clear bq br bs y1 t7 bl;generalize d.drew=d6 at*;go_wp2
     go_roundg (t2.size)
     case measure=>have:=c9.o;omega
     case rel=>
      obtain⟨f1,f2,f3⟩:=T.o _ rfl;exact⟨t2,ci,_,by rw[c0.o],ay _,cV,f1,cq,co,f2,f3⟩
theorem Lf {P:Program} {ops:Array Oper} {rest:List Oper} {op:Oper} {a:Act} {Q:Exit->Act->World->Prop} {α:Type} {enc:α->Value} {t e:TypeId} {bytes:Nat} (g:eH P t e 1 bytes) {W:World} {ad:Option Addr} {l:List α} {c n:Nat} (p:Rd enc W ad l) (r:l.length=n) (k:n<=c) (lo hi:Nat) (i:lo<=hi) (j:hi<=n)
  (m:op.guard=none) (x:Operand) (d b:Option Operand) (s:op.op=.slice t x d b none) (u:a.eval x=.slice ad n c)
  (q:(d.map a.eval).getD (.int .i64 0)=.int .i64 lo) (o:(b.map a.eval).getD (.int .i64 n)=.int .i64 hi)
  (h:∀f,cz (fun x=>[enc x]) 1 W f ((l.take hi).drop lo)->wpList P ops Q rest (a.put op.dst (.slice f (hi-lo) (c-lo))) W):wpList P ops Q (op::rest) a W:=by
 subst r;exact Kw g p.Ue k lo hi i j m x d b s u q o h
theorem Rd.UX {α:Type} {enc:α->Value} {w:World} {a:Option Addr} {l:List α} (h:cz (fun x=>[enc x]) 1 w a l):Rd enc w a l:=by
 rcases h with h|⟨b,off,rfl,c,d⟩
 .exact .inl h
 .exact .inr ⟨b,off,rfl,c,fun i hi=>by simpa using d i hi 0 (by omega)⟩
def SB (a:Option Addr) (v:Value):Prop:=∀ad,a=some ad->v.ownBlock≠some ad.block
def A7 (W:World) (lo hi tb fb:Nat) (R:List Pt) (h':iy) (cnt:Int) (V:mr) (e:Ending) (w':World):Prop:=
 e=.returned (.tuple #[])/\dm w' lo hi tb fb R h' cnt V/\au (fun k=>V.hv.ownBlock=some k) W w'
theorem qp (p:Nat->Bool) (L:List Nat) {i:Nat} (h:i<L.length):(L.take (i+1)).filter p=(L.take i).filter p++(if p L[i]then[L[i]]else[]):=by
 rw[dZ h,lW];congr 1;rw[lu];split<;>rfl
theorem A8 {lo hi tb fb:Nat} {R:List Pt} {cnt:Int} {V:mr} (dE:R.length<=20000) (t:FT) (s:Nat) (bt:FT.At (aU R.length) t s) (bL:t.wf) (dJ:t.hi<=R.length) (L:List Nat) (W:World) (h:iy) (x:Option Addr) (Q:Nat)
  (H:dm W lo hi tb fb R h cnt V) (hp:Rd fA W x L) (cv:L.length<=20000) (bx:L.length<=Q) (cB:SB x V.hv) (cj:∀i∈L,i<=1000000)
  (bI:∀l r,t=.node l r->(∀(L:List Nat) (W:World) (h:iy) (x:Option Addr) (Q:Nat),dm W lo hi tb fb R h cnt V->Rd fA W x L->L.length<=20000->L.length<=Q->SB x V.hv->(∀i∈L,i<=1000000)->
    aH 101 #[ah tb,aa (l.root s:Nat),.slice x L.length Q] W (A7 W lo hi tb fb R (fillH l s L h) cnt V))/\
    ∀(L:List Nat) (W:World) (h:iy) (x:Option Addr) (Q:Nat),dm W lo hi tb fb R h cnt V->Rd fA W x L->L.length<=20000->L.length<=Q->SB x V.hv->(∀i∈L,i<=1000000)->
    aH 101 #[ah tb,aa (r.root (s+l.size):Nat),.slice x L.length Q] W (A7 W lo hi tb fb R (fillH r (s+l.size) L h) cnt V)):
  aH 101 #[ah tb,aa (t.root s:Nat),.slice x L.length Q] W (A7 W lo hi tb fb R (fillH t s L h) cnt V):=by
 have a9:=bt.lt;have br:0<R.length:=by have:=t.eQ bL;omega
 cases L with
 |nil=>
  rw[xS];have cT:Hid (A7 W lo hi tb fb R h cnt V (.returned (.tuple #[])) W):=⟨rfl,H,au.refl _ _⟩;clear H hp bI;simp only[fB];go_enter func101,ntmps101;go_wp2
  go_end0
  exact cT.o
 |cons i L=>
  obtain⟨a6,off,cn,env,aP⟩:=H.nodes br;obtain⟨f,ch,ab,dG,dH,-,-,c9,aE,-⟩:=H.holds br;obtain⟨bd,be⟩:=aE _ a9;have bu:=H.blk;rw[env,ab]at bu;have bo:W.cell? (ae tb 4)=some (aj f (aU R.length).length ch):=by simp[World.cell?,bu]
  obtain⟨b,o,aw,ck,bG⟩:=hp.get (by simp);have aQ:=bG 0 (by simp);simp only[qC,fA,dM]at aQ;have df:b≠f:=fun e=>by
   have:=cB _ aw;rw[ab]at this;exact this (by rw[e];rfl)
  obtain⟨w1,ax⟩:∃w1,w1=W.drew.setCell (ae f (t.root s)) (.int .i64 (i:Nat)):=⟨_,rfl⟩;have a8:au (fun k=>k=f) W w1:=by rw[ax];exact((au.refl (fun k=>k=f) W).drew).set (a:=(ae f (t.root s))) _ (.inl rfl)
  have ao:Hid (dm w1 lo hi tb fb R (fV h (t.root s) (some i)) cnt V):=by
   rw[ax];exact(H.below (aB W.heap.size W).drew H.fq.2.2.2.2).mW ab a9 (some i)
  have bY:Hid (au (fun k=>V.hv.ownBlock=some k) W w1):=a8.mono fun k e=>by subst e;rw[ab];rfl
  have cC:Rd fA w1 (some (ae b o)) (i::L):=.inr ⟨b,o,rfl,bB ck a8.size,fun j cr=>((cu a8 ck df).1 _).trans (bG j cr)⟩;have cR:=af cC;have bh:=af cj;have bm:=af bI;have aR:=af bt;have bj:=af ab;have cU:=af bL;have c8:(aU R.length).length<=40000:=by rw[dh];omega
  simp only[dY]at cv bx |-;have d0:(((L.length+1:Nat):Int)==0)=false:=by first|(simp;done)|(simp;omega)
  subst aw;clear aE bu env ab H hp bG cB cj bI a8 cC bt aP bL;obtain⟨n,bE⟩:∃n,n=L.length:=⟨_,rfl⟩;have ap:=af bE;rw[<-bE]at cv bx d0 |-;obtain⟨K,N⟩:∃K,K=t.root s:=⟨_,rfl⟩;have cK:=af N;obtain⟨M,bs⟩:∃M,M=(aU R.length).length:=⟨_,rfl⟩;have b1:=af bs;rw[<-N]at bd be a9 ax |-;rw[<-bs]at bo a9 c8;clear bE N bs;have c5:=ag bo;have c6:=ag aQ;go_enter func101,ntmps101
  go_upto_region 1 with fail
  refine ak (fun W'=>∃p:aT W,W'=p.W) [8,9] [(0,false),(1,false),(2,false),(3,true),(4,false),(5,false),(6,false),(7,true)] ⟨⟨_,(aB _ _).drew⟩,rfl⟩ 2 ?_;simp only[bn,aX,aY,aW,aN,aM,aO]
  repeat(refine aD (fun K N=>?_);go_simp;first|(refine N _ ?_;clear N K)|(apply Exists.intro;refine⟨fun _=>?_,N _ ?_⟩;rfl;clear N K))
  refine aJ ?_;refine aF [8,9] _ _ _ (by kernel_rfl) ?_;simp only[pick,aX,aY,aW,aN,aM];have bd:W.drew.cell? (ae f K)=some (aa (nG (h K))):=bd;have be:W.drew.frozen? (ae f K)=false:=be;clear c5 c6 bo aQ
  go_upto_region 2 with fail
  rw[show(W.setCell (ae f K) (.int .i64 (i:Nat))).drew=w1 by rw[ax];rfl];clear ax bd be;obtain⟨a6,off,cn,env,aP⟩:=ao.o.nodes br;have bv:=ao.o.blk;rw[env]at bv;have b8:w1.cell? (ae tb 3)=some (.slice (some (ae a6 off)) M cn):=by simp[World.cell?,bv];exact b1.o.symm
  obtain⟨da,n0,bM,bO,bP,bQ,cI,bR⟩:=l9 aP aR.o.get;rw[<-cK.o]at n0 bM bO bP bQ cI bR;have dj:=ao.o.ED;have b4:=af aP;obtain⟨d,hd⟩:∃d,d=t.top s:=⟨_,rfl⟩;rw[<-hd]at n0 bM bO bP bQ bR;have aV:=af hd;clear hd;obtain⟨w2,a5⟩:∃w2,w2=w1.alloc (.cells #[.int .u8 d.kind,aa d.l,aa d.r,aa d.fr,aa d.Jk,aa 0,aa d.item] 163):=⟨_,rfl⟩;have ac:Below w1.heap.size w1 w2:=by rw[a5];exact(aB _ _).alloc (ay _) _
  have aK:w2.heap[w1.heap.size]? =some (.cells #[.int .u8 d.kind,aa d.l,aa d.r,aa d.fr,aa d.Jk,aa 0,aa d.item] 163 (0,0)):=by rw[a5];exact di w1 _
  have aQ:w2.cell? (ae w1.heap.size 0)=some (.int .u8 d.kind):=by simp[World.cell?,aK]
  have x1:w2.cell? (ae w1.heap.size 1)=some (aa d.l):=by simp[World.cell?,aK]
  have x2:w2.cell? (ae w1.heap.size 2)=some (aa d.r):=by simp[World.cell?,aK]
  have aL:=(ac.cell (p:=(ae tb 3)) dj).trans b8;have an:w1.heap.size<w2.heap.size:=(aZ.1 aK).1;have bX:=af ac;have a1:Hid (dm w2 lo hi tb fb R (fV h (t.root s) (some i)) cnt V):=ao.o.below ac ao.o.fq.2.2.2.2;have b0:Hid (au (fun k=>V.hv.ownBlock=some k) W w2):=bY.o.below ac;have cS:Hid (Rd fA w2 (some (ae b o)) (i::L)):=cR.o.below ac;clear env aP bv ac aK
  go_upto_region 3 with fail
  rw[<-a5];clear a5 n0 bM bO bP bQ cI bR b8;cases t with
  |leaf a=>
   have d1:(d.kind !=(2:Int))=true:=by rw[aV.o];rfl
   have bi:Hid (A7 W lo hi tb fb R (fillH (.leaf a) s (i::L) h) cnt V (.returned (.tuple #[])) w2):=⟨rfl,a1.o,b0.o⟩;clear x1 x2 bm;go_wp2
   go_end0
   exact bi.o
  |node l r=>
   have d1:(d.kind !=(2:Int))=false:=by rw[aV.o];rfl
   have cw:=aR.o.left.lt;have cG:=aR.o.right.lt;have co:d.l=((l.root s:Nat):Int):=by rw[aV.o];show((s+l.size:Nat):Int)-1=_;unfold FT.root;have:=l.size_pos;omega
   have cp:d.r=((r.root (s+l.size):Nat):Int):=by rw[aV.o];show((s+l.size+r.size:Nat):Int)-1=_;unfold FT.root;have:=r.size_pos;omega
   rw[co]at x1;rw[cp]at x2;obtain⟨b5,b6⟩:=bm.o l r rfl;have bk:=af b5;have bl:=af b6;obtain⟨m0,m1,m2,m3,m4,O,dn,dp⟩:=l9 (b4.o.below bX.o) aR.o.left.get;rw[FT.uA]at O;have bD:=cU.o;have de:l.hi<=20000:=by
    have:=FT.eQ r bD.2.1;have aA:(FT.node l r).hi=r.hi:=rfl;have:=bD.2.2;omega
   have cN:Hid (∃c,c=l.hi):=⟨_,rfl⟩;rw[<-b1.o]at cw cG;clear co cp b5 b6 bm m1 m2 m3 m4 dn dp bD b4;have b3:Hid (fillH (.node l r) s (i::L) h=fillH r (s+l.size) (L.filter fun j=>!decide (j<l.hi)) (fillH l s (L.filter fun j=>decide (j<l.hi)) (fV h ((FT.node l r).root s) (some i)))):=rfl;obtain⟨c,cx⟩:∃c,c=l.hi:=⟨_,rfl⟩;obtain⟨kl,cs⟩:∃kl,kl=l.root s:=⟨_,rfl⟩;obtain⟨kr,ct⟩:∃kr,kr=r.root (s+l.size):=⟨_,rfl⟩;rw[<-cx]at O de b3;rw[<-cs]at O x1 bk cw;rw[<-ct]at x2 bl cG;clear cx cs ct cN
   go_upto_region 5 with fail
   have cy:(i::L).length=n+1:=by simp[ap.o]
   have b2:=af cy;clear cy
   go_wp2_with (refine Lf mI cS.o b2.o bx 1 (n+1) (by omega) (ay _) rfl _ _ _ rfl rfl rfl rfl ?_;intro cV cD;simp only[Nat.add_sub_cancel])
   have ca:Rd fA w2 cV L:=by
    have y:=Rd.UX cD;rw[<-b2.o,jy]at y;exact y
   have cO:=af ca;clear cD ca;obtain⟨P,cA⟩:∃P,P=w1.heap.size:=⟨_,rfl⟩;have cq:f<w1.heap.size:=bB c9 bY.o.size;rw[<-cA]at aQ x1 x2 an cq |-;clear cA;have dk:tb<w2.heap.size:=a1.o.ED;have db:a6<w2.heap.size:=bB da bX.o.size;have dc:hi<=w2.heap.size:=a1.o.fq.2.2.2.2
   go_loopg [7,8,36] n (fun dl dr ds dq wr=>∃(j:Nat) (ba bb:Value),dq=.int .i64 j/\dr=ba/\ds=bb/\j<=n/\n-j<=dl/\Hid (Below w2.heap.size w2 wr)/\
    Hid (wr.ownsRow w2.heap.size 3 1 ba ((L.take j).filter fun k=>decide (k<c)).length (((L.take j).filter fun k=>decide (k<c)).map fA))/\
    Hid (wr.ownsRow w2.heap.size 3 1 bb ((L.take j).filter fun k=>!decide (k<c)).length (((L.take j).filter fun k=>!decide (k<c)).map fA))/\Hid (∀g,ba.ownBlock=some g->bb.ownBlock≠some g))
   case atStart=>exact⟨0,_,_,rfl,rfl,rfl,bf _,by omega,aB _ _,dz _ _ _ _,dz _ _ _ _,fun g h=>by cases h⟩
   case round=>
    obtain⟨j,ba,bb,rfl,rfl,rfl,cr,dL,u,J,D,I⟩:=hrel;obtain⟨a3,a4,rfl⟩:=fD J.o;obtain⟨av,cb,rfl⟩:=fD D.o;by_cases dN:j<n
    .have aI:j<L.length:=by have:=ap.o;omega
     obtain⟨dw,dO,aw,dF,aE⟩:=(cO.o.below u.o).get (by omega);have bc:=aE j aI;simp only[fA]at bc;have aq:=af (qp (fun k=>decide (k<c)) L aI);have ar:=af (qp (fun k=>!decide (k<c)) L aI);have dd:=bh.o L[j] (kC _ (bN aI));obtain⟨k,ai⟩:∃k,k=L[j]:=⟨_,rfl⟩;rw[<-ai]at bc aq ar dd;have bz:((L.take j).filter fun k=>decide (k<c)).length<=n:=bJ (gK _ _) (by rw[eB];omega);have bA:((L.take j).filter fun k=>!decide (k<c)).length<=n:=bJ (gK _ _) (by rw[eB];omega);generalize(L.take j).filter (fun k=>decide (k<c))=A at*;generalize(L.take j).filter (fun k=>!decide (k<c))=B at*;have aL:=(u.o.cell (p:=(ae tb 3)) dk).trans aL;have x1:=(u.o.cell (p:=(ae P 1)) an).trans x1;have O:=(u.o.cell (p:=(ae a6 (off+kl*7+4))) db).trans O;have bW:=af aw;clear aE ai aw;obtain⟨z,al⟩:∃z,z=A.length:=⟨_,rfl⟩;obtain⟨C,am⟩:∃C,C=B.length:=⟨_,rfl⟩;rw[<-al]at bz J I |-;rw[<-am]at bA D I |-;have a2:Hid (z=A.length/\C=B.length):=⟨al,am⟩;clear al am;have F:∀q,Below w2.heap.size w2 (wr.drewN q)/\(wr.drewN q).ownsRow w2.heap.size 3 1 (.slice a3 z a4) z (A.map fA)/\(wr.drewN q).ownsRow w2.heap.size 3 1 (.slice av C cb) C (B.map fA)/\w2.heap.size<=(wr.drewN q).heap.size:=fun q=>
      ⟨u.o.trans ((Below.bC _ q).mono u.o.size),J.o.bC q,D.o.bC q,u.o.size⟩
     have a0:=af F;clear F;obtain rfl:=bW.o;clear bW J D aI;by_cases dK:k<c
     .have cW:decide ((k:Int)<(c:Int))=true:=by simp;omega
      have bp:decide (k<c)=true:=by simp;omega
      rw[bp]at aq ar
      go_upto_region 8 with fail
      go_quiet (fail)
      obtain⟨f1,f2,f3,f4⟩:=a0.o nq;have S:=af f1;have T:=af f2;have U:=af f3;obtain⟨G,az⟩:∃G,G=wr.drewN nq:=⟨_,rfl⟩;rw[<-az]at S T U f4 |-;clear az f1 f2 f3 a0 aL x1 O bc
      go_wp2_with (at_builtin;refine bZ mI w2.heap.size T.o [.int .i64 k] rfl (by simp[Value.oneCell']) rfl _ _ rfl rfl _ rfl (by unfold maxLen;omega) (by omega) f4 ?_;intro bU w6 bF aG bw)
      go_roundg (n-(j+1))
      case measure=>omega
      case rel=>
       have cH:∀g,(Value.slice av C cb).ownBlock=some g->(Value.slice a3 z a4).ownBlock≠some g:=fun g E w=>I.o g w E;have K:au (fun q=>(Value.slice a3 z a4).ownBlock=some q) G w6:=(au.refl _ G).grown aG (fun q bH=>.inl bH);refine⟨j+1,bU,_,by go_num,rfl,rfl,by omega,ay _,dB S.o T.o aG S.o.size (ay _),?_,?_,?_⟩
       .show World.ownsRow _ _ _ _ _ _ _;rw[aq.o];simp only[gD];rw[bS,bq,<-a2.o.1];exact bF
       .show World.ownsRow _ _ _ _ _ _ _;rw[ar.o];simp only[zN,qg,jA,iE];rw[<-a2.o.2];exact aS U.o K (fun g E w=>cH g E w)
       .intro g e y;rcases gu bw with Z|⟨q,Z,c7⟩
        .exact cH g y (Z▸e)
        .rw[Z]at e;injection e with e;have:=(U.o.lt g y).2;omega
     .have cW:decide ((k:Int)<(c:Int))=false:=by simp;omega
      have bp:decide (k<c)=false:=by simp;omega
      rw[bp]at aq ar
      go_upto_region 8 with fail
      go_quiet (fail)
      obtain⟨f1,f2,f3,f4⟩:=a0.o nq;have S:=af f1;have T:=af f2;have U:=af f3;obtain⟨G,az⟩:∃G,G=wr.drewN nq:=⟨_,rfl⟩;rw[<-az]at S T U f4 |-;clear az f1 f2 f3 a0 aL x1 O bc
      go_wp2_with (at_builtin;refine bZ mI w2.heap.size U.o [.int .i64 k] rfl (by simp[Value.oneCell']) rfl _ _ rfl rfl _ rfl (by unfold maxLen;omega) (by omega) f4 ?_;intro bU w6 bF aG bw)
      go_roundg (n-(j+1))
      case measure=>omega
      case rel=>
       have K:au (fun q=>(Value.slice av C cb).ownBlock=some q) G w6:=(au.refl _ G).grown aG (fun q bH=>.inl bH);refine⟨j+1,_,bU,by go_num,rfl,rfl,by omega,ay _,dB S.o U.o aG S.o.size (ay _),?_,?_,?_⟩
       .show World.ownsRow _ _ _ _ _ _ _;rw[aq.o];simp only[qg,jA,iE];rw[<-a2.o.1];exact aS T.o K (fun g E w=>I.o g E w)
       .show World.ownsRow _ _ _ _ _ _ _;rw[ar.o];simp only[Bool.not_false,gD];rw[bS,bq,<-a2.o.2];exact bF
       .intro g e y;rcases gu bw with Z|⟨q,Z,c7⟩
        .exact I.o g e (Z▸y)
        .rw[Z]at y;injection y with y;have:=(T.o.lt g e).2;omega
    .obtain rfl:j=n:=by omega
     have cf:L.take j=L:=by rw[ap.o,jy]
     rw[cf]at J D I |-;have cP:Hid (dm wr lo hi tb fb R (fV h ((FT.node l r).root s) (some i)) cnt V):=a1.o.below u.o dc;have cL:Hid (au (fun k=>V.hv.ownBlock=some k) W wr):=b0.o.below u.o;have cg:∀k∈L.filter (fun k=>decide (k<c)),k<=1000000:=fun k ai=>bh.o k (kC _ (bK.1 ai).1);have ci:∀k∈L.filter (fun k=>!decide (k<c)),k<=1000000:=fun k ai=>bh.o k (kC _ (bK.1 ai).1);have bz:(L.filter fun k=>decide (k<c)).length<=j:=bJ (gK _ _) (by rw[ap.o];exact ay _);have bA:(L.filter fun k=>!decide (k<c)).length<=j:=bJ (gK _ _) (by rw[ap.o];exact ay _);generalize L.filter (fun k=>decide (k<c))=A at*;generalize L.filter (fun k=>!decide (k<c))=B at*;have x1:=(u.o.cell (p:=(ae P 1)) an).trans x1;have x2:=(u.o.cell (p:=(ae P 2)) an).trans x2;have dg:P<wr.heap.size:=bB an u.o.size;obtain⟨du,dx,cX,-,cl,cE⟩:=Rd.aC (enc:=fA) J.o;injection cX with cY cZ c0;subst cY c0;have dI:f<w2.heap.size:=uo cq an;have bT:∀{v:Value} {m:Nat} {X:List Value} {a:Option Addr} {n' b7:Nat} {w':World},w'.ownsRow w2.heap.size 3 1 v m X->v=.slice a n' b7->SB a V.hv:=fun{v m X a n' b7 w'} E w ad e aA=>by
      subst w e;rcases E.2 with⟨Y,-⟩|⟨g,dA,dC,Y,dD,-⟩
      .cases Y
      .injection Y with Y;injection Y with Y;subst Y;rw[bj.o]at aA;injection aA with aA;simp only at aA;omega
     have bg:=af (bk.o A wr _ a3 a4 cP.o cE (by omega) cl (bT J.o rfl) cg);have cJ:=af ci;have cQ:Hid (SB av V.hv):=bT D.o rfl;clear cf cE J bT cg ci bk O aL cZ;obtain⟨z,al⟩:∃z,z=A.length:=⟨_,rfl⟩;rw[<-al]at bg cl bz I |-;clear al
     go_wp2_with fail
     refine bg.o.mono ?_;rintro e w6 ⟨rfl,cc,a7⟩;have cz:¬V.hv.ownBlock=some P:=fun e=>by
      rw[bj.o]at e;have e:f=P:=Du e;omega
     have x2:=((cu a7 dg cz).1 2).trans x2;have ce:=aS D.o a7 (fun g E w=>by
      rw[bj.o]at w;have w:f=g:=Du w;have:=(D.o.lt g E).1;omega)
     obtain⟨dv,dy,c1,-,cm,cF⟩:=Rd.aC (enc:=fA) ce;injection c1 with c2 c3 c4;subst c2 c4;have bV:=af (bl.o B w6 _ av cb cc cF (by omega) cm cQ.o cJ.o);have cM:Hid (au (fun k=>V.hv.ownBlock=some k) W w6):=cL.o.trans a7;clear ce cF cc a7 cz bg bl D c3;obtain⟨C,am⟩:∃C,C=B.length:=⟨_,rfl⟩;rw[<-am]at bV cm bA I |-;clear am
     go_wp2_with fail
     refine bV.o.mono ?_;rintro e dt ⟨rfl,cd,b9⟩;have bi:Hid (A7 W lo hi tb fb R (fillH (.node l r) s (i::L) h) cnt V (.returned (.tuple #[])) dt):=by
      rw[b3.o];exact⟨rfl,cd,cM.o.trans b9⟩
     clear cd b9;go_wp2
     go_end0
     exact bi.o
theorem Lg {lo hi tb fb:Nat} {R:List Pt} {cnt:Int} {V:mr} (o:R.length<=20000):∀(t:FT) (s:Nat),FT.At (aU R.length) t s->t.wf->t.hi<=R.length->∀(L:List Nat) (W:World) (h:iy) (b:Option Addr) (c:Nat),
  dm W lo hi tb fb R h cnt V->Rd fA W b L->L.length<=20000->L.length<=c->SB b V.hv->(∀i∈L,i<=1000000)->
  aH 101 #[ah tb,aa (t.root s:Nat),.slice b L.length c] W (A7 W lo hi tb fb R (fillH t s L h) cnt V):=by
 intro t
 induction t with
 |leaf a=>exact fun s m k n L W h b c H hp d f g j=>A8 o _ s m k n L W h b c H hp d f g j (fun l r e=>by cases e)
 |node l r p q=>
  intro s m k n L W h b c H hp d f g j;refine A8 o _ s m k n L W h b c H hp d f g j fun l' x e=>?_;cases e;have u:=FT.eQ r k.2.1;have v:=k.2.2;have w:(FT.node l r).hi=r.hi:=rfl;exact⟨fun L W h b c H hp d f g j=>p s m.left k.1 (by omega) L W h b c H hp d f g j,fun L W h b c H hp d f g j=>q _ m.right k.2.1 (by omega) L W h b c H hp d f g j⟩
theorem FY:∃i,Tryz.prog.info? 3=some i/\i.zero=some (.int .i64 0)/\i.size=1/\i.bytes=8:=by
 have h:(Tryz.prog.info? 3).map (fun i=>(i.zero,i.size,i.bytes))=some (some (.int .i64 0),1,8):=by kernel_rfl
 cases hi:Tryz.prog.info? 3 with
 |none=>rw[hi]at h;cases h
 |some i=>rw[hi]at h;injection h with h;injection h with b a;injection a with a c;exact⟨i,rfl,b,a,c⟩
theorem FZ:(Tryz.prog.info? 3).map (·.size)=some 1:=by
 have⟨i,a,c,b,d⟩:=FY;rw[a];simp[b]
theorem JU (n:Nat) (d:n<=1000000) (W:World):(Instr.makeSlice 148 (.int .i64 n) (.int .i64 n)).run prog W=.ok (aj W.heap.size n n) (W.alloc (.cells (madeCells #[aa 0] n) 3)):=by
 have⟨i,hi,c,b,a⟩:=FY;have h:=run_make (P:=prog) W 148 3 i (.int .i64 0) underlying148 hi c .i64 .i64 n n (by omega) (uw _) (by rw[a];omega) (by omega);rw[h,gN,b,iF];rfl
theorem A9 (W:World) (n:Nat):(W.alloc (.cells (madeCells #[aa 0] n) 3)).heap[W.heap.size]? =some (.cells (List.replicate n (aa 0)).toArray 3 (0,0)):=by
 rw[di];congr 2;apply Array.ext';rw[toList_madeCells_one]
theorem CE {w:World} {base g n:Nat} {xs:List Value} (c:w.heap[g]? =some (.cells xs.toArray 3 (0,0))) (b:base<=g) (a:xs.length=n) (d:n<=maxLen):w.ownsRow base 3 1 (aj g n n) n xs:=
 ⟨by simpa using a,.inr ⟨g,n,xs.toArray,rfl,b,c,ay _,d,by simpa using a,by rw[iF];exact jQ (by simp;omega)⟩⟩
theorem sV {P:Program} {ops:Array Oper} {o:Oper} {a:Act} {C:World->Prop} {b:Bool} {K:Act->Prop} {E0:Prop} {sz:Nat} {t e:TypeId} {bytes:Nat} (r:eH P t e sz bytes) (ad:Option Addr) (n c lo hi:Nat) (p:lo<=hi) (q:hi<=c)
  (s:o.guard=none) (x:Operand) (m f:Option Operand) (j:o.op=.slice t x m f none) (l:a.eval x=.slice ad n c) (g:(m.map a.eval).getD (.int .i64 0)=.int .i64 lo) (d:(f.map a.eval).getD (.int .i64 n)=.int .i64 hi)
  (h:K (a.put o.dst (.slice (if c=lo then ad else ad.map (·.add (lo*sz))) (hi-lo) (c-lo)))):
  if Region.wanted o (yielded ops a.tmps)=true then Oper.fo P o a C b K else E0:=by
 have y:Region.wanted o (yielded ops a.tmps)=true:=by simp[Region.wanted,s]
 rw[aK y];obtain⟨ht,⟨i,z,u,D,v,A,E⟩,B⟩:=r;have hu:∀W',(underlying t).run P W'=.ok (.slice e) W':=fun W'=>oJ ht W';have k:∀W',(sizeOf e).run P W'=.ok sz W':=fun W'=>by simp[sizeOf,typeInfo,u,v]
 refine⟨_,fun w _=>?_,h⟩;unfold execOp;rcases m with _|lw
 .simp only[kT,l6,oI,oW]at g;obtain rfl:lo=0:=by omega
  rcases f with _|hg
  .simp only[kT,l6,oI,oW]at d;obtain rfl:hi=n:=by omega
   simp[j,l,Instr.sliceAt,Instr.slice,Instr.sliceBounds,hu,k]
  .simp only[aO,gq]at d;simp[j,l,d,Instr.sliceAt,Instr.slice,Instr.sliceBounds,Instr.sliceBound,hu,k,asIntOf,q]
 .simp only[aO,gq]at g;rcases f with _|hg
  .simp only[kT,l6,oI,oW]at d;obtain rfl:hi=n:=by omega
   simp[j,l,g,Instr.sliceAt,Instr.slice,Instr.sliceBounds,Instr.sliceBound,hu,k,asIntOf,p]
  .simp only[aO,gq]at d;simp[j,l,g,d,Instr.sliceAt,Instr.slice,Instr.sliceBounds,Instr.sliceBound,hu,k,asIntOf,p,q]
def rG (M k:Nat):List Value:=List.replicate k (.int .i64 (-1))++List.replicate (M-k) (.int .i64 0)
theorem F3 {M k:Nat} (h:k<=M):(rG M k).length=M:=by simp[rG];omega
theorem Lh (M:Nat):rG M 0=List.replicate M (.int .i64 0):=by simp[rG]
theorem Li (M:Nat):rG M M=List.replicate M (.int .i64 (-1)):=by simp[rG]
theorem yH {M k m:Nat} (h:k+m<=M):splice (rG M k) k (List.replicate m (.int .i64 (-1)))=rG M (k+m):=by
 unfold splice rG;rw[CV (by simp),jQ (by simp),gX,List.drop_append];rw[nL (by simp),fK,List.drop_replicate,gX,<-dW,List.replicate_append_replicate];congr 2;omega
theorem NN {M k j:Nat} (h:j<k):(rG M k)[j]? =some (.int .i64 (-1)):=by
 unfold rG;rw[kY (by simpa using h),qB,aK h]
theorem NP (w:World) (b M:Nat) (r:w.heap[b]? =some (.cells #[aa (-1)] 3 (0,0))) (ac:M<=1000000):
  aH 100 #[aj b 1 1,aa M] w fun e w'=>∃v,e=.returned v/\w'.ownsRow w.heap.size 3 1 v M (List.replicate M (.int .i64 (-1)))/\Below w.heap.size w w':=by
 have an:=JU M ac;have n:=af (fun W=>Tryz.bits_Mul 1 M (by omega) (by omega) W);have p:1*M/18446744073709551616=0:=by omega
 have q:1*M%18446744073709551616=M:=by omega
 rw[p,q]at n;have z:=af (A9 w M);have ah:b<w.heap.size:=(aZ.1 r).1;have L:(w.alloc (.cells (madeCells #[aa 0] M) 3)).cell? (ae b 0)=some (aa (-1)):=by
  have d:=(bY w (.cells (madeCells #[aa 0] M) 3) _ ah).trans r;simp[World.cell?,d]
 have A:=af L;have d0:decide ((M:Int)<0)=false:=by simp
 have d3:decide ((M:Int)>9223372036854775807)=false:=by simp;omega
 have d4:decide ((9223372036854775807:Int)<(M:Int))=false:=by simp;omega
 have d5:decide (9223372036854775807<M)=false:=by simp;omega
 clear p q r L;go_enter func100,ntmps100
 go_wp2_with fail
 refine(n.o w).mono ?_;rintro e w' ⟨rfl,ab⟩;subst ab
 go_upto_region 7 with fail
 obtain⟨w1,c⟩:∃w1,w1=w'.alloc (.cells (madeCells #[aa 0] M) 3):=⟨_,rfl⟩;obtain⟨g,f⟩:∃g,g=w'.heap.size:=⟨_,rfl⟩;have G:Below w'.heap.size w' w1:=by rw[c];exact(aB _ _).alloc (ay _) _
 have t:w'.heap.size<=g:=xm f.symm;have Q:w1.heap[g]? =some (.cells (rG M 0).toArray 3 (0,0)):=by rw[c,f,Lh];exact z.o
 have B:Hid (w1.cell? (ae b 0)=some (aa (-1))):=by rw[c];exact A.o
 have aC:b≠g:=by omega
 rw[<-c,<-f];have F:=af Q;have y:=af G;clear c an z A n Q G f d0 d3 d4 d5;obtain⟨m,i⟩:∃m,m=Nat.min 1 M:=⟨_,rfl⟩;have D:=af i;have am:m<=M:=by rw[i];exact Nat.min_le_right _ _
 have P:0<M->0<m:=fun h=>by rw[i];exact Nat.lt_min.2 ⟨by omega,h⟩
 have X:=af P;clear i P;have ht:∀j v,(List.replicate m (aa (-1)))[j]? =some v->w1.cell? (((ae b 0):Addr).add j)=some v:=fun j v h=>by
  rw[qB]at h;split at h
  .rename_i ai;injection h with h;have:j=0:=by have aq:=D.o;have d:Nat.min 1 M<=1:=Nat.min_le_left _ _;omega
   subst this;rw[<-h];simpa[Addr.add]using B.o
  .cases h
 have E:=af ht;clear ht
 go_wp2_with (refine wpList_copy_splice rfl _ _ _ _ rfl 3 underlying148 FZ _ _ _ _ _ _ rfl rfl g 0 (rG M 0) 3 F.o (List.replicate m (.int .i64 (-1))) (by rw[gX];exact D.o) (fun _=>⟨rfl,_,rfl,E.o⟩) (by rw[gX,F3 (by omega)];omega) (fun v u=>by rw[List.eq_of_mem_replicate u];rfl) w'.heap.size w' y.o t ?_;intro w2 N H;simp only[gX,goInt];rw[yH (M:=M) (k:=0) (m:=m) (by omega),jU]at N;have R:=af H;clear H)
 clear F y E B
 go_loopg [8] M (fun ao ap wr=>∃k:Nat,ap=.int .i64 k/\k<=M/\M-k<=ao/\Hid (0<M->0<k)/\Hid (wr.heap[g]? =some (.cells (rG M k).toArray 3 (0,0)))/\Hid (Below w'.heap.size w' wr))
 case atStart=>exact⟨m,rfl,am,by omega,X,N,R⟩
 case round=>
  obtain⟨k,rfl,ar,au,Y,C,x⟩:=hrel;by_cases av:k<M
  .have al:=Y.o (by omega);obtain⟨m2,l⟩:∃m2,m2=Nat.min k (M-k):=⟨_,rfl⟩;have aw:k+m2<=M:=by have d:Nat.min k (M-k)<=M-k:=Nat.min_le_right _ _;omega
   have ax:0<m2:=by rw[l];exact Nat.lt_min.2 ⟨al,by omega⟩
   have az:m2<=k:=by rw[l];exact Nat.min_le_left _ _
   have V:=af l;have Z:Hid (∀W:World,W.heap[g]? =some (.cells (rG M k).toArray 3 (0,0))->∀j v,(List.replicate m2 (aa (-1)))[j]? =some v->W.cell? (((ae g 0):Addr).add j)=some v):=fun W ad j v h=>by
    rw[qB]at h;split at h
    .rename_i ai;have d:=NN (M:=M) (k:=k) (j:=j) (by omega);rw[<-h];have ag:((ae g 0):Addr).add j=(ae g j):=by unfold Addr.add;split<;>simp_all
     rw[ag];simp[World.cell?,ad,d]
    .cases h
   clear l;have p:decide ((k:Int)<(M:Int))=true:=by simp;omega
   have q:decide (k<M)=true:=by simp;omega
   go_upto_region 9 with fail
   refine ak (fun _=>True) [7,8,9] [(0,false),(1,false),(2,false),(3,false),(4,false),(5,false),(6,false)] trivial 3 ?_;simp only[bn,aX,aY,aW,aN,aM,aO]
   iterate 3 (refine aD (fun K a=>?_);go_simp;first|(refine a _ ?_;clear a K)|(apply Exists.intro;refine⟨fun _=>?_,a _ ?_⟩;rfl;clear a K))
   refine aD (fun K a=>?_);refine sV mI (some (ae g 0)) M M k M (by omega) (ay _) rfl _ _ _ rfl rfl rfl rfl (a _ ?_);clear a K;rw[aI (by omega)]
   iterate 2 (refine aD (fun K a=>?_);go_simp;first|(refine a _ ?_;clear a K)|(apply Exists.intro;refine⟨fun _=>?_,a _ ?_⟩;rfl;clear a K))
   refine aD (fun K a=>?_);refine sV mI (some (ae g 0)) M M 0 k (by omega) (by omega) rfl _ _ _ rfl rfl rfl rfl (a _ ?_);clear a K;rw[aI (by omega)];refine aJ ?_;refine aA 7 rfl fun K a=>?_;have s:wr.drew.heap[g]? =some (.cells (rG M k).toArray 3 (0,0)):=C.o;have J:Below w'.heap.size w' wr.drew:=x.o.drew;refine step_copy_splice rfl _ _ _ _ rfl 3 underlying148 FZ (some (ae g k)) (some (ae g 0)) (M-k) (M-k) k M (by simp[Act.eval,Act.put,Addr.add]) (by simp[Act.eval,Act.put,Addr.add]) g k (rG M k) 3 s (List.replicate m2 (.int .i64 (-1))) (by rw[gX];exact V.o) (fun _=>⟨rfl,_,rfl,Z.o _ s⟩) (by rw[gX,F3 (by omega)];omega) (fun v u=>by rw[List.eq_of_mem_replicate u];rfl) w'.heap.size w' J t ?_;intro w3 O I;simp only[gX,goInt];rw[yH (M:=M) (k:=k) (m:=m2) (by omega)]at O;have U:=O;have S:=af I;clear I s J;refine a _ _ (fun _ h=>absurd (by simp) h) ?_;clear a K;refine aF [8,9] _ _ _ (by kernel_rfl) ?_;simp only[pick,aX,aY,aW,aN,aM];go_wp2
   go_roundg (M-(k+m2))
   case measure=>omega
   case rel=>exact⟨k+m2,by go_num,by omega,ay _,fun _=>by omega,U,S⟩
  .obtain rfl:k=M:=by omega
   have T:Hid (wr.ownsRow w'.heap.size 3 1 (aj g k k) k (List.replicate k (.int .i64 (-1)))):=by
    have:=C.o;rw[Li]at this;exact CE this t (by simp) (by unfold maxLen;omega)
   go_wp2;go_ret;exact⟨_,rfl,T.o,x.o⟩
theorem IL:∀args w,(callFunc 99 args).run prog w=.ok (.enter 99 args) w:=cK func99 (by kernel_rfl) rfl
theorem PZ {W:World} {tb tc:Nat} {t:Option Addr} {G n:Nat} {R:List Pt} (z:W.cell? (ae tc 0)=some (ah tb)) (w:W.cell? (ae tb 0)=some (.slice t n G)) (s:cz dx 3 W t R) (y:R.length=n) (i j:Nat) (hi:i<n) (J:j<n) (L:n<=1000000):
  aH 99 #[aa i,aa j,ah tc] W fun e w'=>e=.returned (aa (nA (bV R i) (bV R j)))/\wF W w':=by
 have c:i<R.length:=by omega
 have d:j<R.length:=by omega
 obtain⟨V,X,x,M,b⟩:=s.get (by omega);have f:=b i c 0 (by omega);have g:=b i c 1 (by omega);have k:=b i c 2 (by omega);have l:=b j d 0 (by omega);have v1:=b j d 1 (by omega);have m:=b j d 2 (by omega);simp only[dx,aM,aN,dM]at f g k l v1 m;rw[<-dF c]at f g k;rw[<-dF d]at l v1 m;subst x;clear b c d s y;generalize bV R i=p at*;generalize bV R j=q at*;have u:=af (fun W=>Rp p q W);generalize nA p q=U at*;obtain⟨B,C,A⟩:=p;obtain⟨E,F,D⟩:=q;simp only at f g k l v1 m;have H:=ag z;have I:=ag w;have N:=ag f;have O:=ag g;have P:=ag k;have Q:=ag l;have S:=ag v1;have T:=ag m;go_enter func99,ntmps99
 go_upto_region 1 with fail
 refine ak (fun W'=>∃p:aT W,W'=p.W) [14,15] [(0,true),(1,false),(2,false),(3,true),(4,false),(5,false),(6,true),(7,true),(8,false),(9,false),(10,true),(11,false),(12,false),(13,true)] ⟨⟨_,(aB _ _).drew⟩,rfl⟩ 2 ?_;simp only[bn,aX,aY,aW,aN,aM,aO]
 repeat(refine aD (fun K a=>?_);go_simp;first|(refine a _ ?_;clear a K)|(apply Exists.intro;refine⟨fun _=>?_,a _ ?_⟩;rfl;clear a K))
 refine aJ ?_;refine aA 14 rfl fun K a=>?_;refine bg Ak rfl _ _ rfl (vals:=#[iD B C A,iD E F D]) rfl (u.o W.drew) ?_;rintro e w2 ⟨rfl,r⟩;refine⟨_,rfl,a _ _ (fun _ h=>absurd (by simp) h) ?_⟩;clear a K;refine aF [15] _ _ _ (by kernel_rfl) ?_;simp only[pick,aX,aY,aW,aN,aM];have v:Hid (wF W w2):=((wF.refl W).drew).trans r;clear r;go_wp2;go_ret;exact⟨rfl,v.o⟩
theorem Uw (R:List Pt) (n:Nat):SWO (ltOf fun i j:Fin n=>nA (bV R i) (bV R j)):=
 ⟨fun x=>Pp.irrefl (bV R x),fun x y z=>Pp.trans (bV R x) (bV R y) (bV R z),fun x y z=>Pp.ntrans (bV R x) (bV R y) (bV R z)⟩
theorem P5 {w:World} {base g c n tb tc:Nat} {G:Option Addr} {aB:Nat} {R:List Pt} (hu:(ids R).Nodup) (aw:R.Pairwise jV) (ai:R.length=n) (T:0<n) (ak:n<=1000000) (am:w.ownsRow base 3 1 (aj g n c) n ((List.range n).map fA))
  (Q:w.cell? (ae tc 0)=some (ah tb)) (H:w.cell? (ae tb 0)=some (.slice G n aB)) (D:cz dx 3 w G R) (I:tc≠g) (J:tb≠g) (o:∀ad,G=some ad->ad.block≠g):
  aH 98 #[aj g n c,.func (.func 99) #[] #[ah tc]] w fun e w'=>
   e=.returned (.tuple #[])/\w'.ownsRow base 3 1 (aj g n c) n ((dO R).map fA)/\au (fun k=>k=g) w w':=by
 haveI:Inhabited (Fin n):=⟨⟨0,T⟩⟩
 obtain⟨a,aa,z,aG,ag,an,ht⟩:∃a:Array Value,base<=g/\w.heap[g]? =some (.cells a 3 (0,0))/\n<=c/\c<=maxLen/\a.size=c/\a.toList.take n=(List.range n).map fA:=by
  rcases am.2 with⟨e,-⟩|⟨aF,aC,a,e,E,F,ay,az,aM,aA⟩
  .cases e
  .injection e with f aE S;injection f with f;injection f with f _ _;subst f S;exact⟨a,E,F,ay,az,by omega,by rwa [iF]at aA⟩
 obtain⟨l,A⟩:∃l:List (Fin n),l=List.finRange n:=⟨_,rfl⟩;have r:l.length=n:=by rw[A];simp
 have P:l.map (fun i:Fin n=>(i:Nat))=List.range n:=by rw[A];exact qI (by simp) (fun i I J=>by simp)
 obtain⟨enc,s⟩:∃enc:Fin n->Value,enc=fun i=>fA i.val:=⟨_,rfl⟩;have ac:l.map enc=(List.range n).map fA:=by rw[<-P,uq,s];rfl
 have U:Holds enc w g 0 l.toArray:=holds_of_block z (by rw[r,ht,ac]);have af:g<w.heap.size:=(aZ.1 z).1;have O:∀(m:Nat) (os:Array Obj) (dk:Array (Fin n)),au (fun k=>k=g) w (sortWorld enc w g 0 m dk os):=fun m os dk=>by
  refine⟨rfl,rfl,rfl,?_,fun k aJ B=>?_⟩
  .show w.heap.size<=((w.heap.modify g _)++os).size;simp
  .show((w.heap.modify g _)++os)[k]? =_;rw[wI (by simp;omega),wM,aI (fun e=>B e.symm)]
 have ar:=gW w _ Q;have aq:=gW w _ H;have V:CmpLays1 prog 99 #[ah tc] enc (fun i j:Fin n=>nA (bV R i) (bV R j)) g 0 l.toArray.size w:=fun m os dk _ x y=>by
  have K:=O m os dk;rw[s]at K |-;refine(PZ (((cu K ar I).1 0).trans Q) (((cu K aq J).1 0).trans H) ?_ ai x y x.2 y.2 ak).mono fun e w' ⟨v,q,ax,av⟩=>⟨v,q,ax,av⟩;rcases D with D|⟨b,off,rfl,M,W⟩
  .exact .inl D
  .exact .inr ⟨b,off,rfl,bB M K.size,fun i hi j t=>((cu K M (o _ rfl)).1 _).trans (W i hi j t)⟩
 have u:=Any.slices_SortFunc Tryz.FK enc (fun x=>by rw[s];rfl) (fun i j:Fin n=>nA (bV R i) (bV R j)) (Uw R n) 99 #[ah tc] g 0 c l.toArray w IL V U af (by simp[r];omega);change aH 98 _ _ _ at u;rw[show l.toArray.size=n by simpa using r]at u;refine u.mono ?_;rintro e w' ⟨v,d',m,os,hp,ao,rfl⟩;have C:=q8 (d:=l.toArray) (d':=d') (by rw[show l.toArray.size=n by simpa using r];exact hp);have N:d'.toList.length=n:=by rw[C.length_eq];simpa using r
 have L:=pM aw hu;have X:(d'.toList.map fun i:Fin n=>(i:Nat)).Pairwise (yQ R):=by
  refine dE.2 ?_;have al:d'.toList.Nodup:=C.nodup_iff.2 (by rw[A];simpa using List.nodup_finRange n);have ap:d'.toList.Pairwise fun i j:Fin n=>¬nA (bV R j) (bV R i)<0:=by
   rw[gH];intro i j hi t ab;have aL:d'.size=n:=by simpa using N
   have o:=ao i j (bf _) ab (by simp at t |-;omega);simp at hi t;rw[qO d' j (by omega),qO d' i (by omega)]at o;unfold ltOf at o;simpa using o
  refine List.Pairwise.imp (fun{i j} h=>?_) (ap.and al);have⟨E,F⟩:=h;rw[pK]at E;have B:(i:Nat)≠(j:Nat):=fun e=>F (Fin.ext e);have:=Iq hu (i:=i) (k:=j) (by omega) (by omega) B;unfold jw at this;unfold yQ;unfold sG at*;omega
 have Y:d'.toList.map (fun i:Fin n=>(i:Nat))=dO R:=by
  refine o9 (R:=yQ R) (fun i=>ve _) (fun h h'=>Ci h h') X L.Sw fun i=>?_;rw[(C.map _).mem_iff,L.live,qB];show i∈l.map _↔_;rw[P,ug];constructor
  .intro h;rw[aK (by omega)]
  .intro h;by_cases p:i<R.length
   .omega
   .rw[aI p]at h;cases h
 obtain⟨aD,-,-,-,p⟩:=qR (enc:=enc) (l:=l) (l':=d'.toList) aa z (by omega) ag an (by omega) m os;rw[N]at p;have Z:d'.toList.map enc=(dO R).map fA:=by rw[<-Y,uq,s];rfl
 rw[Z]at p;refine⟨v,?_,O m os d'⟩;simpa[sortWorld]using p
theorem F4 (a:Option Addr) (c:Nat) (l:List Pt) (w:World) (s:cz dx 3 w a l) (O:l.length<=1000000) (x:Gz l):
  aH 97 #[.slice a l.length c] w (eY w (.bool (kQ l))):=by
 have B:=af s;have E:=af x;clear s x;have N:=@run_makeMap prog;go_enter func97,ntmps97;go_wp2
 go_loopw [9] (fun k wr=>∃i:Nat,k=.int .i64 i/\i<=l.length/\Below w.heap.size w wr/\Hid (∃(D:DataW Unit),wr.ownsMap prog 27 (plainElem prog 3) w.heap.size i D/\mR D l i)) (fun k _=>l.length-(intOf k).toNat)
 case atStart=>exact⟨0,rfl,bf _,(aB _ _).alloc (ay _) _,⟨.map [],wR _ _ _ _,[],IsM.empty _ _⟩⟩
 case round=>
  obtain⟨i,rfl,hi,e,HO⟩:=hrel;by_cases g:i<l.length
  .obtain⟨b,off,q,M,f⟩:=(B.o.below e).get (by omega);have K:=f i g 0 (by omega);have x1:=f i g 1 (by omega);have x2:=f i g 2 (by omega);simp only[dx,aM,aN,dM]at K x1 x2;have G:Hid (keyOf prog 27 (.int .u32 l[i].2.2)=some (.int .u32 l[i].2.2)):=xn underlying27 (E.o _ (bN _));obtain⟨D,t,d⟩:=HO.o;have n:=af (d.put g);have L:=e.size;have m:=af q;clear HO f d q;generalize l[i]=p at*;obtain⟨I,J,H⟩:=p;obtain rfl:=m.o;clear m;have h:=t.kept (qc wr (.cells #[aa I,aa J,ai H] 29) none) (by simp)
   go_wp2_with (at_mapUpdate;refine wN _ rfl _ _ _ 26 rfl 27 3 (int_keyed underlying27) underlying26 _ w.heap.size i _ rfl h (by unfold maxLen;omega) _ _ _ rfl rfl G.o _ [] (ui underlying3 (by simp[Lit.wf,IntKind.min,IntKind.max,IntKind.bits,IntKind.signed];omega)) ?_;intro w3 u r)
   have y:Below w.heap.size wr w3:=(((aB _ wr).alloc (by omega) _)).grown r (by simp;omega) (fun j F=>by cases F;omega);have A:Hid (∃(D:DataW Unit),w3.ownsMap prog 27 (plainElem prog 3) w.heap.size (i+1) D/\mR D l (i+1)):=⟨_,u,n.o⟩;have z:=e.trans y;clear u r h t n;go_wp2;go_roundw
   case rel=>exact⟨i+1,by go_num,by omega,z,A⟩
   case measure=>simp[intOf];omega
  .obtain rfl:i=l.length:=by omega
   obtain⟨D,h,d⟩:=HO.o;have v:=d.size;have C:=af v;clear v d HO
   go_wp2_with (at_len;refine wpList_len_own _ rfl _ 26 rfl 27 3 underlying26 _ w.heap.size _ _ rfl h ?_)
   go_ret;exact⟨by rw[C.o];rfl,e⟩
theorem dm.grow {w:World} {lo hi a tb fb:Nat} {R:List Pt} {h:iy} {cnt:Int} {V:mr} (H:dm w lo hi tb fb R h cnt V) (b:hi<=a) (c:a<=w.heap.size):dm w lo a tb fb R h cnt V:=
 ⟨H.blk,⟨H.fq.1,by have:=H.fq.2.1;omega,H.fq.2.2.1,by have:=H.fq.2.2.2.1;omega,c⟩,H.row,H.xs,H.ig,H.iP,H.nE,fun v d g e=>bB (H.top v d g e) b⟩
theorem NQ (n:Nat):GA (fun _=>none) n=List.replicate n (.int .i64 (-1)):=by
 apply qI (by simp[GA]);intro i a b;simp[GA,nG]
theorem NR {w:World} {base n tb tc:Nat} {av:Value} {f:Option Addr} {z:Nat} {R:List Pt} (hu:(ids R).Nodup) (u:R.Pairwise jV) (i:R.length=n) (q:n<=1000000) (b:w.ownsRow base 3 1 av n ((List.range n).map fA))
  (t:w.cell? (ae tc 0)=some (ah tb)) (j:w.cell? (ae tb 0)=some (.slice f n z)) (s:cz dx 3 w f R) (m:∀g,av.ownBlock=some g->tc≠g/\tb≠g/\∀ad,f=some ad->ad.block≠g):
  aH 98 #[av,.func (.func 99) #[] #[ah tc]] w fun e w'=>
   e=.returned (.tuple #[])/\w'.ownsRow base 3 1 av n ((dO R).map fA)/\au (fun k=>av.ownBlock=some k) w w':=by
 by_cases l:n=0
 .subst l;have o:R=[]:=gJ i;subst o;obtain⟨a,c,rfl⟩:=fD b;have h:=GI ({Tryz.FK with}) a c (.func (.func 99) #[] #[ah tc]) w;change aH 98 _ _ _ at h;refine h.mono ?_;rintro e w' ⟨d,rfl⟩;exact⟨d,by simpa[dO,jP]using b,au.refl _ _⟩
 .obtain⟨g,c,rfl,-,-,-,-⟩:=aQ b (by omega);have⟨v,x,y⟩:=m g rfl;refine(P5 hu u i (by omega) q b t j s v x y).mono ?_;rintro e w' ⟨d,r,p⟩;exact⟨d,r,p.mono fun k e=>by subst e;rfl⟩
theorem IM:∀args w,(callFunc 100 args).run prog w=.ok (.enter 100 args) w:=cK func100 (by kernel_rfl) rfl
theorem NS {w:World} {base:Nat} {e:TypeId} {sz:Nat} {a:Option Addr} {n c m:Nat} {xs:List Value} (h:w.ownsRow base e sz (.slice a n c) m xs):∀ad,a=some ad->(Value.slice a n c).ownBlock=some ad.block:=fun ad d=>by
 subst d;rcases h.2 with⟨b,-⟩|⟨g,f,i,b,-⟩
 .cases b
 .injection b with b;injection b with b;subst b;rfl
def Es (w:World) (R:List Pt) (e:Ending) (w':World):Prop:=
 ∃tb fb V,e=.returned (.tuple #[ah tb,aa 0])/\dm w' w.heap.size w'.heap.size tb fb R (AP R) R.length V/\Below w.heap.size w w'
structure P6 (w:World) (lo fb tb tc n:Nat) (rv nv fv:Value) (l:List Pt):Prop where
 row:w.ownsRow lo 29 3 rv n (l.flatMap dx)
 iP:w.ownsRow lo 163 7 nv (aU n).length ((aU n).flatMap nU)
 ig:mQ w lo fb n fv
 JV:w.heap[tc]? =some (.cells #[ah tb] 87 (0,0))
 OT:lo<=fb
theorem P6.kept {S:Nat->Prop} {w w':World} {lo fb tb tc n:Nat} {s r p:Value} {l:List Pt} (h:P6 w lo fb tb tc n s r p l) (K:au S w w') (hS:∀k,k<w.heap.size->S k->∃cs t fr,w.heap[k]? =some (.cells cs t fr)/\t≠29/\t≠163/\t≠236/\t≠87):P6 w' lo fb tb tc n s r p l:=by
 have blk:∀{b:Nat} {m:Array Value} {j:TypeId} {o:Nat×Nat},w.heap[b]? =some (.cells m j o)->(∀cs t fr,w.heap[b]? =some (.cells cs t fr)->S b->t≠j)->w'.heap[b]? =some (.cells m j o):=fun q v=>bF K q fun u=>v _ _ _ q u rfl;refine⟨og h.row K fun k g f=>?_,og h.iP K fun k g f=>?_,⟨bF K h.ig.blk fun f=>?_,og h.ig.row K fun k g f=>?_⟩,bF K h.JV fun f=>?_,h.OT⟩
 .obtain⟨cs,t,fr,a,b,c,d,e⟩:=hS k g f;exact⟨cs,t,fr,a,b⟩
 .obtain⟨cs,t,fr,a,b,c,d,e⟩:=hS k g f;exact⟨cs,t,fr,a,c⟩
 .have i:=(aZ.1 h.ig.blk).1;have⟨cs,t,fr,a,b,c,d,e⟩:=hS fb i f;have:=a.symm.trans h.ig.blk;injection this with this;injection this with _ this _;exact d this
 .obtain⟨cs,t,fr,a,b,c,d,e⟩:=hS k g f;exact⟨cs,t,fr,a,c⟩
 .have i:=(aZ.1 h.JV).1;have⟨cs,t,fr,a,b,c,d,e⟩:=hS tc i f;have:=a.symm.trans h.JV;injection this with this;injection this with _ this _;exact e this
theorem Ba {w:World} {base:Nat} {e:TypeId} {sz:Nat} {v:Value} {n:Nat} {xs:List Value} (h:w.ownsRow base e sz v n xs) {k:Nat} (a:v.ownBlock=some k):∃cs fr,w.heap[k]? =some (.cells cs e fr):=by
 rcases h.2 with⟨rfl,-⟩|⟨g,c,d,rfl,-,b,-⟩
 .cases a
 .injection a with a;subst a;exact⟨_,_,b⟩
theorem IP (a:Option Addr) (c:Nat) (l:List Pt) (w:World) (bq:cz dx 3 w a l) (dH:l.length<=20000) (dd:Gz l) (hu:kQ l=true):
  aH 37 #[.slice a l.length c] w (Es w (eO l)):=by
 have a1:=F4 a c l w bq (by omega) dd;rw[hu]at a1;have ee:=af bq;obtain⟨n,br⟩:∃n,n=l.length:=⟨_,rfl⟩;have cr:=af (fun W (cb:Below w.heap.size w W)=>nW a l n c W br.symm (bq.below cb) (by omega));have cD:=af br;rw[<-br]at dH a1 |-;have am:=af (fun W=>xE n (by omega) W);clear br bq;have d1:decide ((n:Int)>2147483648)=false:=by simp;omega
 have d2:decide ((2147483648:Int)<(n:Int))=false:=by simp;omega
 have d3:decide (2147483648<n)=false:=by simp;omega
 have cZ:(ids l).Nodup:=by unfold kQ at hu;simpa using hu
 have bN:=af cZ;clear cZ hu dd;go_enter func37,ntmps37
 go_wp2_with (go_at_call 97;refine a1.mono ?_;rintro e w1 ⟨rfl,bj⟩;clear a1)
 go_wp2_with fail
 refine(am.o w1).mono ?_;rintro e w2 ⟨rfl,a6⟩;have ap:Hid (Below w.heap.size w w2):=by rw[a6];exact bj.alloc bj.size _
 have bI:Hid (w2.heap[w1.heap.size]? =some (kK 0 0 (aG) n)):=by rw[a6];exact di w1 _
 obtain⟨fb,cf⟩:∃fb,fb=w1.heap.size:=⟨_,rfl⟩;have bo:w.heap.size<=fb/\fb<w2.heap.size:=by rw[a6,cf];exact⟨bj.size,by simp⟩
 rw[<-cf]at bI |-;clear a6 bj cf am
 go_wp2_with fail
 refine(cr.o w2 ap.o).mono ?_;rintro e w3 ⟨ep,rfl,ck,cc⟩;have ce:=(cc.block fb bo.2).trans bI.o;have bC:Hid (Below w.heap.size w w3):=ap.o.trans (cc.mono ap.o.size);have cE:=af (bL ck ap.o.size);have ct:=af (gy fb n (by omega) w3 ce);have cy:=af ce;obtain⟨r,q,rfl⟩:=fD ck;clear ck cc ce cr bI ap
 go_wp2_with fail
 refine ct.o.mono ?_;rintro e w4 ⟨D,dY,rfl,iU,ch,cV,A⟩;have cl:=bC.o.size;have cF:Hid (w4.ownsRow w.heap.size 29 3 (.slice r n q) n (l.flatMap dx)):=Ia cE.o (by decide) cy.o A;have bK:Hid (mQ w4 w.heap.size fb n D):=⟨cV,bL iU cl⟩;have cC:Hid (w4.ownsRow w.heap.size 163 7 dY (aU n).length ((aU n).flatMap nU)):=bL ch cl;have F:Hid (Below w.heap.size w w4):=bC.o.trans (A.toBelow cl (fun k h=>by have:=bo.1;omega));obtain⟨u,nc,rfl⟩:=fD ch;obtain⟨M,be⟩:∃M,M=(aU n).length:=⟨_,rfl⟩;have bR:=af be;have ef:M<=40000:=by rw[be,dh];omega
 rw[<-be];clear iU ch cV A ct be cE cy bC
 go_upto_region 9 with fail
 obtain⟨wc,az⟩:∃wc,wc=(w4.alloc (.cells #[.slice r n q,aG,ah fb,.slice u M nc,aG,aa n] 155)).alloc (.cells #[ah w4.heap.size] 87):=⟨_,rfl⟩;have cd:Below w4.heap.size w4 wc:=by rw[az];exact((aB _ _).alloc (ay _) _).alloc (by simp) _
 obtain⟨tb,aV⟩:∃tb,tb=w4.heap.size:=⟨_,rfl⟩;have cR:wc.heap[tb]? =some (Lb (.slice r n q) (aG) fb (.slice u M nc) (aG) n):=by rw[az,aV];exact Dz w4 _ _
 have bh:wc.heap[tb+1]? =some (.cells #[ah tb] 87 (0,0)):=by rw[az,aV];exact xx w4 _ _
 rw[<-az,<-aV];have U:Hid (P6 wc w.heap.size fb tb (tb+1) n (.slice r n q) (.slice u M nc) D l):=by
  have K:au (fun _=>False) w4 wc:=(au.refl _ w4).below cd;exact⟨aS cF.o K (fun _ _ h=>h),by rw[<-bR.o];have:=aS cC.o K (fun _ _ h=>h);rwa [<-bR.o]at this,⟨bF K bK.o.blk (fun h=>h),aS bK.o.row K (fun _ _ h=>h)⟩,bh,bo.1⟩
 have aq:=af cR;have bA:Hid (Below w.heap.size w wc):=F.o.trans (cd.mono F.o.size);have dU:w.heap.size<=tb:=by rw[aV];exact F.o.size
 obtain⟨tc,N⟩:∃tc,tc=tb+1:=⟨_,rfl⟩;rw[<-N]at U bh |-;clear az cd cR cF bK cC F aV N;have co:=(aZ.1 aq.o).1;have cw:=af (xL cD.o.symm (by omega) U.o.row bN.o);have cS:=aq.o;have b3:wc.cell? (ae tb 0)=some (.slice r n q):=by simp[World.cell?,cS]
 have t0:wc.cell? (ae tc 0)=some (ah tb):=by simp[World.cell?,bh]
 clear cS bh
 go_wp2_with fail
 refine cw.o.mono ?_;rintro e w4 ⟨rfl,c0,A⟩;have cO:P6 w4 w.heap.size fb tb tc n (.slice r n q) (.slice u M nc) D (eO l):=by
  have h:=U.o;have j:=h.kept (S:=fun k=>(Value.slice r n q).ownBlock=some k) A;refine⟨c0,og h.iP A fun k y j=>?_,⟨bF A h.ig.blk fun j=>?_,og h.ig.row A fun k y j=>?_⟩,bF A h.JV fun j=>?_,h.OT⟩
  .obtain⟨cs,fr,e⟩:=Ba h.row j;exact⟨cs,_,fr,e,by decide⟩
  .exact bz h.row h.ig.blk (by decide) fb j rfl
  .obtain⟨cs,fr,e⟩:=Ba h.row j;exact⟨cs,_,fr,e,by decide⟩
  .exact bz h.row h.JV (by decide) tc j rfl
 have V:Hid (w4.heap[tb]? =some (Lb (.slice r n q) (aG) fb (.slice u M nc) (aG) n)):=bF A aq.o (fun h=>bz U.o.row aq.o (by decide) tb h rfl);have F:Hid (Below w.heap.size w w4):=bA.o.trans (A.toBelow bA.o.size (fun k h=>(U.o.row.lt k h).1));have H:=af cO;have z:(eO l).length=n:=by rw[(dL l).length_eq];exact cD.o.symm
 have cQ:(ids (eO l)).Nodup:=((dL l).map _).nodup_iff.2 bN.o;have a4:Hid ((eO l).Pairwise jV/\(ids (eO l)).Nodup):=⟨fM bN.o,cQ⟩;clear c0 A cO U aq bA cw cQ b3 t0 co;generalize dE:eO l=R at*;clear dE;have co:=(aZ.1 V.o).1;have c8:=(aZ.1 H.o.JV).1;have db:=V.o;have N:=H.o.JV;have b3:w4.cell? (ae tb 0)=some (.slice r n q):=by simp[World.cell?,db]
 have t0:w4.cell? (ae tc 0)=some (ah tb):=by simp[World.cell?,N]
 clear db N
 go_wp2_with fail
 have dI:tc≠tb:=fun e=>by
  have y:=H.o.JV;rw[e,V.o]at y;injection y with y;injection y with _ y _;exact absurd y (by decide)
 go_loopg [7,43] n (fun dX d9 d8 wr=>∃(i:Nat) (cq av:Value),d8=.int .i64 i/\d9=av/\i<=n/\n-i<=dX/\Hid (wr.heap[tb]? =some (Lb (.slice r n q) cq fb (.slice u M nc) (aG) n))/\Hid (wr.ownsRow w4.heap.size 2 1 cq i (((bU R).take i).map (Value.int .i64)))/\Hid (wr.ownsRow w4.heap.size 3 1 av i ((List.range i).map fA))/\Hid (au (fun k=>k=tb) w4 wr))
 case atStart=>exact⟨0,_,_,rfl,rfl,bf _,by omega,V,dz _ _ _ _,dz _ _ _ _,au.refl _ _⟩
 case round=>
  obtain⟨i,cq,av,rfl,rfl,hi,ek,ar,X,T,G⟩:=hrel;by_cases ej:i<n
  .have c3:=aS H.o.row G.o (fun g h j=>bz H.o.row V.o (by decide) g h j.symm);obtain⟨_,_,b7,-,-,aQ⟩:=cz.aC bu (by decide) c3;injection b7 with b4 b5 b6;subst b4;clear b5 b6;obtain⟨b,off,dy,eg,bm⟩:=aQ.get (by omega);have cp:=bm i (by omega) 0 (by omega);have x1:=bm i (by omega) 1 (by omega);have x2:=bm i (by omega) 2 (by omega);simp only[dx,aM,aN,dM]at cp x1 x2;have de:(bU R).take (i+1)=(bU R).take i++[R[i].1]:=by
    have h:i<(bU R).length:=by unfold bU;simp;omega
    rw[dZ h];simp[bU]
   have cI:=af de;subst dy;clear bm aQ de c3;generalize R[i]=p at*;obtain⟨a0,dl,dk⟩:=p;simp only at cI cp x1 x2;have N:=ar.o;have da:=(aZ.1 N).1;have cn:=(G.o.block tc c8 dI).trans H.o.JV;have c9:=(aZ.1 cn).1;obtain⟨s,t,rfl⟩:=fD X.o;obtain⟨aw,ac,rfl⟩:=fD T.o
   go_upto_region 14 with fail
   obtain⟨w6,J⟩:∃w6,w6=wr.alloc (.cells #[aa a0,aa dl,ai dk] 29):=⟨_,rfl⟩;have x:Below wr.heap.size wr w6:=by rw[J];exact(aB _ _).alloc (ay _) _
   have ab:w6.heap[wr.heap.size]? =some (.cells #[aa a0,aa dl,ai dk] 29 (0,0)):=by rw[J];exact di wr _
   have cm:=(x.block tb da).trans N;have c6:=(x.block tc c9).trans cn;have c4:=G.o.size;have c5:=x.size;have al:∀g,(Value.slice s i t).ownBlock=some g->w4.heap.size<=g/\g<wr.heap.size:=fun g h=>X.o.lt g h;have dj:¬(Value.slice s i t).ownBlock=some tb:=fun h=>by have:=(al tb h).1;omega
   have df:¬(Value.slice s i t).ownBlock=some tc:=fun h=>by have:=(al tc h).1;omega
   have dg:¬(Value.slice s i t).ownBlock=some wr.heap.size:=fun h=>by have:=(al _ h).2;omega
   have bt:∀{bk o:Nat} {v:Value},bk<w6.heap.size->¬(Value.slice s i t).ownBlock=some bk->w6.cell? (ae bk o)=some v->∀p:vv (fun k=>(Value.slice s i t).ownBlock=some k) w6,p.W.cell? (ae bk o)=some v:=fun cb hd dc p=>((cu p.h cb hd).1 _).trans dc;have dP:wr.heap.size<w6.heap.size:=(aZ.1 ab).1;have a8:=bt (bB c9 c5) df (o:=0) (v:=ah tb) (by simp[World.cell?,c6]);have b8:=bt (bB da c5) dj (o:=1) (v:=.slice s i t) (by simp[World.cell?,cm]);have dC:=bt dP dg (o:=0) (v:=.int .i64 a0) (by simp[World.cell?,ab]);have bX:=af (ax X.o x);have bw:=af (ax T.o x);have cB:Hid (au (fun k=>k=tb) w4 w6):=G.o.below x;have cG:=af cm;rw[<-J];clear J x ab cm c6 cn N cp x1 x2 bt df dg dj;refine ak (fun W=>∃p:vv (fun k=>(Value.slice s i t).ownBlock=some k) w6,W=p.W) [9,10,11] [(0,true),(1,true),(2,false),(3,false),(4,true),(5,false),(6,true)] ⟨⟨_,(au.refl _ _).drew⟩,rfl⟩ 5 ?_;simp only[bn,aX,aY,aW,aN,aM,aO]
   repeat(refine aD (fun K f=>?_);go_simp;first|(refine f _ ?_;clear f K)|(apply Exists.intro;refine⟨fun _=>?_,f _ ?_⟩;rfl;clear f K))
   refine aJ ?_;refine aA 7 rfl fun K f=>?_;go_simp;refine f _ _ (fun _ _=>⟨⟨_,((au.refl _ w6).alloc _).drew⟩,rfl⟩) ?_;clear f K;refine aA 8 rfl fun K f=>?_;refine bH yT w4.heap.size (w:=(w6.alloc (.cells #[aa a0] 2)).drew) (ax bX.o ((aB _ w6).alloc (ay _) _|>.drew)) [.int .i64 a0] rfl (by simp[Value.oneCell']) rfl (.tmp 52) (.tmp 55) rfl rfl w6.heap.size rfl (kF _ _) (by unfold maxLen;omega) (by omega) (by simp;omega) ?_;intro L I d cj cY ei el;have cX:w6.grownBy d (Value.slice s i t).ownBlock:=dN (bQ ((aB _ w6).alloc (ay _) _|>.drew)) cY;have Y:au (fun k=>(Value.slice s i t).ownBlock=some k) w6 d:=(au.refl _ w6).grown cX (fun k aL=>.inl aL);refine f _ _ (fun _ _=>⟨⟨_,Y⟩,rfl⟩) ?_;clear f K;refine aF [9,10,11] _ _ _ (by kernel_rfl) ?_;simp only[pick,aX,aY,aW,aN,aM];have bs:=bF Y cG.o (fun h=>by have:=(al tb h).1;omega);have d4:d.cell? (ae tb 1)=some (.slice s i t):=by simp[World.cell?,bs]
   have f8:d.frozen? (ae tb 1)=false:=by simp[World.frozen?,bs]
   have cH:Hid ((d.setCell (ae tb 1) (aj L (i+1) I)).heap[tb]? =some (Lb (.slice (some (ae b off)) n q) (aj L (i+1) I) fb (.slice u M nc) (aG) n)):=dA d tb 1 _ _ _ bs;have b2:au (fun k=>k=tb) d (d.setCell (ae tb 1) (aj L (i+1) I)):=(au.refl (fun k=>k=tb) d).set (a:=(ae tb 1)) (aj L (i+1) I) (.inl rfl);have bY:Hid ((d.setCell (ae tb 1) (aj L (i+1) I)).ownsRow w4.heap.size 2 1 (aj L (i+1) I) (i+1) (((bU R).take (i+1)).map (Value.int .i64))):=by
    have ba:=aS (S:=fun k=>k=tb) cj b2 (fun g h j=>by have:=(cj.lt g h).1;omega);show World.ownsRow _ _ _ _ _ _ _;rw[cI.o,bS];exact ba
   have an:=aS bw.o Y (fun g h j=>bD bw.o bX.o (by decide) g h j);have ao:Hid ((d.setCell (ae tb 1) (aj L (i+1) I)).ownsRow w4.heap.size 3 1 (.slice aw i ac) i ((List.range i).map fA)):=aS an b2 (fun g h j=>by have:=(an.lt g h).1;omega);have bP:Hid (au (fun k=>k=tb) w4 (d.setCell (ae tb 1) (aj L (i+1) I))):=((cB.o.mono (S':=fun k=>k=tb\/w4.heap.size<=k) (fun k h=>.inl h)).trans (Y.mono (fun k h=>.inr (al k h).1))).strip.set (a:=(ae tb 1)) _ (.inl rfl);have em:=Y.size;clear Y cX cY cj bs a8 b8 dC bX cG cB al an bw T X ar G b2
   go_upto_region 15 with fail
   obtain⟨P,cK⟩:∃P,P=d.setCell (ae tb 1) (aj L (i+1) I):=⟨_,rfl⟩;rw[<-cK]at cH bY ao bP |-;have dT:w4.heap.size<=P.heap.size:=bP.o.size;clear cK d4 f8
   go_wp2_with (at_builtin;refine bZ mI w4.heap.size ao.o [.int .i64 (i:Nat)] rfl (by simp[Value.oneCell']) rfl _ _ rfl rfl _ rfl (by unfold maxLen;omega) (by omega) dT ?_;intro ea eb dJ dG eh)
   go_roundg (n-(i+1))
   case measure=>omega
   case rel=>
    have b1:au (fun k=>(Value.slice aw i ac).ownBlock=some k) P eb:=(au.refl _ P).grown dG (fun k aL=>.inl aL);refine⟨i+1,_,ea,by go_num,rfl,by omega,ay _,bF b1 cH.o (fun h=>by have:=(ao.o.lt tb h).1;omega),aS bY.o b1 (fun g h j=>bD bY.o ao.o (by decide) g h j),?_,?_⟩
    .show World.ownsRow _ _ _ _ _ _ _;rw[uf,bS];exact dJ
    .exact((bP.o.mono (S':=fun k=>k=tb\/w4.heap.size<=k) (fun k h=>.inl h)).trans (b1.mono (fun k h=>.inr (ao.o.lt k h).1))).strip
  .obtain rfl:i=n:=by omega
   obtain⟨aw,ac,rfl⟩:=fD T.o;have a3:Hid (P6 wr w.heap.size fb tb tc i (.slice r i q) (.slice u M nc) D R):=H.o.kept G.o (fun k y j=>by subst j;exact⟨_,_,_,V.o,by decide,by decide,by decide,by decide⟩);have bE:Hid (Below w.heap.size w wr):=F.o.trans (G.o.toBelow F.o.size (fun k h=>by omega));have bi:=X.o;rw[jQ (by unfold bU;simp;omega)]at bi;have b0:=af bi;have c4:=G.o.size;have bb:=T.o;have bv:=af bb;have aR:=ar.o;have B:=a3.o.JV;have cJ:wr.cell? (ae tb 0)=some (.slice r i q):=by simp[World.cell?,aR]
   have dn:wr.cell? (ae tc 0)=some (ah tb):=by simp[World.cell?,B]
   obtain⟨_,_,b7,-,-,aQ⟩:=cz.aC bu (by decide) a3.o.row;injection b7 with b4 b5 b6;subst b4;clear b5 b6;have aI:∀g,(Value.slice aw i ac).ownBlock=some g->w4.heap.size<=g:=fun g h=>(bb.lt g h).1;have cv:=af (NR a4.o.2 a4.o.1 z (by omega) bb dn cJ aQ (fun g h=>⟨by have:=aI g h;omega,by have:=aI g h;omega,fun ad e ba=>by
    have b9:=NS H.o.row ad e;have:=(H.o.row.lt _ b9).2;have:=aI g h;omega⟩))
   have cx:=af aI;obtain⟨s,t,rfl⟩:=fD bi;clear bi bb aR B aQ aI b3 t0 cJ dn X T G
   go_wp2_with fail
   refine cv.o.mono ?_;rintro e m ⟨rfl,c2,aP⟩;have bT:Hid (P6 m w.heap.size fb tb tc i (.slice r i q) (.slice u M nc) D R):=a3.o.kept aP (fun k y j=>by obtain⟨cs,fr,e⟩:=Ba bv.o j;exact⟨cs,_,fr,e,by decide,by decide,by decide,by decide⟩);have bW:Hid (m.heap[tb]? =some (Lb (.slice r i q) (.slice s i t) fb (.slice u M nc) (aG) i)):=bF aP ar.o (fun h=>by have:=cx.o tb h;omega);have ds:Hid (m.ownsRow w.heap.size 2 1 (.slice s i t) i ((bU R).map (Value.int .i64))):=bL (aS b0.o aP (fun g h j=>bD b0.o bv.o (by decide) g h j)) F.o.size;have bx:=af c2;have bG:Hid (Below w.heap.size w m):=bE.o.trans (aP.toBelow bE.o.size (fun k h=>by have:=cx.o k h;have:=F.o.size;omega));have dW:=(aZ.1 bW.o).1;have eo:=(aZ.1 bT.o.JV).1;have aR:=bW.o;have B:=bT.o.JV;clear c2 aP cv a3 bE b0 bv ar co c8 c4;have a8:=ag (w:=m) (ad:=(ae tc 0)) (v:=ah tb) (by simp[World.cell?,B]);have b8:=ag (w:=m) (ad:=(ae tb 3)) (v:=.slice u M nc) (by simp[World.cell?,aR]);clear aR B
   go_upto_region 18 with fail
   refine ak (fun W=>∃p:aT m,W=p.W) [8,9,10] [(0,true),(2,true),(3,false),(4,false),(5,true),(6,false)] ⟨⟨_,(aB _ _).drew⟩,rfl⟩ 5 ?_;simp only[bn,aX,aY,aW,aN,aM,aO]
   repeat(refine aD (fun K f=>?_);go_simp;first|(refine f _ ?_;clear f K)|(apply Exists.intro;refine⟨fun _=>?_,f _ ?_⟩;rfl;clear f K))
   refine aJ ?_;refine aA 1 rfl fun K f=>?_;obtain⟨w6,J⟩:∃w6,w6=(m.alloc (.cells #[aa (-1)] 3)).drew:=⟨_,rfl⟩;have x:Below m.heap.size m w6:=by rw[J];exact((aB _ _).alloc (ay _) _).drew
   have ab:w6.heap[m.heap.size]? =some (.cells #[aa (-1)] 3 (0,0)):=by rw[J];exact di m _
   go_simp;rw[<-J];clear J;refine f _ _ (fun _ _=>⟨⟨_,x⟩,rfl⟩) ?_;clear f K;refine aA 7 rfl fun K f=>?_;refine bg IM rfl _ _ rfl (vals:=#[aj m.heap.size 1 1,aa M]) rfl (NP w6 m.heap.size M ab (by omega)) ?_;rintro e C ⟨dc,rfl,ci,cT⟩;have Z:Below m.heap.size m C:=x.trans (cT.mono x.size);refine⟨_,rfl,f _ _ (fun _ _=>⟨⟨_,Z⟩,rfl⟩) ?_⟩;clear f K;refine aF [8,9,10] _ _ _ (by kernel_rfl) ?_;simp only[pick,aX,aY,aW,aN,aM];have O:=(Z.block tb dW).trans bW.o;have d0:C.cell? (ae tb 4)=some (aG):=by simp[World.cell?,O]
   have f7:C.frozen? (ae tb 4)=false:=by simp[World.frozen?,O]
   obtain⟨aE,aK,rfl⟩:=fD ci;obtain⟨d,a7⟩:∃d,d=C.setCell (ae tb 4) (.slice aE M aK):=⟨_,rfl⟩;have Q:au (fun k=>k=tb) C d:=by rw[a7];exact(au.refl (fun k=>k=tb) C).set (a:=(ae tb 4)) _ (.inl rfl)
   have a5:au (fun _=>False) m C:=(au.refl _ m).below Z;have cP:P6 C w.heap.size fb tb tc i (.slice r i q) (.slice u M nc) D R:=bT.o.kept a5 (fun k y j=>j.elim);have E:P6 d w.heap.size fb tb tc i (.slice r i q) (.slice u M nc) D R:=cP.kept Q (fun k y j=>by subst j;exact⟨_,_,_,O,by decide,by decide,by decide,by decide⟩);have ca:=eX (aS ds.o a5 (fun _ _ h=>h)) Q O (by decide);have bc:=eX ci Q O (by decide);have cM:=eX (aS bx.o a5 (fun _ _ h=>h)) Q O (by decide);have dQ:m.heap.size<=w6.heap.size:=x.size;have dR:m.heap.size<=C.heap.size:=Z.size;have dS:C.heap.size<=d.heap.size:=Q.size;have en:=bG.o.size;have cA:Hid (dm d w.heap.size d.heap.size tb fb R (fun _=>none) i ⟨.slice r i q,.slice s i t,.slice u M nc,.slice aE M aK,D⟩):=by
    refine⟨by rw[a7];exact dA C tb 4 _ _ _ O,⟨dU,by omega,bo.1,(aZ.1 E.ig.blk).1,ay _⟩,by rw[z];exact E.row,by rw[z];exact ca,by rw[z];exact E.ig,by rw[z];exact E.iP,?_,?_⟩
    .rw[z,<-bR.o,NQ];exact bL bc (by omega)
    .rintro v (rfl|rfl|rfl|rfl|rfl) g e
     .exact(E.row.lt g e).2
     .exact(ca.lt g e).2
     .exact(E.iP.lt g e).2
     .exact(bc.lt g e).2
     .exact(E.ig.row.lt g e).2
   have a2:Hid (Below w.heap.size w d):=(bG.o.trans (Z.mono bG.o.size)).trans (Q.toBelow (by omega) (fun k h=>by omega));have an:=af cM;have bV:=af E.JV;have dV:tc<d.heap.size:=(aZ.1 E.JV).1;have bM:Hid (∀g,(Value.slice aE M aK).ownBlock=some g->m.heap.size<=g):=fun g e=>by have:=(bc.lt g e).1;omega
   clear a8 b8 x ab ci cT Z O Q a5 cP E ca bc cM dQ dR dS
   go_upto_region 19 with fail
   rw[<-a7];clear a7 d0 f7;by_cases cL:i=0
   .have d5:decide ((i:Int)>0)=false:=by simp;omega
    have d6:decide ((0:Int)<(i:Int))=false:=by simp;omega
    have d7:decide (0<i)=false:=by simp;omega
    have cW:AP R=fun _=>none:=by
     have dD:R=[]:=gJ (by omega);subst dD;unfold AP;rw[show dO []=[]from gJ (by rw[jH];rfl),xS]
    have bJ:Hid (Es w R (.returned (.tuple #[ah tb,aa 0])) d):=⟨tb,fb,⟨.slice r i q,.slice s i t,.slice u M nc,.slice aE M aK,D⟩,rfl,by rw[cW,z];exact cA.o,a2.o⟩;have B:=bV.o;have t8:d.cell? (ae tc 0)=some (ah tb):=by simp[World.cell?,B]
    clear cW B cL;go_wp2;go_ret2;exact bJ.o
   .have a9:0<i:=by omega
    have d5:decide ((i:Int)>0)=true:=by simp;omega
    have d6:decide ((0:Int)<(i:Int))=true:=by simp;omega
    have d7:decide (0<i)=true:=by simp;omega
    have bl:Below d.heap.size d d.drew:=(aB _ _).drew;have cg:=cA.o.below bl (ay _);have bp:=cg.ig.blk;rw[z]at bp;have dq:=af (jd fb i a9 (by omega) d.drew (by simp[World.cell?,bp]) (by simp[World.cell?,bp]));obtain⟨dp,ec,ed⟩:=bO 0 i a9;have dF:=eZ 0 i a9;obtain⟨_,_,dt,-,cU,c1⟩:=Rd.aC (enc:=fA) (ax an.o bl);injection dt with du dv dw;subst du dw;have am:=af (Lg (by omega) (dK 0 i) 0 (by rw[z];exact jF i a9) dp (by omega) (dO R) d.drew (fun _=>none) aw ac cg c1 (by rw[jH];omega) cU (fun ad e ba=>by
     have b9:=NS bx.o ad e;have:=(bx.o.lt _ b9).2;have:=bM.o _ ba;omega) (fun k aL=>by have:=(pM a4.o.1 a4.o.2).lt aL;omega))
    rw[jH,z,show(dK 0 i).root 0=2*i-2 by unfold FT.root;omega]at am;have dr:Hid (fillH (dK 0 i) 0 (dO R) (fun _=>none)=AP R):=by show _=_;unfold AP;rw[z]
    have B:=bV.o;have a8:=ag (w:=d) (ad:=(ae tc 0)) (v:=ah tb) (by simp[World.cell?,B]);clear B bp cg dp ec ed dF cU c1 dv cL
    go_upto_region 20 with fail
    refine ak (fun W=>∃p:aT d,W=p.W) [4] [(0,true),(1,false),(3,false)] ⟨⟨_,(aB _ _).drew⟩,rfl⟩ 2 ?_;simp only[bn,aX,aY,aW,aN,aM,aO]
    repeat(refine aD (fun K f=>?_);go_simp;first|(refine f _ ?_;clear f K)|(apply Exists.intro;refine⟨fun _=>?_,f _ ?_⟩;rfl;clear f K))
    refine aJ ?_;refine aA 2 rfl fun K f=>?_;refine bg lS rfl _ _ rfl (vals:=#[ah fb]) rfl dq.o ?_;rintro e w' ⟨rfl,dB⟩;subst dB;refine⟨_,rfl,f _ _ (fun _ _=>⟨⟨_,bl⟩,rfl⟩) ?_⟩;clear f K;refine aF [4] _ _ _ (by kernel_rfl) ?_;simp only[pick,aX,aY,aW,aN,aM]
    go_wp2_with fail
    refine am.o.mono ?_;rintro e P ⟨rfl,cN,bd⟩;have c7:=(bd.block tc (show tc<d.drew.heap.size from dV) (fun h=>by have:=bM.o tc h;omega)).trans (show d.drew.heap[tc]? =_ from bV.o);have t9:P.cell? (ae tc 0)=some (ah tb):=by simp[World.cell?,c7]
    have bJ:Hid (Es w R (.returned (.tuple #[ah tb,aa 0])) P):=by
     refine⟨tb,fb,⟨.slice r i q,.slice s i t,.slice u M nc,.slice aE M aK,D⟩,rfl,?_,?_⟩
     .rw[<-dr.o,z];exact cN.grow (by have:=bd.size;exact this) (ay _)
     .exact(a2.o.trans (bl.mono a2.o.size)).trans (bd.toBelow (by have:=a2.o.size;exact this) (fun k h=>by have:=bM.o k h;omega))
    clear cN bd c7;go_wp2;go_ret2;exact bJ.o
end
section
open Go.RowKit Go.Sort Go.Shelf Go.Lib Go.Maps
def sW (w:World) (lo hi tb n0:Nat) (l:List Pt):Prop:=
 ∃fb R h V,dm w lo hi tb fb R h l.length V/\lK R h/\xW R h l/\R.length=n0/\n0<=20000
def JW (n:Nat):Nat:=6*Lib.bitLen n+1
section
variable {w w':World} {lo hi tb n0:Nat} {l:List Pt}
theorem sW.kept {S:Nat->Prop} (h:sW w lo hi tb n0 l) (K:au S w w') (hS:∀k,lo<=k->k<hi->¬S k):sW w' lo hi tb n0 l:=by
 have⟨fb,R,h,V,a,b⟩:=h;exact⟨fb,R,h,V,a.kept K hS,b⟩
theorem sW.En (h:sW w lo hi tb n0 l):l.length<=n0/\n0<=20000:=by
 have⟨fb,R,h,V,c,a,b,d,e⟩:=h;have:=a.few;have:=b.len;omega
theorem RN (a:Option Addr) (c:Nat) (l:List Pt) (w:World) (j:cz dx 3 w a l) (k:l.length<=20000) (m:Gz l) (hu:kQ l=true):
  aH 37 #[.slice a l.length c] w fun e w'=>∃tb,e=.returned (.tuple #[ah tb,aa 0])/\sW w' w.heap.size w'.heap.size tb l.length l/\Below w.heap.size w w':=
 (IP a c l w j k m hu).mono fun e w' ⟨tb,fb,V,i,b,h⟩=>by
  have g:(ids l).Nodup:=by unfold kQ at hu;simpa using hu
  have f:=fM g;have hid:(ids (eO l)).Nodup:=((dL l).map _).nodup_iff.2 g;have d:(eO l).length=l.length:=(dL l).length_eq;rw[d]at b;exact⟨tb,i,⟨fb,_,_,V,b,(JK f hid).1,(K7 f hid).trans (dL l),d,by omega⟩,h⟩
theorem RO (h:sW w lo hi tb n0 l) (x1 x2 y:Int):
  aH 41 #[ah tb,aa x1,aa x2,aa y] w fun e w'=>∃v,∃c:Nat,e=.returned (.tuple #[v,aa (c:Nat)])/\((vZ l x1 x2 y).length<=c/\c<=2*(vZ l x1 x2 y).length+JW n0)/\w'.ownsRow w.heap.size 27 1 v (vZ l x1 x2 y).length ((vZ l x1 x2 y).map (Value.int .u32))/\Below w.heap.size w w':=by
 have⟨fb,R,h,V,j,a,k,m,p⟩:=h;refine(IG j a (by omega) x1 x2 y).mono ?_;rintro e w' ⟨v,o,g,n⟩;have d:(mF true R h x1 x2 y).1=xX R h x1 x2 y:=by rw[JN a true x1 x2 y];simp
 have⟨i,f⟩:=Iu k x1 x2 y;have b:=Cy a (by omega) true x1 x2 y;rw[d,f,m]at b;rw[d,i,f]at g;refine⟨v,_,o,⟨b.1,?_⟩,g,n⟩;have:=b.2;unfold JW;simp only[gD]at this;omega
end
end
end Go.Proofs.YtkjdbndekceffaaGreat
