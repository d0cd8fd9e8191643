/- Made small by a program. -/
import Derived.Test.YtkjdbndekceffaaGreatX11
set_option linter.unusedSimpArgs false
set_option linter.unusedVariables false
set_option maxRecDepth 100000
set_option maxHeartbeats 16000000
namespace Go.Proofs.YtkjdbndekceffaaGreat
open Tryz
section
open Go Go.RowKit
abbrev iI:=Nat->Option Nat
def gB (h:iI) (k:Nat) (v:Option Nat):iI:=fun j=>if j=k then v else h j
theorem gm (h:iI) (k:Nat) (v:Option Nat):gB h k v k=v:=by simp[gB]
theorem iw {h:iI} {k j:Nat} {v:Option Nat} (e:j≠k):gB h k v j=h j:=by simp[gB,e]
def held (h:iI):FT->Nat->List Nat
 |.leaf _,s=>(h s).toList
 |.node l r,s=>(h ((FT.node l r).root s)).toList++(held h l s++held h r (s+l.size))
theorem bK {h h':iI}:∀(t:FT) (s:Nat),(∀k,s<=k->k<s+t.size->h' k=h k)->held h' t s=held h t s
 |.leaf a,s,e=>by
  show(h' s).toList=(h s).toList;rw[e s (aB _) (by simp[FT.size])]
 |.node l r,s,e=>by
  have f:(FT.node l r).size=l.size+r.size+1:=rfl;have d:(FT.node l r).root s=s+(l.size+r.size+1)-1:=rfl;simp only[held];rw[e _ aa aa,bK l s (fun k b c=>e k b aa),bK r _ (fun k b c=>e k aa aa)]
theorem o8 {h:iI} {t:FT} {s i:Nat} (e:h (t.root s)=some i):∃L,held h t s=i::L:=by
 cases t with
 |leaf a=>exact⟨[],by show(h s).toList=_;rw[show h s=some i from e];rfl⟩
 |node l r=>exact⟨_,by simp only[held];rw[e];rfl⟩
theorem o9 {h:iI}:∀(t:FT) (s:Nat),(∀k,s<=k->k<s+t.size->h k=none)->held h t s=[]
 |.leaf a,s,e=>by
  show(h s).toList=[];rw[e s (aB _) (by simp[FT.size])];rfl
 |.node l r,s,e=>by
  have f:(FT.node l r).size=l.size+r.size+1:=rfl;have d:(FT.node l r).root s=s+(l.size+r.size+1)-1:=rfl;simp only[held];rw[e _ aa aa,o9 l s (fun k b c=>e k b aa),o9 r _ (fun k b c=>e k aa aa)];rfl
def gP (lt:Nat->Nat->Prop) (h:iI):FT->Nat->Prop
 |.leaf a,s=>∀i,h s=some i->i=a
 |.node l r,s=>(∀i,h ((FT.node l r).root s)=some i->(l.lo<=i/\i<r.hi)/\(∀j,j∈held h l s->lt i j)/\∀j,j∈held h r (s+l.size)->lt i j)/\
   (h ((FT.node l r).root s)=none->held h l s=[]/\held h r (s+l.size)=[])/\gP lt h l s/\gP lt h r (s+l.size)
section
variable {lt:Nat->Nat->Prop} {h h':iI}
theorem gP.congr:∀{t:FT} {s:Nat},(∀k,s<=k->k<s+t.size->h' k=h k)->gP lt h t s->gP lt h' t s
 |.leaf a,s,e,g=>by
  intro i hi;rw[e s (aB _) (by simp[FT.size])]at hi;exact g i hi
 |.node l r,s,e,g=>by
  have o:(FT.node l r).size=l.size+r.size+1:=rfl;have n:(FT.node l r).root s=s+(l.size+r.size+1)-1:=rfl;have c:=fun k (b:s<=k) (f:k<s+l.size)=>e k b aa;have d:=fun k (b:s+l.size<=k) (f:k<s+l.size+r.size)=>e k aa aa;have⟨b,f,j,m⟩:=g;refine⟨?_,?_,j.congr c,m.congr d⟩
  .rw[e _ aa aa,bK l s c,bK r _ d];exact b
  .rw[e _ aa aa,bK l s c,bK r _ d];exact f
theorem gP.span:∀{t:FT} {s:Nat},t.wf->gP lt h t s->∀i∈held h t s,t.lo<=i/\i<t.hi
 |.leaf a,s,b,c,i,hi=>by
  have:=c i (by simpa[held]using hi);subst this;simp[FT.lo,FT.hi]
 |.node l r,s,b,c,i,hi=>by
  have⟨d,g,e,f⟩:=c;have j:=FT.fe l b.1;have k:=FT.fe r b.2.1;have m:=b.2.2;simp only[held,bT,AV]at hi;show l.lo<=i/\i<r.hi;rcases hi with hi|hi|hi
  .exact(d i hi).1
  .have:=e.span b.1 i hi;omega
  .have:=f.span b.2.1 i hi;omega
theorem gP.empty:∀{t:FT} {s:Nat},gP lt h t s->h (t.root s)=none->held h t s=[]
 |.leaf a,s,b,e=>by show(h s).toList=[];rw[show h s=none from e];rfl
 |.node l r,s,b,e=>by
  obtain⟨g,f,i,j⟩:=b;obtain⟨c,d⟩:=f e;simp only[held];rw[e,c,d];rfl
theorem gP.first:∀{t:FT} {s i:Nat},gP lt h t s->h (t.root s)=some i->∀j∈held h t s,j=i\/lt i j
 |.leaf a,s,i,c,e,j,hj=>by
  left;have:h s=some j:=by simpa[held]using hj
  rw[show h s=some i from e]at this;injection this with this;exact this.symm
 |.node l r,s,i,c,e,j,hj=>by
  have⟨b,d,f,g⟩:=c;simp only[held,bT,AV]at hj;rcases hj with hj|hj|hj
  .rw[e]at hj;injection hj with hj;exact .inl hj.symm
  .exact .inr ((b i e).2.1 j hj)
  .exact .inr ((b i e).2.2 j hj)
theorem gP.none:∀(t:FT) (s:Nat),(∀k,s<=k->k<s+t.size->h k=Option.none)->gP lt h t s
 |.leaf a,s,e=>by
  intro i hi;rw[e s (aB _) (by simp[FT.size])]at hi;cases hi
 |.node l r,s,e=>by
  have j:(FT.node l r).size=l.size+r.size+1:=rfl;have g:(FT.node l r).root s=s+(l.size+r.size+1)-1:=rfl;have b:=fun k (d:s<=k) (f:k<s+l.size)=>e k d aa;have c:=fun k (d:s+l.size<=k) (f:k<s+l.size+r.size)=>e k aa aa;refine⟨fun i hi=>?_,fun _=>⟨o9 l s b,o9 r _ c⟩,gP.none l s b,gP.none r _ c⟩;rw[e _ aa aa]at hi;cases hi
end
def fillH:FT->Nat->List Nat->iI->iI
 |.leaf _,s,L,h=>match L with
  |[]=>h
  |i::_=>gB h s (some i)
 |.node l r,s,L,h=>match L with
  |[]=>h
  |i::L=>fillH r (s+l.size) (L.filter fun j=>!decide (j<l.hi)) (fillH l s (L.filter fun j=>decide (j<l.hi)) (gB h ((FT.node l r).root s) (some i)))
theorem yT (t:FT) (s:Nat) (h:iI):fillH t s [] h=h:=by cases t<;>rfl
theorem tY:∀(t:FT) (s:Nat) (L:List Nat) (h:iI) (k:Nat),(k<s\/s+t.size<=k)->fillH t s L h k=h k
 |.leaf a,s,[],h,k,b=>rfl
 |.leaf a,s,i::L,h,k,b=>by
  simp only[FT.size]at b;exact iw aa
 |.node l r,s,[],h,k,b=>rfl
 |.node l r,s,i::L,h,k,b=>by
  have d:(FT.node l r).size=l.size+r.size+1:=rfl;have c:(FT.node l r).root s=s+(l.size+r.size+1)-1:=rfl;simp only[fillH];rw[tY r _ _ _ k aa,tY l _ _ _ k aa];exact iw aa
theorem vO {lt:Nat->Nat->Prop}:∀(t:FT) (s:Nat) (L:List Nat) (h:iI),t.wf->L.Pairwise lt->L.Nodup->(∀i∈L,t.lo<=i/\i<t.hi)->(∀k,s<=k->k<s+t.size->h k=none)->
  gP lt (fillH t s L h) t s/\(held (fillH t s L h) t s).Perm L
 |t,s,[],h,m,f,o,p,n=>by
  rw[yT];exact⟨gP.none t s n,by rw[o9 t s n]⟩
 |.leaf a,s,i::L,h,m,f,o,p,n=>by
  simp only[FT.lo,FT.hi]at p;have P:i=a:=by have:=p i ay;omega
  have M:L=[]:=by
   cases L with
   |nil=>rfl
   |cons j L=>
    have:=p j ay;have:i≠j:=(mO.1 o).1|>fun h e=>h (by simp[e]);omega
  subst P M;refine⟨fun j b=>?_,?_⟩
  .simp only[fillH,gm]at b;injection b with b;exact b.symm
  .show((gB h s (some i)) s).toList.Perm _;rw[gm];exact pR _
 |.node l r,s,i::L,h,m,f,o,p,n=>by
  have R:(FT.node l r).size=l.size+r.size+1:=rfl;have Q:(FT.node l r).root s=s+(l.size+r.size+1)-1:=rfl;have S:=FT.fe l m.1;have T:=FT.fe r m.2.1;have U:=m.2.2;rw[lZ]at f;rw[mO]at o;have z:∀j∈i::L,l.lo<=j/\j<r.hi:=p;simp only[fillH];generalize I:gB h ((FT.node l r).root s) (some i)=c;have C:∀k,k≠(FT.node l r).root s->c k=h k:=fun k g=>by rw[<-I];exact iw g
  have K:c ((FT.node l r).root s)=some i:=by rw[<-I];exact gm _ _ _
  generalize v:L.filter (fun j=>decide (j<l.hi))=A;generalize w:L.filter (fun j=>!decide (j<l.hi))=B;have G:∀j,j∈A↔j∈L/\j<l.hi:=fun j=>by rw[<-v];simp
  have H:∀j,j∈B↔j∈L/\¬j<l.hi:=fun j=>by rw[<-w];simp
  have q:=vO (lt:=lt) l s A c m.1 (by rw[<-v];exact f.2.filter _) (by rw[<-v];exact o.2.filter _) (fun j b=>by have:=(G j).1 b;have:=z j (lh _ this.1);omega) (fun k c d=>by rw[C k aa];exact n k c aa);generalize N:fillH l s A c=d at q |-;have D:∀k,(k<s\/s+l.size<=k)->d k=c k:=fun k g=>by rw[<-N];exact tY l s A c k g
  have u:=vO (lt:=lt) r (s+l.size) B d m.2.1 (by rw[<-w];exact f.2.filter _) (by rw[<-w];exact o.2.filter _) (fun j b=>by have:=(H j).1 b;have:=z j (lh _ this.1);omega) (fun k c d=>by rw[D k aa,C k aa];exact n k aa aa);generalize O:fillH r (s+l.size) B d=y at u |-;have E:∀k,(k<s+l.size\/s+l.size+r.size<=k)->y k=d k:=fun k g=>by rw[<-O];exact tY r _ B d k g
  have F:∀k,s<=k->k<s+l.size->y k=d k:=fun k _ g=>E k (.inl g);have x:y ((FT.node l r).root s)=some i:=by rw[E _ aa,D _ aa,K]
  have J:=bK l s F;have hp:(A++B).Perm L:=by rw[<-v,<-w];exact List.filter_append_perm _ L
  refine⟨⟨fun j b=>?_,fun b=>?_,q.1.congr F,u.1⟩,?_⟩
  .rw[x]at b;injection b with b;subst b;refine⟨z i ay,fun j b=>?_,fun j b=>?_⟩
   .rw[J]at b;exact f.1 j ((G j).1 ((q.2.mem_iff).1 b)).1
   .exact f.1 j ((H j).1 ((u.2.mem_iff).1 b)).1
  .rw[x]at b;cases b
  .simp only[held];rw[x,J];exact((q.2.append u.2).trans hp).cons i
def downG (more:Bool) (h:iI) (yv:Nat->Int) (y:Int) (fr ub:Nat):FT->Nat->List Nat×Nat×Bool
 |.leaf a,s=>match h s with
  |none=>([],1,true)
  |some i=>if y<yv i\/a+1<=fr\/ub<=a then([],1,true)else if fr<=i/\i<ub then([i],1,more)else([],1,true)
 |.node l r,s=>match h ((FT.node l r).root s)with
  |none=>([],1,true)
  |some i=>if y<yv i\/r.hi<=fr\/ub<=l.lo then([],1,true)else
   if(fr<=i/\i<ub)/\more=false then([i],1,false)else
   ((if fr<=i/\i<ub then[i]else[])++(downG more h yv y fr ub l s).1++(if(downG more h yv y fr ub l s).2.2 then(downG more h yv y fr ub r (s+l.size)).1 else[]),
    1+(downG more h yv y fr ub l s).2.1+(if(downG more h yv y fr ub l s).2.2 then(downG more h yv y fr ub r (s+l.size)).2.1 else 0),
    (downG more h yv y fr ub l s).2.2&&(downG more h yv y fr ub r (s+l.size)).2.2)
def zH (yv:Nat->Int) (y:Int) (fr ub i:Nat):Bool:=decide (fr<=i/\i<ub/\yv i<=y)
section
variable {lt:Nat->Nat->Prop} {h:iI} {yv:Nat->Int} {y:Int} {fr ub:Nat}
theorem ny {more:Bool} {t:FT} {s:Nat} (e:h (t.root s)=none):downG more h yv y fr ub t s=([],1,true):=by
 cases t with
 |leaf a=>have b:h s=none:=e;simp only[downG];rw[b]
 |node l r=>simp only[downG];rw[e]
theorem mH {more:Bool} {t:FT} {s i:Nat} (e:h (t.root s)=some i) (hp:y<yv i\/t.hi<=fr\/ub<=t.lo):downG more h yv y fr ub t s=([],1,true):=by
 cases t with
 |leaf a=>
  have c:h s=some i:=e;have b:y<yv i\/a+1<=fr\/ub<=a:=hp;simp only[downG];rw[c];simp only;rw[aO b]
 |node l r=>
  have b:y<yv i\/r.hi<=fr\/ub<=l.lo:=hp;simp only[downG];rw[e];simp only;rw[aO b]
theorem vP {more:Bool} {a s i:Nat} (e:h s=some i) (hp:¬(y<yv i\/a+1<=fr\/ub<=a)):downG more h yv y fr ub (.leaf a) s=(if fr<=i/\i<ub then[i]else[],1,!(decide (fr<=i/\i<ub)&&!more)):=by
 simp only[downG];rw[e];simp only;rw[aN hp];by_cases b:fr<=i/\i<ub
 .rw[aO b,aO b];simp[b]
 .rw[aN b,aN b];simp[b]
theorem BZ {t:FT} {s i:Nat} (e:h (t.root s)=some i) (hp:¬(y<yv i\/t.hi<=fr\/ub<=t.lo)) (b:fr<=i/\i<ub):downG false h yv y fr ub t s=([i],1,false):=by
 cases t with
 |leaf a=>
  have c:h s=some i:=e;rw[vP c hp];simp[b]
 |node l r=>
  have d:¬(y<yv i\/r.hi<=fr\/ub<=l.lo):=hp;simp only[downG];rw[e];simp only;rw[aN d];simp[b]
theorem Ca {more:Bool} {l r:FT} {s i:Nat} (e:h ((FT.node l r).root s)=some i) (hp:¬(y<yv i\/r.hi<=fr\/ub<=l.lo)) (b:(decide (fr<=i/\i<ub)&&!more)=false):downG more h yv y fr ub (.node l r) s=
   ((if fr<=i/\i<ub then[i]else[])++(downG more h yv y fr ub l s).1++(if(downG more h yv y fr ub l s).2.2 then(downG more h yv y fr ub r (s+l.size)).1 else[]),
    1+(downG more h yv y fr ub l s).2.1+(if(downG more h yv y fr ub l s).2.2 then(downG more h yv y fr ub r (s+l.size)).2.1 else 0),
    (downG more h yv y fr ub l s).2.2&&(downG more h yv y fr ub r (s+l.size)).2.2):=by
 have c:¬((fr<=i/\i<ub)/\more=false):=fun a=>by
  rw[a.2]at b;simp[a.1]at b
 conv=>lhs;simp only[downG]
 rw[e];simp only;rw[aN hp,aN c]
theorem O5 {more:Bool} {t:FT} {s i:Nat} (e:h (t.root s)=some i) (hp:¬(y<yv i\/t.hi<=fr\/ub<=t.lo)) (b:fr<=i/\i<ub):[i] <+: (downG more h yv y fr ub t s).1:=by
 cases t with
 |leaf a=>
  have c:h s=some i:=e;rw[vP c hp,aO b];exact List.prefix_rfl
 |node l r=>
  cases more with
  |false=>rw[BZ e hp b];exact List.prefix_rfl
  |true=>
   rw[Ca e hp ay,aO b,ed];exact List.prefix_append _ _
theorem Fy {t:FT} {s i:Nat} (d:t.wf) (b:gP lt h t s) (c:∀i j,lt i j->yv i<=yv j) (e:h (t.root s)=some i) (hp:y<yv i\/t.hi<=fr\/ub<=t.lo):(held h t s).filter (zH yv y fr ub)=[]:=by
 refine xO.2 fun j a=>?_;have f:=b.span d j a;have g:yv i<=yv j:=by
  rcases b.first e j a with h3|h3
  .rw[h3];exact vC _
  .exact c _ _ h3
 unfold zH;simp only[bQ];omega
theorem vQ (f:∀i j,lt i j->yv i<=yv j):∀(t:FT) (s:Nat),t.wf->gP lt h t s->(downG true h yv y fr ub t s).1=(held h t s).filter (zH yv y fr ub)/\(downG true h yv y fr ub t s).2.2=true
 |.leaf a,s,d,b=>by
  cases e:h s with
  |none=>rw[ny (t:=.leaf a) e,b.empty e];exact⟨rfl,rfl⟩
  |some i=>
   by_cases hp:y<yv i\/(FT.leaf a).hi<=fr\/ub<=(FT.leaf a).lo
   .rw[mH (t:=.leaf a) e hp,Fy d b f e hp];exact⟨rfl,rfl⟩
   .have w:=b i e;simp only[downG,held];rw[e];have g:¬(y<yv i\/a+1<=fr\/ub<=a):=hp;simp only[aN g,Option.toList];by_cases c:fr<=i/\i<ub
    .rw[aO c];have:zH yv y fr ub i=true:=by unfold zH;simp only[bQ];omega
     simp[this]
    .rw[aN c];have:zH yv y fr ub i=false:=by unfold zH;simp only[gT];omega
     simp[this]
 |.node l r,s,d,b=>by
  cases e:h ((FT.node l r).root s)with
  |none=>rw[ny e,b.empty e];exact⟨rfl,rfl⟩
  |some i=>
   by_cases hp:y<yv i\/(FT.node l r).hi<=fr\/ub<=(FT.node l r).lo
   .rw[mH e hp,Fy d b f e hp];exact⟨rfl,rfl⟩
   .obtain⟨u,v,k,m⟩:=b;have⟨n,o⟩:=vQ f l s d.1 k;have⟨p,q⟩:=vQ f r _ d.2.1 m;have g:¬(y<yv i\/r.hi<=fr\/ub<=l.lo):=hp;simp only[downG,held];rw[e];simp only[aN g,n,o,p,q,Option.toList,mK,l7,ED];by_cases c:fr<=i/\i<ub
    .have:zH yv y fr ub i=true:=by unfold zH;simp only[bQ];omega
     simp[this,c]
    .have:zH yv y fr ub i=false:=by unfold zH;simp only[gT];omega
     simp[this,c]
theorem MC {α:Type} {a b:List α} (h:a≠[]):(a++b).take 1=a.take 1:=by
 cases a with
 |nil=>exact absurd rfl h
 |cons x a=>rfl
theorem yU (g:∀i j,lt i j->yv i<=yv j):∀(t:FT) (s:Nat),t.wf->gP lt h t s->(downG false h yv y fr ub t s).1=((held h t s).filter (zH yv y fr ub)).take 1/\((downG false h yv y fr ub t s).2.2=true↔(held h t s).filter (zH yv y fr ub)=[])
 |.leaf a,s,d,b=>by
  cases e:h s with
  |none=>rw[ny (t:=.leaf a) e,b.empty e];simp
  |some i=>
   by_cases hp:y<yv i\/(FT.leaf a).hi<=fr\/ub<=(FT.leaf a).lo
   .rw[mH (t:=.leaf a) e hp,Fy d b g e hp];simp
   .have A:=b i e;simp only[downG,held];rw[e];have m:¬(y<yv i\/a+1<=fr\/ub<=a):=hp;simp only[aN m,Option.toList];by_cases c:fr<=i/\i<ub
    .rw[aO c];have:zH yv y fr ub i=true:=by unfold zH;simp only[bQ];omega
     simp[this]
    .rw[aN c];have:zH yv y fr ub i=false:=by unfold zH;simp only[gT];omega
     simp[this]
 |.node l r,s,d,b=>by
  cases e:h ((FT.node l r).root s)with
  |none=>rw[ny e,b.empty e];simp
  |some i=>
   by_cases hp:y<yv i\/(FT.node l r).hi<=fr\/ub<=(FT.node l r).lo
   .rw[mH e hp,Fy d b g e hp];simp
   .obtain⟨x,z,o,p⟩:=b;have⟨u,n⟩:=yU g l s d.1 o;have⟨v,w⟩:=yU g r _ d.2.1 p;have m:¬(y<yv i\/r.hi<=fr\/ub<=l.lo):=hp;simp only[downG,held];rw[e];simp only[aN m,Option.toList,mK,l7,ED];by_cases c:fr<=i/\i<ub
    .have:zH yv y fr ub i=true:=by unfold zH;simp only[bQ];omega
     simp[this,c]
    .have:zH yv y fr ub i=false:=by unfold zH;simp only[gT];omega
     simp only[c,false_and,jC,this,fQ,u,v];cases k:(downG false h yv y fr ub l s).2.2 with
     |true=>
      have f:=n.1 k;simp only[gF,Bool.true_and,f,List.take_nil,fQ];exact⟨rfl,w⟩
     |false=>
      have f:(held h l s).filter (zH yv y fr ub)≠[]:=fun q=>by rw[n.2 q]at k;cases k
      simp[f];exact(MC f).symm
theorem vR (more:Bool):∀(t:FT) (s:Nat),(downG more h yv y fr ub t s).1.length<=(downG more h yv y fr ub t s).2.1
 |.leaf a,s=>by
  simp only[downG];split
  .simp
  .split
   .simp
   .split<;>simp
 |.node l r,s=>by
  have b:=vR more l s;have c:=vR more r (s+l.size);simp only[downG];split
  .simp
  .split
   .simp
   .split
    .simp
    .simp only[bS];split<;>split<;>simp<;>omega
theorem qF (more:Bool):∀(t:FT) (s:Nat),(downG more h yv y fr ub t s).2.1<=t.size
 |.leaf a,s=>by
  simp only[downG];split
  .simp[FT.size]
  .split
   .simp[FT.size]
   .split<;>simp[FT.size]
 |.node l r,s=>by
  have b:=qF more l s;have c:=qF more r (s+l.size);have d:(FT.node l r).size=l.size+r.size+1:=rfl;simp only[downG];split
  .simp;omega
  .split
   .simp;omega
   .split
    .simp;omega
    .simp only;split<;>omega
theorem tZ {more:Bool} {m:Nat} (c:m=if more then 2 else 0):∀(t:FT) (s:Nat),t.wf->gP lt h t s->fr<=t.lo->t.hi<=ub->(downG more h yv y fr ub t s).2.1<=m*(downG more h yv y fr ub t s).1.length+1
 |.leaf a,s,b,d,f,g=>by
  simp only[downG];split
  .simp
  .split
   .simp
   .split<;>simp
 |.node l r,s,b,d,f,g=>by
  have k:(FT.node l r).lo=l.lo/\(FT.node l r).hi=r.hi:=⟨rfl,rfl⟩;have q:=FT.fe l b.1;have u:=FT.fe r b.2.1;have v:=b.2.2;cases e:h ((FT.node l r).root s)with
  |none=>rw[ny e];simp
  |some i=>
   have n:=(d.1 i e).1;have j:fr<=i/\i<ub:=aa;simp only[downG];rw[e];simp only;split
   .simp
   .cases more with
    |false=>simp[j]
    |true=>
     have o:=tZ c l s b.1 d.2.2.1 aa aa;have p:=tZ c r (s+l.size) b.2.1 d.2.2.2 aa aa;simp only[gF]at c;subst c;rw[aN ay];simp only[bS,eu,fF];split
     .first|omega|(simp only[bS,eu,fF];omega)
     .first|omega|(simp only[bS,eu,fF];omega)
theorem uf {more:Bool} {t:FT} {s:Nat} (hp:t.hi<=fr\/ub<=t.lo):downG more h yv y fr ub t s=([],1,true):=by
 cases e:h (t.root s)with
 |none=>exact ny e
 |some i=>exact mH e (.inr hp)
theorem ug {more:Bool} {m:Nat} (e:m=if more then 2 else 0):∀(t:FT) (s:Nat),t.wf->gP lt h t s->fr<=t.lo\/t.hi<=ub->(downG more h yv y fr ub t s).2.1<=m*(downG more h yv y fr ub t s).1.length+2*t.ht+1
 |.leaf a,s,b,c,hh=>by
  simp only[downG];split
  .simp
  .split
   .simp
   .split<;>simp
 |.node l r,s,b,c,hh=>by
  have B:(FT.node l r).lo=l.lo/\(FT.node l r).hi=r.hi:=⟨rfl,rfl⟩;have C:=FT.fe l b.1;have D:=FT.fe r b.2.1;have E:=b.2.2;have f:=ug e l s b.1 c.2.2.1;have g:=ug e r (s+l.size) b.2.1 c.2.2.2;have al:=tZ (y:=y) (yv:=yv) (fr:=fr) (ub:=ub) e l s b.1 c.2.2.1;have j:=tZ (y:=y) (yv:=yv) (fr:=fr) (ub:=ub) e r (s+l.size) b.2.1 c.2.2.2;have key:(downG more h yv y fr ub l s).2.1+(downG more h yv y fr ub r (s+l.size)).2.1<=m*(downG more h yv y fr ub l s).1.length+m*(downG more h yv y fr ub r (s+l.size)).1.length+2*(max l.ht r.ht)+2/\(downG more h yv y fr ub l s).2.1<=m*(downG more h yv y fr ub l s).1.length+2*(max l.ht r.ht)+1:=by
   rcases hh with hh|hh
   .have f:=f (.inl aa);by_cases q:l.hi<=ub
    .have al:=al aa q;have g:=g (.inl aa);omega
    .rw[uf (t:=r) (.inr aa)];simp only[fF];omega
   .have g:=g (.inr aa);by_cases p:fr<=r.lo
    .have j:=j p aa;have f:=f (.inr aa);omega
    .rw[uf (t:=l) (.inl aa)];simp only[fF];omega
  simp only[downG,FT.ht];generalize downG more h yv y fr ub l s=n at*;generalize downG more h yv y fr ub r (s+l.size)=o at*;have⟨d,x,k⟩:=n;have⟨i,z,w⟩:=o;simp only at key |-;split
  .simp
  .split
   .simp
   .split
    .simp
    .have u:∀A:List Nat,m*(A++d++i).length=m*A.length+m*d.length+m*i.length:=fun A=>by rw[bS,bS,je,je]
     have v:∀A:List Nat,m*(A++d).length=m*A.length+m*d.length:=fun A=>by rw[bS,je]
     cases k with
     |true=>simp only[gF];rw[u];omega
     |false=>simp only[qP,jC,iP];rw[v];omega
theorem vS {more:Bool} {m:Nat} (e:m=if more then 2 else 0):∀(t:FT) (s:Nat),t.wf->gP lt h t s->(downG more h yv y fr ub t s).2.1<=m*(downG more h yv y fr ub t s).1.length+4*t.ht+1
 |.leaf a,s,b,c=>by
  simp only[downG];split
  .simp
  .split
   .simp
   .split<;>simp
 |.node l r,s,b,c=>by
  have z:(FT.node l r).lo=l.lo/\(FT.node l r).hi=r.hi:=⟨rfl,rfl⟩;have D:=FT.fe l b.1;have E:=FT.fe r b.2.1;have F:=b.2.2;have B:=vS e l s b.1 c.2.2.1;have C:=vS e r (s+l.size) b.2.1 c.2.2.2;have g:=ug (y:=y) (yv:=yv) (fr:=fr) (ub:=ub) e l s b.1 c.2.2.1;have i:=ug (y:=y) (yv:=yv) (fr:=fr) (ub:=ub) e r (s+l.size) b.2.1 c.2.2.2;have key:(downG more h yv y fr ub l s).2.1+(downG more h yv y fr ub r (s+l.size)).2.1<=m*(downG more h yv y fr ub l s).1.length+m*(downG more h yv y fr ub r (s+l.size)).1.length+4*(max l.ht r.ht)+2/\(downG more h yv y fr ub l s).2.1<=m*(downG more h yv y fr ub l s).1.length+4*(max l.ht r.ht)+1:=by
   refine⟨?_,aa⟩;by_cases p:ub<=r.lo
   .rw[uf (t:=r) (.inr p)];simp only[fF];omega
   .by_cases o:l.hi<=fr
    .rw[uf (t:=l) (.inl o)];simp only[fF];omega
    .have g:=g (.inr aa);have i:=i (.inl aa);omega
  simp only[downG,FT.ht];generalize downG more h yv y fr ub l s=k at*;generalize downG more h yv y fr ub r (s+l.size)=n at*;have⟨d,w,j⟩:=k;have⟨f,x,v⟩:=n;simp only at key |-;split
  .simp
  .split
   .simp
   .split
    .simp
    .have q:∀A:List Nat,m*(A++d++f).length=m*A.length+m*d.length+m*f.length:=fun A=>by rw[bS,bS,je,je]
     have u:∀A:List Nat,m*(A++d).length=m*A.length+m*d.length:=fun A=>by rw[bS,je]
     cases j with
     |true=>simp only[gF];rw[q];omega
     |false=>simp only[qP,jC,iP];rw[u];omega
end
def pullH (lb:Nat->Nat->Bool):FT->Nat->iI->iI
 |.leaf _,s,h=>gB h s none
 |.node l r,s,h=>match h (l.root s),h (r.root (s+l.size))with
  |none,none=>gB h ((FT.node l r).root s) none
  |some i,none=>pullH lb l s (gB h ((FT.node l r).root s) (some i))
  |none,some j=>pullH lb r (s+l.size) (gB h ((FT.node l r).root s) (some j))
  |some i,some j=>if lb i j then pullH lb l s (gB h ((FT.node l r).root s) (some i))else pullH lb r (s+l.size) (gB h ((FT.node l r).root s) (some j))
structure Ord (lt:Nat->Nat->Prop) (lb:Nat->Nat->Bool) (n:Nat):Prop where
 tr:∀i j k,lt i j->lt j k->lt i k
 xu:∀i j,i<n->j<n->i≠j->lt i j\/lt j i
 dec:∀i j,lb i j=true↔lt i j
section
variable {lt:Nat->Nat->Prop} {lb:Nat->Nat->Bool} {n:Nat}
theorem jL:∀(t:FT) (s:Nat) (h:iI) (k:Nat),(k<s\/s+t.size<=k)->pullH lb t s h k=h k
 |.leaf a,s,h,k,b=>by
  simp only[FT.size]at b;exact iw aa
 |.node l r,s,h,k,b=>by
  have d:(FT.node l r).size=l.size+r.size+1:=rfl;have c:(FT.node l r).root s=s+(l.size+r.size+1)-1:=rfl;have hu:∀v,gB h ((FT.node l r).root s) v k=h k:=fun v=>iw aa;simp only[pullH];cases h (l.root s)<;>cases h (r.root (s+l.size))<;>simp only
  .exact hu _
  .rw[jL r _ _ k aa,hu]
  .rw[jL l s _ k aa,hu]
  .split
   .rw[jL l s _ k aa,hu]
   .rw[jL r _ _ k aa,hu]
theorem Aj {l r:FT} {s i:Nat} {h b:iI} (m:(FT.node l r).wf)
  (c:b ((FT.node l r).root s)=some i) (g:gP lt b l s) (k:gP lt b r (s+l.size)) (f:l.lo<=i/\i<r.hi)
  (d:∀j∈held b l s,lt i j) (e:∀j∈held b r (s+l.size),lt i j):gP lt b (.node l r) s:=
 ⟨fun j a=>by
  rw[c]at a;injection a with a;subst a;exact⟨f,d,e⟩,(fun a=>by rw[c]at a;cases a),g,k⟩
theorem qG (O:Ord lt lb n):∀(t:FT) (s:Nat) (h:iI) (x:Nat),t.wf->t.hi<=n->gP lt h t s->h (t.root s)=some x->(held h t s).Nodup->
  gP lt (pullH lb t s h) t s/\(x::held (pullH lb t s h) t s).Perm (held h t s)
 |.leaf a,s,h,x,c,ac,ag,e,V=>by
  have ah:h s=some x:=e;refine⟨fun i hi=>?_,?_⟩
  .simp only[pullH,gm]at hi;cases hi
  .show(x::((gB h s none) s).toList).Perm (h s).toList;rw[gm,ah];exact pR _
 |.node l r,s,h,x,c,ac,ag,e,V=>by
  have au:(FT.node l r).size=l.size+r.size+1:=rfl;have ar:(FT.node l r).root s=s+(l.size+r.size+1)-1:=rfl;have av:l.root s=s+l.size-1:=rfl;have aC:r.root (s+l.size)=s+l.size+r.size-1:=rfl;have pl:=l.size_pos;have ax:=r.size_pos;have az:=FT.fe l c.1;have aA:=FT.fe r c.2.1;have aB:=c.2.2;have aq:r.hi<=n:=ac;have⟨Z,ab,q,u⟩:=ag;have ak:held h (.node l r) s=x::(held h l s++held h r (s+l.size)):=by simp only[held];rw[e];rfl
  rw[ak]at V |-;have ad:=(mO.1 V).2;rw[pG]at ad;have⟨ae,af,aw⟩:=ad;have hu:∀v k,k≠(FT.node l r).root s->gB h ((FT.node l r).root s) v k=h k:=fun v k z=>iw z;have U:∀v,gB h ((FT.node l r).root s) v ((FT.node l r).root s)=v:=fun v=>gm _ _ _;have S:∀v,∀k,s<=k->k<s+l.size->gB h ((FT.node l r).root s) v k=h k:=fun v k Z ab=>hu v k aa;have T:∀v,∀k,s+l.size<=k->k<s+l.size+r.size->gB h ((FT.node l r).root s) v k=h k:=fun v k Z ab=>hu v k aa;have X:∀i,h (l.root s)=some i->(∀j∈held h r (s+l.size),lt i j)->
    gP lt (pullH lb l s (gB h ((FT.node l r).root s) (some i))) (.node l r) s/\(x::held (pullH lb l s (gB h ((FT.node l r).root s) (some i))) (.node l r) s).Perm (x::(held h l s++held h r (s+l.size))):=fun i m R=>by
   have A:=U (some i);have o:=S (some i);have p:=T (some i);have I:gB h ((FT.node l r).root s) (some i) (l.root s)=some i:=by rw[hu _ _ aa];exact m
   generalize gB h ((FT.node l r).root s) (some i)=w at*;have P:=bK l s o;have Q:=bK r _ p;have⟨G,d⟩:=qG O l s w i c.1 aa (q.congr o) I (by rw[P];exact ae);have D:=jL (lb:=lb) l s w;generalize pullH lb l s w=y at*;rw[P]at d;have K:∀k,s+l.size<=k->k<s+l.size+r.size->y k=h k:=fun k E F=>by rw[D k (.inr E)];exact p k E F
   have B:y ((FT.node l r).root s)=some i:=by rw[D _ aa];exact A
   have W:(i::held y l s).Nodup:=d.nodup_iff.2 ae;have N:i∈held h l s:=d.mem_iff.1 ay;have al:=q.span c.1 i N;refine⟨Aj (h:=h) c B G (u.congr K) aa (fun j b=>?_) (fun j b=>?_),?_⟩
   .rcases q.first m j (d.mem_iff.1 (lh _ b))with h9|h9
    .subst h9;exact absurd b (mO.1 W).1
    .exact h9
   .rw[bK r _ K]at b;exact R j b
   .refine List.Perm.cons x ?_;simp only[held];rw[B,bK r _ K];exact d.append_right _
  have Y:∀i,h (r.root (s+l.size))=some i->(∀j∈held h l s,lt i j)->
    gP lt (pullH lb r (s+l.size) (gB h ((FT.node l r).root s) (some i))) (.node l r) s/\(x::held (pullH lb r (s+l.size) (gB h ((FT.node l r).root s) (some i))) (.node l r) s).Perm (x::(held h l s++held h r (s+l.size))):=fun i m R=>by
   have A:=U (some i);have o:=S (some i);have p:=T (some i);have I:gB h ((FT.node l r).root s) (some i) (r.root (s+l.size))=some i:=by rw[hu _ _ aa];exact m
   generalize gB h ((FT.node l r).root s) (some i)=w at*;have P:=bK l s o;have Q:=bK r _ p;have⟨G,d⟩:=qG O r (s+l.size) w i c.2.1 aa (u.congr p) I (by rw[Q];exact af);have D:=jL (lb:=lb) r (s+l.size) w;generalize pullH lb r (s+l.size) w=y at*;rw[Q]at d;have J:∀k,s<=k->k<s+l.size->y k=h k:=fun k E F=>by rw[D k (.inl F)];exact o k E F
   have B:y ((FT.node l r).root s)=some i:=by rw[D _ aa];exact A
   have W:(i::held y r (s+l.size)).Nodup:=d.nodup_iff.2 af;have N:i∈held h r (s+l.size):=d.mem_iff.1 ay;have al:=u.span c.2.1 i N;refine⟨Aj (h:=h) c B (q.congr J) G aa (fun j b=>?_) (fun j b=>?_),?_⟩
   .rw[bK l _ J]at b;exact R j b
   .rcases u.first m j (d.mem_iff.1 (lh _ b))with h9|h9
    .subst h9;exact absurd b (mO.1 W).1
    .exact h9
   .refine List.Perm.cons x ?_;simp only[held];rw[B,bK l _ J];show(i::(held h l s++held y r (s+l.size))).Perm _;exact(List.perm_middle.symm).trans (d.append_left _)
  have am:∀i,h (l.root s)=some i->i<n/\i<l.hi:=fun i m=>by
   have⟨L,H⟩:=o8 m;have:=q.span c.1 i (by rw[H];simp);omega
  have an:∀i,h (r.root (s+l.size))=some i->i<n/\r.lo<=i:=fun i m=>by
   have⟨L,H⟩:=o8 m;have:=u.span c.2.1 i (by rw[H];simp);omega
  simp only[pullH];split
  .rename_i f g;have ao:=q.empty f;have ap:=u.empty g;have A:=U none;have o:=S none;have p:=T none;generalize gB h ((FT.node l r).root s) none=w at*;refine⟨⟨fun j b=>?_,fun _=>?_,q.congr o,u.congr p⟩,?_⟩
   .rw[A]at b;cases b
   .rw[bK l s o,bK r _ p];exact⟨ao,ap⟩
   .refine List.Perm.cons x ?_;simp only[held];rw[A,bK l s o,bK r _ p];exact pR _
  .rename_i i f g;exact X i f (fun j b=>by rw[u.empty g]at b;exact absurd b iC)
  .rename_i j f g;exact Y j g (fun k z=>by rw[q.empty f]at z;exact absurd z iC)
  .rename_i i j f g;split
   .rename_i M;have C:=(O.dec i j).1 M;refine X i f fun k z=>?_;rcases u.first g k z with h9|h9
    .rw[h9];exact C
    .exact O.tr _ _ _ C h9
   .rename_i M;have C:lt j i:=by
     have ai:=am i f;have aj:=an j g;rcases O.xu i j ai.1 aj.1 aa with h9|h9
     .exact absurd ((O.dec i j).2 h9) M
     .exact h9
    refine Y j g fun k z=>?_;rcases q.first f k z with h9|h9
    .rw[h9];exact C
    .exact O.tr _ _ _ C h9
def dropH (lb:Nat->Nat->Bool):FT->Nat->Nat->iI->iI
 |.leaf a,s,x,h=>pullH lb (.leaf a) s h
 |.node l r,s,x,h=>if h ((FT.node l r).root s)=some x then pullH lb (.node l r) s h else if x<l.hi then dropH lb l s x h else dropH lb r (s+l.size) x h
theorem uh:∀(t:FT) (s x:Nat) (h:iI) (k:Nat),(k<s\/s+t.size<=k)->dropH lb t s x h k=h k
 |.leaf a,s,x,h,k,b=>jL (.leaf a) s h k b
 |.node l r,s,x,h,k,b=>by
  have c:(FT.node l r).size=l.size+r.size+1:=rfl;simp only[dropH];split
  .exact jL _ s h k b
  .split
   .exact uh l s x h k aa
   .exact uh r _ x h k aa
theorem vT (O:Ord lt lb n):∀(t:FT) (s:Nat) (h:iI) (x:Nat),t.wf->t.hi<=n->gP lt h t s->x∈held h t s->(held h t s).Nodup->
  gP lt (dropH lb t s x h) t s/\(x::held (dropH lb t s x h) t s).Perm (held h t s)
 |.leaf a,s,h,x,b,q,u,z,p=>by
  have e:h s=some x:=by simpa[held]using z
  exact qG O (.leaf a) s h x b q u e p
 |.node l r,s,h,x,b,q,u,z,p=>by
  have V:(FT.node l r).size=l.size+r.size+1:=rfl;have U:(FT.node l r).root s=s+(l.size+r.size+1)-1:=rfl;have pl:=l.size_pos;have X:=r.size_pos;have Y:=FT.fe l b.1;have Z:=FT.fe r b.2.1;have ab:=b.2.2;have T:r.hi<=n:=q;simp only[dropH];split
  .rename_i e;exact qG O _ s h x b q u e p
  .rename_i e;have⟨I,J,A,B⟩:=u;have Sk:=z;simp only[held,bT,AV,e,false_or]at Sk;cases m:h ((FT.node l r).root s)with
   |none=>
    have⟨R,S⟩:=J m;rw[R,S]at Sk;rcases Sk with Sk|Sk<;>exact absurd Sk iC
   |some i=>
    have K:held h (.node l r) s=i::(held h l s++held h r (s+l.size)):=by simp only[held];rw[m];rfl
    rw[K]at p |-;have H:=(mO.1 p).2;rw[pG]at H;have⟨P,Q,W⟩:=H;have⟨C,D,E⟩:=I i m;split
    .rename_i L;have M:x∈held h l s:=by
      rcases Sk with h9|h9
      .exact h9
      .have:=B.span b.2.1 x h9;omega
     have⟨v,f⟩:=vT O l s h x b.1 aa A M P;have o:=uh (lb:=lb) l s x h;generalize dropH lb l s x h=d at*;have y:∀k,s+l.size<=k->k<s+l.size+r.size->d k=h k:=fun k F G=>o k (.inr F);have g:d ((FT.node l r).root s)=some i:=by rw[o _ aa];exact m
     refine⟨Aj (h:=h) b g v (B.congr y) C (fun j c=>D j (f.mem_iff.1 (lh _ c))) (fun j c=>by rw[bK r _ y]at c;exact E j c),?_⟩;simp only[held];rw[g,bK r _ y];show(x::i::(held d l s++held h r (s+l.size))).Perm _;exact(List.Perm.swap _ _ _).trans ((f.append_right _).cons i)
    .rename_i L;have N:x∈held h r (s+l.size):=by
      rcases Sk with h9|h9
      .have:=A.span b.1 x h9;omega
      .exact h9
     have⟨v,f⟩:=vT O r (s+l.size) h x b.2.1 aa B N Q;have o:=uh (lb:=lb) r (s+l.size) x h;generalize dropH lb r (s+l.size) x h=d at*;have w:∀k,s<=k->k<s+l.size->d k=h k:=fun k F G=>o k (.inl G);have g:d ((FT.node l r).root s)=some i:=by rw[o _ aa];exact m
     refine⟨Aj (h:=h) b g (A.congr w) v C (fun j c=>by rw[bK l _ w]at c;exact D j c) (fun j c=>E j (f.mem_iff.1 (lh _ c))),?_⟩;simp only[held];rw[g,bK l _ w];show(x::i::(held h l s++held d r (s+l.size))).Perm _;refine(List.Perm.swap _ _ _).trans (List.Perm.cons i ?_);exact(List.perm_middle.symm).trans (f.append_left _)
theorem yV:∀(t:FT) (s:Nat) (h:iI) (x:Nat),t.wf->gP lt h t s->t.lo<=x->x<t.hi->
  ((∀k∈t.path s x,h k≠some x)->x∉held h t s)/\
  ∀m k:Nat,(t.path s x)[m]? =some k->h k=some x->(∀i<m,∀k',(t.path s x)[i]? =some k'->h k'≠some x)->∃c b,(c,b)∈t.subs s/\k=c.root b/\dropH lb t s x h=pullH lb c b h
 |.leaf a,s,h,x,n,v,q,u=>by
  refine⟨fun f e=>f s (by simp[FT.path]) (by simpa[held]using e),fun m k g f o=>?_⟩;have J:m=0/\k=s:=by
   cases m with
   |zero=>simp[FT.path]at g;exact⟨rfl,g.symm⟩
   |succ m=>simp[FT.path]at g
  exact⟨.leaf a,s,by simp[FT.subs],by rw[J.2];rfl,rfl⟩
 |.node l r,s,h,x,n,v,q,u=>by
  have Q:=n.2.2;have D:l.lo<=x:=q;have E:x<r.hi:=u;have⟨O,P,w,y⟩:=v;have M:=w.span n.1;have N:=y.span n.2.1;have step:∀(t2:FT) (d:Nat),(FT.node l r).path s x=(FT.node l r).root s::t2.path d x->(∀p∈t2.subs d,p∈(FT.node l r).subs s)->
    (x∈held h (.node l r) s->h ((FT.node l r).root s)≠some x->x∈held h t2 d)->(h ((FT.node l r).root s)≠some x->dropH lb (.node l r) s x h=dropH lb t2 d x h)->
    (((∀k∈t2.path d x,h k≠some x)->x∉held h t2 d)/\∀m k:Nat,(t2.path d x)[m]? =some k->h k=some x->(∀i<m,∀k',(t2.path d x)[i]? =some k'->h k'≠some x)->∃c b,(c,b)∈t2.subs d/\k=c.root b/\dropH lb t2 d x h=pullH lb c b h)->
    ((∀k∈(FT.node l r).path s x,h k≠some x)->x∉held h (.node l r) s)/\
     ∀m k:Nat,((FT.node l r).path s x)[m]? =some k->h k=some x->(∀i<m,∀k',((FT.node l r).path s x)[i]? =some k'->h k'≠some x)->∃c b,(c,b)∈(FT.node l r).subs s/\k=c.root b/\dropH lb (.node l r) s x h=pullH lb c b h:=by
   intro t2 d C L G F ih;rw[C];refine⟨fun f e=>?_,fun m k g f o=>?_⟩
   .exact ih.1 (fun k I=>f k (lh _ I)) (G e (f _ ay))
   .cases m with
    |zero=>
     simp only[fZ,jq]at g;subst g;exact⟨.node l r,s,by simp[FT.subs],rfl,by simp only[dropH];rw[aO f]⟩
    |succ m=>
     have K:=o 0 aa ((FT.node l r).root s) ay;have⟨c,b,z,A,B⟩:=ih.2 m k (aQ g) f (fun i hi k' H=>o (i+1) aa k' (aQ H));exact⟨c,b,L _ z,A,by rw[F K];exact B⟩
  by_cases e:x<l.hi
  .refine step l s (by rw[FT.path,aO e]) (fun p hp=>by simp only[FT.subs,bT];exact .inl (.inl hp)) (fun hh j=>?_) (fun j=>by simp only[dropH];rw[aN j,aO e]) (yV l s h x n.1 w D e);simp only[held,bT,AV,j,false_or]at hh;rcases hh with hh|hh
   .exact hh
   .have:=N x hh;omega
  .refine step r (s+l.size) (by rw[FT.path,aN e]) (fun p hp=>by simp only[FT.subs,bT];exact .inl (.inr hp)) (fun hh j=>?_) (fun j=>by simp only[dropH];rw[aN j,aN e]) (yV r _ h x n.2.1 y aa E);simp only[held,bT,AV,j,false_or]at hh;rcases hh with hh|hh
   .have:=M x hh;omega
   .exact hh
end
def zU (R:List Pt) (i j:Nat):Prop:=um (bU R i) (bU R j)
def Dh (R:List Pt) (i j:Nat):Bool:=decide (um (bU R i) (bU R j))
theorem JJ {R:List Pt} (hu:(ids R).Nodup) {i k:Nat} (hi:i<R.length) (a:k<R.length) (b:i≠k):jN R i≠jN R k:=by
 unfold jN;rw[dF hi,dF a];have hid:=dz.1 hu;rcases Nat.lt_trichotomy i k with h|h|h
 .exact gQ.1 hid i k hi a h
 .exact absurd h b
 .exact fun e=>gQ.1 hid k i a hi h e.symm
theorem JK {R:List Pt} (hu:(ids R).Nodup):Ord (zU R) (Dh R) R.length:=
 ⟨fun i j k h a=>tH h a,fun i j hi c b=>by
  have:=JJ hu hi c b;unfold jN at this;unfold zU um;omega,fun i j=>by unfold Dh zU;simp⟩
def oo (R:List Pt) (h:iI):List Nat:=if R.length=0 then[]else held h (dP 0 R.length) 0
theorem nO {R:List Pt} {h:iI} (a:0<R.length):oo R h=held h (dP 0 R.length) 0:=by unfold oo;rw[aN aa]
structure lV (R:List Pt) (h:iI):Prop where
 Bo:R.Pairwise kI
 ids:(ids R).Nodup
 ok:0<R.length->gP (zU R) h (dP 0 R.length) 0
 jg:(oo R h).Nodup
section
variable {R:List Pt} {h:iI} {l:List Pt}
theorem lV.lt (H:lV R h) {i:Nat} (hi:i∈oo R h):i<R.length:=by
 by_cases a:R.length=0
 .unfold oo at hi;rw[aO a]at hi;exact absurd hi iC
 .obtain⟨w1,w2,w3⟩:=bJ 0 R.length aa;rw[nO aa]at hi;have:=(H.ok aa).span w1 i hi;omega
theorem lV.Tq (H:lV R h):(bV R).Pairwise (·<=·):=dz.2 (H.Bo.imp fun h=>by unfold kI at h;omega)
def Cc (R:List Pt):iI:=fillH (dP 0 R.length) 0 (dS R) fun _=>none
theorem K3 (c:R.Pairwise kI) (hu:(ids R).Nodup):lV R (Cc R)/\(oo R (Cc R)).Perm (dS R):=by
 have b:=qA c hu;have key:0<R.length->gP (zU R) (Cc R) (dP 0 R.length) 0/\(held (Cc R) (dP 0 R.length) 0).Perm (dS R):=fun a=>by
  have⟨w1,w2,w3⟩:=bJ 0 R.length a;exact vO (lt:=zU R) _ 0 (dS R) _ w1 b.Uv b.nodup (fun i hi=>by have:=b.lt hi;omega) (fun _ _ _=>rfl)
 have hp:(oo R (Cc R)).Perm (dS R):=by
  by_cases a:R.length=0
  .have:dS R=[]:=gU (by rw[jW];exact a);unfold oo;rw[aO a,this]
  .rw[nO aa];exact(key aa).2
 exact⟨⟨c,hu,fun a=>(key a).1,hp.nodup_iff.2 b.nodup⟩,hp⟩
theorem ME (a:R.Pairwise kI) (hu:(ids R).Nodup):((oo R (Cc R)).map (bU R)).Perm R:=by
 have e:(dS R).map (bU R)=kC R:=by
  unfold dS;rw[vz]
  conv=>rhs;rw[<-List.map_id (kC R)]
  exact Ay fun p hp=>BM ((jV R p).1 hp)
 exact(((K3 a hu).2.map (bU R)).trans (by rw[e])).trans (ja R)
def Di (R:List Pt) (x:Nat) (h:iI):iI:=dropH (Dh R) (dP 0 R.length) 0 x h
theorem lV.drop (H:lV R h) {x:Nat} (c:x∈oo R h):lV R (Di R x h)/\(x::oo R (Di R x h)).Perm (oo R h):=by
 have g:=H.lt c;have a:0<R.length:=aa;have⟨w1,w2,w3⟩:=bJ 0 R.length a;have d:=c;have b:=H.jg;rw[nO a]at d b;have⟨e,f⟩:=vT (JK H.ids) (dP 0 R.length) 0 h x w1 aa (H.ok a) d b;have hp:(x::oo R (Di R x h)).Perm (oo R h):=by rw[nO a,nO a];exact f
 exact⟨⟨H.Bo,H.ids,fun _=>e,(mO.1 (hp.nodup_iff.2 H.jg)).2⟩,hp⟩
abbrev yX (R:List Pt) (h:iI) (l:List Pt):Prop:=((oo R h).map (bU R)).Perm l
theorem yX.ids (H:lV R h) (c:yX R h l):(Go.Proofs.YtkjdbndekceffaaGreat.ids l).Nodup:=by
 have a:(((oo R h).map (bU R)).map fun p=>p.2.2).Nodup:=by
  rw[vz];refine dz.2 (Ao (fun{i k} hi b d=>?_) H.jg);exact JJ H.ids (H.lt hi) (H.lt b) d
 exact(c.map _).nodup_iff.1 a
theorem yX.mem (a:yX R h l) (p:Pt):p∈l↔∃i∈oo R h,bU R i=p:=by rw[<-a.mem_iff,dA]
theorem yX.len (a:yX R h l):(oo R h).length=l.length:=by have:=a.length_eq;simpa using this
theorem lV.few (H:lV R h):(oo R h).length<=R.length:=yA H.jg fun k a=>H.lt a
theorem yX.drop (H:lV R h) (a:yX R h l) {x:Nat} (i:x∈oo R h):yX R (Di R x h) (l.filter fun q=>decide (q≠bU R x)):=by
 have⟨j,d⟩:=H.drop i;have b:(bU R x::(oo R (Di R x h)).map (bU R)).Perm l:=(d.map (bU R)).trans a;have f:l.Nodup:=lS (R:=fun p q:Pt=>p.2.2≠q.2.2) (fun p h=>h rfl) (dz.1 (yX.ids H a));have e:=b.nodup_iff.2 f;have c:=b.filter fun q=>decide (q≠bU R x);rw[Ap ay,lY.2 (fun q g=>by
  simp only[bQ];rintro rfl;exact(mO.1 e).1 g)]at c
 exact c
def xw (x1 x2 y:Int) (p:Pt):Bool:=decide (x1<=p.1/\p.1<=x2/\p.2.1<=y)
def xx (l:List Pt) (x1 x2 y:Int):List Int:=eD (ids (l.filter (xw x1 x2 y)))
theorem G7 (x1 x2 y:Int):(xx l x1 x2 y).length=(l.filter (xw x1 x2 y)).length:=by unfold xx;rw[gV];simp[Go.Proofs.YtkjdbndekceffaaGreat.ids]
def jm (R:List Pt) (x1:Int):Nat:=(aW (bV R) x1).1
def l9 (R:List Pt) (x2:Int):Nat:=(aU (bV R) x2).1
def kT (more:Bool) (R:List Pt) (h:iI) (x1 x2 y:Int):List Nat×Nat:=
 if R.length=0\/x2<x1 then([],0)else
 if jm R x1<l9 R x2 then((downG more h (lL R) y (jm R x1) (l9 R x2) (dP 0 R.length) 0).1,(aW (bV R) x1).2+(aU (bV R) x2).2+(downG more h (lL R) y (jm R x1) (l9 R x2) (dP 0 R.length) 0).2.1)
 else([],(aW (bV R) x1).2+(aU (bV R) x2).2)
theorem Rj (R:List Pt) (x2:Int):l9 R x2<=R.length:=by
 have:=(gy (fun i=>decide (x2<(bV R).getD i 0)) (bV R).length).2;have e:(bV R).length=R.length:=by simp[bV]
 unfold l9 aU;omega
theorem K4 (H:lV R h) (x1 x2 y:Int) {i:Nat} (hi:i<R.length):zH (lL R) y (jm R x1) (l9 R x2) i=xw x1 x2 y (bU R i):=by
 have c:i<(bV R).length:=by unfold bV;simpa using hi
 have d:(bV R)[i]=(bU R i).1:=by rw[dF hi];simp[bV]
 have a:=sG H.Tq x1 c;have b:=sH H.Tq x2 c;rw[d]at a b;unfold zH xw jm l9 lL;rw[mU,bQ,bQ,a,b]
theorem O6 (i j:Nat):zU R i j->lL R i<=lL R j:=fun h=>by unfold zU um at h;unfold lL;omega
def xy (R:List Pt) (h:iI) (x1 x2 y:Int):List Nat:=(oo R h).filter fun i=>xw x1 x2 y (bU R i)
theorem Fz (H:lV R h) (more:Bool) (x1 x2 y:Int):(kT more R h x1 x2 y).1=if more then xy R h x1 x2 y else(xy R h x1 x2 y).take 1:=by
 have b:(∀i∈oo R h,xw x1 x2 y (bU R i)=false)->([]:List Nat)=if more then xy R h x1 x2 y else(xy R h x1 x2 y).take 1:=fun d=>by
  have:xy R h x1 x2 y=[]:=xO.2 fun i hi=>by rw[d i hi];decide
  rw[this];cases more<;>rfl
 unfold kT;split
 .rename_i c;refine b fun i hi=>?_;have g:=H.lt hi;unfold xw;simp only[gT];omega
 .rename_i c;split
  .have a:0<R.length:=aa;have⟨w1,w2,w3⟩:=bJ 0 R.length a;have e:xy R h x1 x2 y=(held h (dP 0 R.length) 0).filter (zH (lL R) y (jm R x1) (l9 R x2)):=by
    unfold xy;rw[nO a];refine qQ fun i hi=>?_;rw[K4 H x1 x2 y (H.lt (by rw[nO a];exact hi))]
   cases more with
   |true=>rw[e];exact(vQ O6 _ 0 w1 (H.ok a)).1
   |false=>rw[e];exact(yU O6 _ 0 w1 (H.ok a)).1
  .rename_i f;refine b fun i hi=>?_;rw[<-K4 H x1 x2 y (H.lt hi)];unfold zH;simp only[gT];omega
theorem O7 (a:yX R h l) (x1 x2 y:Int):((xy R h x1 x2 y).map (bU R)).Perm (l.filter (xw x1 x2 y)):=by
 have:=a.filter (xw x1 x2 y);rw[yc]at this;exact this
theorem Ce (c:yX R h l) (x1 x2 y:Int):eD ((xy R h x1 x2 y).map (jN R))=xx l x1 x2 y/\(xy R h x1 x2 y).length=(xx l x1 x2 y).length:=by
 have a:=O7 c x1 x2 y;have b:((xy R h x1 x2 y).map (jN R)).Perm (Go.Proofs.YtkjdbndekceffaaGreat.ids (l.filter (xw x1 x2 y))):=by
  have:=a.map fun p=>p.2.2;rw[vz]at this;exact this
 refine⟨?_,?_⟩
 .unfold xx;exact E8 (sI _) ((ru _ _).trans b.symm)
 .rw[G7];have:=a.length_eq;simpa using this
theorem yY (H:lV R h) (g:R.length<=100000) (more:Bool) (x1 x2 y:Int):
  (kT more R h x1 x2 y).1.length<=(kT more R h x1 x2 y).2/\(kT more R h x1 x2 y).2<=(if more then 2 else 0)*(kT more R h x1 x2 y).1.length+6*Lib.bitLen R.length+1:=by
 unfold kT;split
 .simp
 .rename_i j;have a:0<R.length:=aa;have d:(bV R).length=R.length:=by simp[bV]
  have b:=kX (bV R) x1 aa;have c:=kY (bV R) x2 aa;rw[d]at b c;split
  .obtain⟨w1,w2,w3⟩:=bJ 0 R.length a;have i:=(bz R.length aa aa).2.2;have k:=vE 0 R.length (Lib.bitLen R.length) aa;have e:=vS (more:=more) (yv:=lL R) (y:=y) (fr:=jm R x1) (ub:=l9 R x2) rfl (dP 0 R.length) 0 w1 (H.ok a);have f:=vR (h:=h) (yv:=lL R) (y:=y) (fr:=jm R x1) (ub:=l9 R x2) more (dP 0 R.length) 0;simp only;omega
  .simp only[fF];omega
theorem G8 (H:lV R h) (d:R.length<=20000) (more:Bool) (x1 x2 y:Int):(kT more R h x1 x2 y).1.length<=R.length/\(kT more R h x1 x2 y).2<=100000:=by
 have a:=(yY H aa more x1 x2 y).2;have e:Lib.bitLen R.length<=15:=bA (eO d aa) ai;have b:(kT more R h x1 x2 y).1.length<=R.length:=by
  rw[Fz H];have c:(xy R h x1 x2 y).length<=R.length:=bA (fO _ _) H.few;cases more with
  |true=>exact c
  |false=>simp only[qP,jC,eH];omega
 refine⟨b,?_⟩;cases more<;>simp at a<;>omega
end
end
section
open Go.RowKit Go.Sort Go.Shelf Go.Lib Go.Maps
attribute [local irreducible] wpQuiet
def stk (a b:Nat):List (FT×Nat)->List Nat×Nat
 |[]=>([],0)
 |p::st=>((p.1.canon p.2 a b).1++(stk a b st).1,(p.1.canon p.2 a b).2+(stk a b st).2)
def rf:List (FT×Nat)->Nat
 |[]=>0
 |p::st=>p.1.size+rf st
def Cf (st:List (FT×Nat)):List Nat:=(st.map fun p=>p.1.root p.2).reverse
theorem yZ (p:FT×Nat) (a:List (FT×Nat)):Cf (p::a)=Cf a++[p.1.root p.2]:=by simp[Cf]
theorem xz (a:List (FT×Nat)):(Cf a).length=a.length:=by simp[Cf]
theorem K5:∀a:List (FT×Nat),a.length<=rf a
 |[]=>aB _
 |p::a=>by
  have b:=K5 a;have c:=p.1.size_pos;simp only[rf,eu];omega
theorem FT.qH (a b:Nat):∀(t:FT) (s:Nat),(t.canon s a b).2<=t.size/\(t.canon s a b).1.length<=t.size:=by
 intro t
 induction t with
 |leaf x=>
  intro s;rw[FT.canon];split<;>simp[FT.size]
 |node l r c d=>
  intro s;have e:=c s;have f:=d (s+l.size);rw[FT.canon];split
  .simp[FT.size]
  .split
   .simp[FT.size]
   .show _+_+1<=_/\((_:List Nat)++_).length<=_;rw[bS];simp only[FT.size];omega
def fE (i:Nat):Value:=.int .i64 (i:Nat)
def Rk (w:World) (n a b:Nat) (e:Ending) (w':World):Prop:=
 ∃v,e=.returned (.tuple #[v,ae (((dP 0 n).canon 0 a b).2:Nat),ae 0])/\w'.ownsRow w.heap.size 3 1 v ((dP 0 n).canon 0 a b).1.length (((dP 0 n).canon 0 a b).1.map fE)/\Below w.heap.size w w'
theorem Rl {w:World} {g off:Nat} {N:List Nd} {i:Nat} {d:Nd} (h:bY oM 7 w (some (af g off)) N) (hi:N[i]? =some d):
  g<w.heap.size/\w.cell? (af g (off+i*7))=some (.int .u8 d.kind)/\w.cell? (af g (off+i*7+1))=some (ae d.l)/\w.cell? (af g (off+i*7+2))=some (ae d.r)/\w.cell? (af g (off+i*7+3))=some (ae d.fr)/\w.cell? (af g (off+i*7+4))=some (ae d.KD)/\w.cell? (af g (off+i*7+5))=some (ae 0)/\w.cell? (af g (off+i*7+6))=some (ae d.item):=by
 have⟨a,hd⟩:=fH.1 hi;rcases h with h|⟨b,o,e,f,j⟩
 .subst h;simp at a
 .cases e;have c:=j i a;rw[hd]at c;exact⟨f,c 0 aa,c 1 aa,c 2 aa,c 3 aa,c 4 aa,c 5 aa,c 6 aa⟩
theorem xA (l:List Nat) (k:Nat):(l++[k]).map fE=l.map fE++[.int .i64 (k:Nat)]:=by simp[fE]
theorem G9 (base fb n a b:Nat) (b8:Value) (cm:n<=40000) (cf:a<b) (aP:b<=n) (w:World) (h:nL w base fb n b8):
  aK 175 #[aj fb,ae a,ae b] w (Rk w n a b):=by
 have bs:fb<w.heap.size:=(aY.1 h.blk).1;have an:=h.blk;have aN:w.cell? (af fb 5)=some (.bool true):=aD an;have aM:w.cell? (af fb 4)=some (ae n):=aD an;have a4:=qp fb w aN;have aU:=dh n;obtain⟨b7,nc,rfl,-,-,a1⟩:=bY.aJ jA ai h.row;have b0:∃g off,b7=some (af g off):=by
  rcases a1 with h9|⟨g,off,e,_⟩
  .rw[h9]at aU;simp at aU;omega
  .exact⟨g,off,e⟩
 obtain⟨g,off,rfl⟩:=b0;have a3:=su fb n _ ⟨_,_,rfl⟩ w an;have a5:=ag (fun W (aP:Below w.heap.size w W)=>jF fb n aa aa W ((aP.cell (p:=(af fb 5)) bs).trans aN) ((aP.cell (p:=(af fb 4)) bs).trans aM));have bV:=bJ 0 n aa;have hS:=fA 0 n aa;have bB:=ag (jU n aa);have bI:=ag a1;have aF:Hid ((dP 0 n).root 0=2*n-2/\(dP 0 n).size=2*n-1):=⟨by unfold FT.root;omega,hS⟩;have aS:=FT.qH a b (dP 0 n) 0;rw[hS]at aS;have d1:decide ((a:Int)<0)=false:=ay;have d2:decide ((a:Int)>(b:Int))=false:=aH;have d3:decide ((b:Int)<(a:Int))=false:=aH;have d4:decide (b<a)=false:=aH;have d5:decide ((b:Int)>(n:Int))=false:=aH;have d6:decide ((n:Int)<(b:Int))=false:=aH;have d7:decide (n<b)=false:=aH;have d8:((a:Int)==(b:Int))=false:=aH;have d9:(a==b)=false:=aH;have d10:decide (a=b)=false:=aH;have ce:(aX n).length<=100000:=aa;have bF:=ag aS;unfold Rk;generalize bo:(dP 0 n).canon 0 a b=C at*;have a6:=ag bo;generalize bU:aX n=D at*;clear bU an h a1 bV hS aU bo aS;go_enter func175,ntmps175
 go_wp2_with fail
 with_reducible refine a4.mono ?_
 rintro e w' ⟨rfl,bm⟩;subst w';clear a4
 go_wp2_with fail
 with_reducible refine a3.mono ?_
 rintro e w1 ⟨rfl,am⟩;clear a3 d1 d2 d3 d4 d5 d6 d7 d8 d9 d10 aN aM
 go_wp2_with fail
 refine(a5.o w1 am).mono ?_;rintro e w2 ⟨rfl,bm⟩;subst bm;clear a5
 go_wp2_with fail
 have bw:=BB w2 w.heap.size [.int .i64 ((2*n-2:Nat):Int)] 3 am.size (by unfold maxLen;simp);simp only[eu,fF,kH]at bw
 go_loopg [10,11,12] (2*n) (fun b6 bz b9 bA wr=>∃(c:List (FT×Nat)) (f:List Nat) (y:Nat),b9=.int .i64 y/\rf c<=b6/\rf c<=80000/\Below w.heap.size w wr/\Hid (∀p∈c,FT.At D p.1 p.2)/\Hid (C=(f++(stk a b c).1,y+(stk a b c).2))/\
  Hid (wr.ownsRow w.heap.size 3 1 bz f.length (f.map fE))/\Hid (wr.ownsRow w.heap.size 3 1 bA c.length ((Cf c).map fE))/\Hid (∀g,bz.ownBlock=some g->bA.ownBlock≠some g))
 case atStart=>
  refine⟨[(dP 0 n,0)],[],0,rfl,?_,?_,am.trans ((aI _ w2).alloc am.size _),?_,?_,dx _ _ _ _,?_,?_⟩
  .simp only[rf];have:=aF.o.2;omega
  .simp only[rf];have:=aF.o.2;omega
  .intro p hp;obtain rfl:=l5.1 hp;exact bB.o
  .show C=_;simp[stk,a6.o]
  .simp only[Cf,l8,pV,List.reverse_singleton,aF.o.1];exact bw
  .intro g h;cases h
 case round=>
  obtain⟨c,f,y,rfl,bu,ao,L,aw,X,G,P,a8⟩:=hrel;cases c with
  |nil=>
   have aO:=X.o;simp only[stk,iP,dK]at aO;have bE:=ag aO;simp only[fF]at P;obtain⟨U,V,rfl⟩:=fI G.o;obtain⟨cr,cs,rfl⟩:=fI P.o;clear aO X a6;go_wp2;go_ret3;rw[bE.o];exact⟨_,rfl,G.o,L⟩
  |cons p c=>
   obtain⟨t,s⟩:=p;obtain⟨U,V,rfl⟩:=fI G.o;have al:FT.At D t s:=aw.o _ (.head _);obtain⟨M,bL,bc,bd,be,bf,bM,bN⟩:=Rl (bI.o.below L) al.get;have cn:=al.lt;rw[FT.EI]at be;rw[FT.vF]at bf;obtain⟨go,bg,bR,ck,cl,bp,ch⟩:=aV P.o ay;subst bR;have S:=P.o;rw[yZ,xA]at S;simp only[eu]at S bp;have bx:wr.cell? (af go c.length)=some (ae (t.root s:Nat)):=by
    have h9:=S.cellAt c.length aa;rw[nD (by simp[xz])]at h9;simpa[xz]using h9
   have a0:=mg S (m:=c.length) aa;rw[iJ,Ef (by simp[xz]),kD (by simp[xz])]at a0;have R:C=(f++((t.canon s a b).1++(stk a b c).1),y+((t.canon s a b).2+(stk a b c).2)):=X.o;have aC:(t.hi<=a\/b<=t.lo)->Hid (C=(f++(stk a b c).1,(y+1)+(stk a b c).2)):=fun h=>by
    show C=_;rw[R,FT.iG h,fQ,uX]
   have Z:¬(t.hi<=a\/b<=t.lo)->(a<=t.lo/\t.hi<=b)->Hid (C=((f++[t.root s])++(stk a b c).1,(y+1)+(stk a b c).2)):=fun h v=>by
    show C=_;rw[R,FT.rX h v,ed,uX]
   have ad:¬(t.hi<=a\/b<=t.lo)->¬(a<=t.lo/\t.hi<=b)->∃l r,t=.node l r/\Hid (C=(f++(stk a b ((l,s)::(r,s+l.size)::c)).1,(y+1)+(stk a b ((l,s)::(r,s+l.size)::c)).2)):=fun h v=>by
    cases t with
    |leaf x=>exact absurd (by simp only[FT.lo,FT.hi]at h |-;omega) v
    |node l r=>
     refine⟨l,r,rfl,?_⟩;show C=_;rw[R,FT.mW h v];simp only[stk,ed];refine Prod.ext rfl ?_;simp only;omega
   have cd:y+1<=100000/\f.length+1<=100000:=by
    have z:=bF.o;have aL:=(FT.qH a b t s);rw[R]at z;have aM:0<(t.canon s a b).2:=by
     cases t with
     |leaf x=>rw[FT.canon];split<;>simp
     |node l r=>rw[FT.canon];split;simp;split<;>simp
    simp only[bS]at z;omega
   have b3:c.length+2<=100000:=by
    have z:=K5 c;have v:t.size+rf c<=80000:=ao;have aL:=t.size_pos;omega
   have Y:Hid (∀p∈c,FT.At D p.1 p.2):=fun p hp=>aw.o p (.tail _ hp);have E:=ag al;have aE:=ag a0;have ab:=ag (show t.size+rf c<=_ from bu);have co:0<t.size:=t.size_pos;obtain⟨m,aW⟩:∃m,m=c.length:=⟨_,rfl⟩;have ac:=ag aW;simp only[eu];rw[<-aW]at bx bp b3 |-;have ci:decide ((0:Int)<((m+1:Nat):Int))=true:=ay;generalize bt:t.root s=k at*;have cb:=ag bt;generalize b4:t.hi=j at*;generalize b5:t.lo=tl at*;generalize(t.top s).kind=av at*;generalize bq:(t.top s).l=ah at*;generalize br:(t.top s).r=ak at*;generalize(t.top s).item=au at*;have O:Hid ((t.top s).l=ah/\(t.top s).r=ak):=⟨bq,br⟩;clear bt b4 b5 bq br aW S a0 R aw X P al bu;have aT:rf c<=80000:=by have v:t.size+rf c<=80000:=ao;omega
   have bG:Hid (t.size+rf c<=80000):=ao;have a2:=L.size;have J:Hid (∀g,(Value.slice U f.length V).ownBlock=some g->g≠go):=fun g e d=>a8.o g e (by rw[d];rfl);have cg:f.length<=100000:=aa;clear ao a8;by_cases z:j<=a\/b<=tl
   .have I:=aC z;clear aC Z ad E O;have F:∀W,W=wr.alloc (.cells #[.int .u8 av,ae ah,ae ak,ae tl,ae j,ae 0,ae au] 163)->Below w.heap.size w W/\W.ownsRow w.heap.size 3 1 (.slice U f.length V) f.length (f.map fE)/\W.ownsRow w.heap.size 3 1 (aA go m bg) c.length ((Cf c).map fE):=fun W e=>by
     subst e;exact⟨L.alloc a2 _,G.o.alloc _,by rw[ac.o];exact aE.o.alloc _⟩
    have a7:=ag F;clear F;by_cases v:j<=a
    .have bh:decide ((j:Int)<=(a:Int))=true:=aH;have d:decide (j<=a)=true:=aH;clear z v;go_wp2
     go_roundg (rf c)
     case measure=>have:=ab.o;omega
     case rel=>
      obtain⟨f1,f2,f3⟩:=a7.o _ rfl;exact⟨c,f,y+1,by go_num,aB _,aT,f1,Y,I,f2,f3,fun g e d=>J.o g e (by injection d with d;exact d.symm)⟩
    .have bh:decide ((j:Int)<=(a:Int))=false:=aH;have d:decide (j<=a)=false:=aH;have aG:decide ((b:Int)<=(tl:Int))=true:=aH;have bO:decide (b<=tl)=true:=aH;clear z v;go_wp2
     go_roundg (rf c)
     case measure=>have:=ab.o;omega
     case rel=>
      obtain⟨f1,f2,f3⟩:=a7.o _ rfl;exact⟨c,f,y+1,by go_num,aB _,aT,f1,Y,I,f2,f3,fun g e d=>J.o g e (by injection d with d;exact d.symm)⟩
   .have bh:decide ((j:Int)<=(a:Int))=false:=aH;have d:decide (j<=a)=false:=aH;have aG:decide ((b:Int)<=(tl:Int))=false:=aH;have bO:decide (b<=tl)=false:=aH;clear aC;by_cases v:a<=tl/\j<=b
    .have I:=Z z v;have bi:decide ((a:Int)<=(tl:Int))=true:=aH;have bj:decide (a<=tl)=true:=aH;have bk:decide ((j:Int)<=(b:Int))=true:=aH;have bl:decide (j<=b)=true:=aH;clear Z ad E O z v;obtain⟨i,A⟩:∃i,i=wr.alloc (.cells #[.int .u8 av,ae ah,ae ak,ae tl,ae j,ae 0,ae au] 163):=⟨_,rfl⟩;have a9:Hid (i.ownsRow w.heap.size 3 1 (.slice U f.length V) f.length (f.map fE)):=by rw[A];exact G.o.alloc _
     have H:Below wr.heap.size wr i:=by rw[A];exact(aI _ _).alloc (aB _) _
     have N:=ag H;have b2:wr.heap.size<=i.heap.size:=H.size;clear H
     go_upto_region 19 with fail
     rw[<-A];clear A
     go_wp2_with (at_builtin;refine bZ nG w.heap.size a9.o [.int .i64 k] rfl (by simp[Value.oneCell']) rfl _ _ rfl rfl _ rfl dJ aa aa ?_;intro ca w3 aZ M aQ)
     go_roundg (rf c)
     case measure=>have:=ab.o;omega
     case rel=>
      have Q:Below w.heap.size w i:=L.trans (N.o.mono a2);have K:ax (fun q=>(Value.slice U f.length V).ownBlock=some q) wr w3:=((ax.refl _ wr).below N.o).grown M (fun q T=>.inl T);refine⟨c,f++[k],y+1,by go_num,aB _,aT,dB Q a9.o M Q.size (aB _),Y,I,?_,?_,?_⟩
      .show World.ownsRow _ _ _ _ _ _ _;rw[xA,bS];exact aZ
      .show World.ownsRow _ _ _ _ _ _ _;have h9:=aR aE.o K (fun B e d=>J.o B d (by injection e with e;exact e.symm));rw[ac.o];exact h9
      .intro B e d;have aG:go=B:=by injection d
       rcases gI aQ with h9|⟨q,h9,bn⟩
       .exact J.o B (h9▸e) aG.symm
       .rw[h9]at e;injection e with e;omega
    .obtain⟨l,r,bT,I⟩:=ad z v;subst bT;have bX:=E.o.left.lt;have b1:=E.o.right.lt;have bP:ah=((l.root s:Nat):Int):=by rw[<-O.o.1];simp only[FT.top];unfold FT.root;have:=l.size_pos;omega
     have bQ:ak=((r.root (s+l.size):Nat):Int):=by rw[<-O.o.2];simp only[FT.top];unfold FT.root;have:=r.size_pos;omega
     have bC:=ag E.o.left;have bD:=ag E.o.right;subst bP bQ;have bb:Hid ((FT.node l r).size=l.size+r.size+1):=rfl;obtain⟨kl,ap⟩:∃kl,kl=l.root s:=⟨_,rfl⟩;obtain⟨kr,aq⟩:∃kr,kr=r.root (s+l.size):=⟨_,rfl⟩;rw[<-ap]at bc bX;rw[<-aq]at bd b1;have cc:Hid (kl=l.root s/\kr=r.root (s+l.size)):=⟨ap,aq⟩;have bK:Hid ((Cf ((l,s)::(r,s+l.size)::c)).map fE=(Cf c).map fE++[.int .i64 (kr:Nat),.int .i64 (kl:Nat)]):=by
      show _=_;rw[yZ,yZ,xA,xA,ap,aq,ed];rfl
     clear ap aq Z ad O E z;obtain⟨i,A⟩:∃i,i=wr.alloc (.cells #[.int .u8 av,ae kl,ae kr,ae tl,ae j,ae 0,ae au] 163):=⟨_,rfl⟩;have H:Below wr.heap.size wr i:=by rw[A];exact(aI _ _).alloc (aB _) _
     have ar:i.heap[wr.heap.size]? =some (.cells #[.int .u8 av,ae kl,ae kr,ae tl,ae j,ae 0,ae au] 163 (0,0)):=by rw[A];exact bW _ _
     have cp:i.cell? (af wr.heap.size 1)=some (ae kl):=aD ar;have cq:i.cell? (af wr.heap.size 2)=some (ae kr):=aD ar;have ba:Hid (i.ownsRow w.heap.size 3 1 (aA go m bg) m ((Cf c).map fE)):=by
      show World.ownsRow _ _ _ _ _ _ _;rw[ac.o];exact az aE.o H
     have N:=ag H;have b2:wr.heap.size<i.heap.size:=(aY.1 ar).1;have bv:bY (fun x:Int=>[ae x]) 1 (i.alloc (.cells #[ae kr,ae kl] 3)) (some (af i.heap.size 0)) [(kr:Int),(kl:Int)]:=bY.lit (enc:=fun x:Int=>[ae x]) (sz:=1) (fun _=>rfl) i 3 [(kr:Int),(kl:Int)] _ rfl;have bH:=ag bv;clear bv H ar;by_cases aL:a<=tl
     all_goals
      first
       |(have bi:decide ((a:Int)<=(tl:Int))=true:=by simp;omega)
       |(have bi:decide ((a:Int)<=(tl:Int))=false:=by simp;omega)
      first
       |(have bj:decide (a<=tl)=true:=by simp;omega)
       |(have bj:decide (a<=tl)=false:=by simp;omega)
      first
       |(have bk:decide ((j:Int)<=(b:Int))=false:=by simp;omega)
       |(have bk:True:=trivial)
      first
       |(have bl:decide (j<=b)=false:=by simp;omega)
       |(have bl:True:=trivial)
      clear v aL
      go_upto_region 16 with fail
      rw[<-A];clear A bL bc bd be bf bM bN bx
      go_wp2_with (at_builtin;refine nH nG (enc:=fun x:Int=>[ae x]) (fun _=>rfl) (fun x u hu=>by simp at hu;subst hu;rfl) w.heap.size (ba.o.alloc _) bH.o rfl _ _ rfl rfl 2 rfl (by unfold maxLen;simp;omega) aH aH ?_;intro ca w3 aZ M aQ)
      go_roundg (rf ((l,s)::(r,s+l.size)::c))
      case measure=>have h9:=ab.o;have bn:=bb.o;simp only[rf];omega
      case rel=>
       have Q:Below w.heap.size w (i.alloc (.cells #[ae kr,ae kl] 3)):=(L.trans (N.o.mono a2)).alloc aa _;have K:ax (fun q=>q=go) wr w3:=(((ax.refl _ wr).below N.o).alloc _).grown M (fun q T=>.inl (by injection T with T;exact T.symm));refine⟨(l,s)::(r,s+l.size)::c,f,y+1,by go_num,aB _,?_,dB Q (ba.o.alloc _) M Q.size (aB _),?_,I,?_,?_,?_⟩
       .have h9:=bG.o;have bn:=bb.o;simp only[rf];omega
       .intro p hp;rcases gZ.1 hp with rfl|hp
        .exact bC.o
        .rcases gZ.1 hp with rfl|hp
         .exact bD.o
         .exact Y.o p hp
       .exact aR G.o K (fun B e d=>J.o B e d)
       .show World.ownsRow _ _ _ _ _ _ _;rw[bK.o,eu,eu,<-ac.o];exact aZ
       .intro B e d;have cj:=(G.o.lt B e).2;rcases aQ with h9|h9
        .rw[h9]at d;exact J.o B e (by injection d with d;exact d.symm)
        .rw[h9]at d;injection d with d;simp at d;omega
end
section
open Go Go.RowKit
def VV (YS:List Nat) (d:Nd):List Nat:=YS.filter fun i=>decide (d.fr<=(i:Int)/\(i:Int)<d.KD)
def lk (N:List Nd) (YS:List Nat) (k:Nat):List Nat:=match N[k]? with|some d=>VV YS d|none=>[]
section
variable {N:List Nd} {YS:List Nat} {yv:Nat->Int} {y1 y2:Int}
theorem Rm (t:FT) (s:Nat):VV YS (t.top s)=nl YS t:=by
 unfold VV nl;refine qQ fun i _=>?_;rw[FT.EI,FT.vF,mQ];omega
theorem Cg {t:FT} {s:Nat} (h:FT.At N t s):lk N YS (t.root s)=nl YS t:=by
 unfold lk;rw[h.get];exact Rm t s
theorem JL (k:Nat):(lk N YS k).Sublist YS:=by
 unfold lk;split
 .exact Eo
 .exact List.nil_sublist _
theorem y5 {a b:Nat} (i:Nat):∀(t:FT) (s:Nat),FT.At N t s->t.wf->(i∈(t.canon s a b).1.flatMap (fun k=>EJ yv y1 y2 (lk N YS k))↔i∈nl YS t/\a<=i/\i<b/\y1<=yv i/\yv i<=y2):=by
 have j:∀t:FT,i∈nl YS t->t.lo<=i/\i<t.hi:=fun t hi=>by simpa using(bG.1 hi).2
 have one:∀(t:FT) (s:Nat),FT.At N t s->a<=t.lo->t.hi<=b->(i∈[t.root s].flatMap (fun k=>EJ yv y1 y2 (lk N YS k))↔i∈nl YS t/\a<=i/\i<b/\y1<=yv i/\yv i<=y2):=fun t s h d e=>by
  rw[l6,List.flatMap_nil,iP,Cg h];unfold EJ;rw[bG,bQ];constructor
  .rintro⟨c,f⟩;have:=j t c;exact⟨c,aa,aa,f⟩
  .rintro⟨c,_,_,f⟩;exact⟨c,f⟩
 intro t
 induction t with
 |leaf x=>
  intro s h g;by_cases h0:(FT.leaf x).hi<=a\/b<=(FT.leaf x).lo
  .rw[FT.iG h0];refine⟨fun h=>absurd h ay,fun⟨d,e,c,_⟩=>?_⟩;have:=j _ d;rcases h0 with h0|h0<;>omega
  .rw[FT.canon,aN h0];refine one _ s h ?_ ?_
   .simp only[FT.hi,FT.lo]at h0 |-;omega
   .simp only[FT.hi,FT.lo]at h0 |-;omega
 |node l r m n=>
  intro s h g;by_cases h0:(FT.node l r).hi<=a\/b<=(FT.node l r).lo
  .rw[FT.iG h0];refine⟨fun h=>absurd h ay,fun⟨d,e,c,_⟩=>?_⟩;have:=j _ d;rcases h0 with h0|h0<;>omega
  .by_cases d:a<=(FT.node l r).lo/\(FT.node l r).hi<=b
   .rw[FT.rX h0 d];exact one _ s h d.1 d.2
   .rw[FT.mW h0 d];show i∈((_:List Nat)++_).flatMap _↔_;rw[gX,bT,m s h.left g.1,n _ h.right g.2.1,tq YS l r g,oI YS l r g,bG,bG,bQ,oG,gT];constructor
    .rintro(⟨⟨e,_⟩,c⟩|⟨⟨e,_⟩,c⟩)<;>exact⟨e,c⟩
    .rintro⟨e,c⟩;by_cases f:i<l.hi
     .exact .inl ⟨⟨e,f⟩,c⟩
     .exact .inr ⟨⟨e,f⟩,c⟩
theorem Ha {a b:Nat} (j:YS.Nodup):∀(t:FT) (s:Nat),FT.At N t s->t.wf->((t.canon s a b).1.flatMap (fun k=>EJ yv y1 y2 (lk N YS k))).Nodup:=by
 have one:∀(t:FT) (s:Nat),FT.At N t s->([t.root s].flatMap (fun k=>EJ yv y1 y2 (lk N YS k))).Nodup:=fun t s h=>by
  rw[l6,List.flatMap_nil,iP];exact lX _ (j.sublist (JL _))
 intro t
 induction t with
 |leaf x=>
  intro s h c;rw[FT.canon];split
  .simp
  .exact one _ s h
 |node l r m n=>
  intro s h c;rw[FT.canon];split
  .simp
  .split
   .exact one _ s h
   .show(((_:List Nat)++_).flatMap _).Nodup;rw[gX];refine pG.2 ⟨m s h.left c.1,n _ h.right c.2.1,fun i hi k g e=>?_⟩;subst e;have d:=((y5 i l s h.left c.1).1 hi).1;have f:=((y5 i r _ h.right c.2.1).1 g).1;have o:l.lo<=i/\i<l.hi:=by simpa using(bG.1 d).2
    have p:r.lo<=i/\i<r.hi:=by simpa using(bG.1 f).2
    have:=c.2.2;omega
end
theorem FT.O8 {N:List Nd} {a b:Nat}:∀(t:FT) (s:Nat),FT.At N t s->∀k∈(t.canon s a b).1,k<N.length:=by
 intro t
 induction t with
 |leaf x=>
  intro s h k hk;rw[FT.canon]at hk;split at hk
  .cases hk
  .obtain rfl:=l5.1 hk;exact h.lt
 |node l r c d=>
  intro s h k hk;rw[FT.canon]at hk;split at hk
  .cases hk
  .split at hk
   .obtain rfl:=l5.1 hk;exact h.lt
   .rcases bT.1 hk with hk|hk
    .exact c s h.left k hk
    .exact d _ h.right k hk
end
end Go.Proofs.YtkjdbndekceffaaGreat
set_option autoImplicit false
namespace Go.Proofs.YtkjdbndekceffaaGreat
open Tryz
section
open Go
abbrev Qf:=Nat->Nat
def swp (f:Qf) (i j:Nat):Qf:=fun k=>if k=i then f j else if k=j then f i else f k
def par (j:Nat):Nat:=(j-1)/2
structure LO (lb:Nat->Nat->Bool):Prop where
 WJ:∀a b,lb a b=true->lb b a=false
 tr:∀a b c,lb b a=false->lb c b=false->lb c a=false
def HO (lb:Nat->Nat->Bool) (f:Qf) (n:Nat):Prop:=∀j,0<j->j<n->lb (f j) (f (par j))=false
section
variable {lb:Nat->Nat->Bool} (O:LO lb)
include O
end
end
section
open Go Go.RowKit
def lowO (R:List Pt):Option Nat->Option Nat->Option Nat
 |none,b=>b
 |some i,none=>some i
 |some i,some k=>if Dh R k i then some k else some i
def lI (R:List Pt) (S:Nat->Prop):Option Nat->Prop
 |none=>∀j,¬S j
 |some i=>S i/\∀j,S j->j=i\/zU R i j
section
variable {R:List Pt} {S T:Nat->Prop} {a b:Option Nat}
theorem Rn (i:Nat):¬zU R i i:=wG _
theorem y7 {i j k:Nat} (h:zU R i j) (a:zU R j k):zU R i k:=tH h a
theorem lI.uniq (c:lI R S a) (d:lI R S b):a=b:=by
 cases a with
 |none=>
  cases b with
  |none=>rfl
  |some k=>exact absurd d.1 (c k)
 |some i=>
  cases b with
  |none=>exact absurd c.1 (d i)
  |some k=>
   rcases c.2 k d.1 with h|h
   .rw[h]
   .rcases d.2 i c.1 with h2|h2
    .rw[h2]
    .exact absurd (y7 h h2) (Rn _)
theorem lI.congr (h:∀j,S j↔T j) (b:lI R S a):lI R T a:=by
 cases a with
 |none=>exact fun j c=>b j ((h j).2 c)
 |some i=>exact⟨(h i).1 b.1,fun j c=>b.2 j ((h j).2 c)⟩
theorem Hd {n:Nat} (O:Ord (zU R) (Dh R) n) (hS:∀j,S j->j<n) (l:∀j,T j->j<n) (c:lI R S a) (d:lI R T b):lI R (fun j=>S j\/T j) (lowO R a b):=by
 cases a with
 |none=>
  refine d.congr fun j=>⟨.inr,fun h=>h.resolve_left (c j)⟩
 |some i=>
  cases b with
  |none=>exact c.congr (T:=fun j=>S j\/T j) fun j=>⟨.inl,fun h=>h.resolve_right (d j)⟩
  |some k=>
   show lI R _ (if Dh R k i then some k else some i);by_cases h:Dh R k i=true
   .rw[aO h];have g:=(O.dec k i).1 h;refine⟨.inr d.1,fun j hj=>?_⟩;rcases hj with hj|hj
    .rcases c.2 j hj with h9|h9
     .rw[h9];exact .inr g
     .exact .inr (y7 g h9)
    .exact d.2 j hj
   .rw[aN h];have f:k=i\/zU R i k:=by
     by_cases e:k=i
     .exact .inl e
     .rcases O.xu k i (l k d.1) (hS i c.1) e with h9|h9
      .exact absurd ((O.dec k i).2 h9) h
      .exact .inr h9
    refine⟨.inl c.1,fun j hj=>?_⟩;rcases hj with hj|hj
    .exact c.2 j hj
    .rcases d.2 j hj with h9|h9
     .rw[h9];exact f
     .rcases f with h8|h8
      .rw[<-h8];exact .inr h9
      .exact .inr (y7 h8 h9)
theorem He {L:List Nat} (h:L.Pairwise (zU R)):lI R (fun j=>j∈L) L.head?:=by
 cases L with
 |nil=>exact fun j a=>absurd a iC
 |cons i L=>
  refine⟨nT,fun j a=>?_⟩;rcases gZ.1 a with h9|h9
  .exact .inl h9
  .exact .inr ((lZ.1 h).1 j h9)
end
def lg (N:List Nd) (YS:List Nat) (k:Nat):Option Nat:=(lk N YS k).head?
def TJ (YS:List Nat) (a b:Nat):List Nat:=YS.filter fun i=>decide (a<=i/\i<b)
section
variable {R:List Pt} {gone:List Bool} {YS:List Nat} {N:List Nd}
theorem cz.Wy (a:cz R gone YS) (k:Nat):(lk N YS k).Pairwise (zU R):=List.Pairwise.sublist (JL k) a.Uv
theorem ui (a:cz R gone YS) (k:Nat):lI R (fun j=>j∈lk N YS k) (lg N YS k):=He (a.Wy k)
theorem DY (a:cz R gone YS) {k j:Nat} (h:j∈lk N YS k):j<R.length:=a.lt ((JL k).subset h)
theorem Ch (a:cz R gone YS) {k i:Nat} (h:lg N YS k=some i):i<R.length:=by
 have:=ui (N:=N) a k;rw[h]at this;exact DY a this.1
theorem Ro (YS:List Nat) {l r:FT} (a:(FT.node l r).wf):(nl YS l++nl YS r).Perm (nl YS (.node l r)):=by
 rw[tq YS l r a,oI YS l r a];exact List.filter_append_perm _ _
theorem Hf (a:cz R gone YS) {l r:FT} {s:Nat} (b:FT.At N (.node l r) s) (d:(FT.node l r).wf):
  lg N YS ((FT.node l r).root s)=lowO R (lg N YS (l.root s)) (lg N YS (r.root (s+l.size))):=by
 have c:=Hd (JK a.ids) (fun j h=>DY a h) (fun j h=>DY a h) (ui (N:=N) a (l.root s)) (ui (N:=N) a (r.root (s+l.size)));refine lI.uniq (ui a _) (c.congr fun j=>?_);rw[Cg b,Cg b.left,Cg b.right,<-(Ro YS d).mem_iff,bT]
theorem Ci (e:cz R gone YS) {a s:Nat} (f:FT.At N (.leaf a) s):lg N YS s=if a∈YS then some a else none:=by
 have c:∀j,j∈lk N YS s↔j=a/\a∈YS:=fun j=>by
  have:lk N YS s=nl YS (.leaf a):=Cg f;rw[this];unfold nl;rw[bG,bQ];simp only[FT.lo,FT.hi];constructor
  .rintro⟨d,g⟩;obtain rfl:j=a:=aa;exact⟨rfl,d⟩
  .rintro⟨rfl,h⟩;exact⟨h,aa⟩
 refine lI.uniq (ui e s) ?_;split
 .rename_i h;exact⟨(c a).2 ⟨rfl,h⟩,fun j b=>.inl ((c j).1 b).1⟩
 .rename_i h;exact fun j b=>h ((c j).1 b).2
theorem K6 (L:List Nat):EJ (fun _=>0) 0 0 L=L:=by unfold EJ;exact lY.2 fun i _=>ay
theorem JM {a b:Nat} (i:Nat) (t:FT) (s:Nat) (c:FT.At N t s) (d:t.wf):i∈(t.canon s a b).1.flatMap (lk N YS)↔i∈nl YS t/\a<=i/\i<b:=by
 have h:=y5 (yv:=fun _=>0) (y1:=0) (y2:=0) (YS:=YS) (N:=N) (a:=a) (b:=b) i t s c d;simp only[K6]at h;rw[h];simp
theorem MF (d:cz R gone YS) (c:0<R.length) (a b:Nat):(((dP 0 R.length).canon 0 a b).1.flatMap (lk (aX R.length) YS)).Perm (TJ YS a b):=by
 have⟨w1,w2,w3⟩:=bJ 0 R.length c;have f:=jU R.length c;have e:=Ha (yv:=fun _=>0) (y1:=0) (y2:=0) (N:=aX R.length) (a:=a) (b:=b) d.nodup (dP 0 R.length) 0 f w1;simp only[K6]at e;refine(zo e (d.nodup.sublist Eo)).2 fun i=>?_;rw[JM i _ 0 f w1,d.top c,bG,bQ]
def sO (R:List Pt) (N:List Nd) (YS:List Nat) (ks:List Nat):Option Nat:=ks.foldl (fun o k=>lowO R o (lg N YS k)) none
theorem MG (a:List Nat) (k:Nat):sO R N YS (a++[k])=lowO R (sO R N YS a) (lg N YS k):=by unfold sO;rw[List.foldl_append];rfl
theorem Hg (a:cz R gone YS) (b:List Nat):∀(o:Option Nat) (S:Nat->Prop),(∀j,S j->j<R.length)->lI R S o->lI R (fun j=>S j\/j∈b.flatMap (lk N YS)) (b.foldl (fun o k=>lowO R o (lg N YS k)) o):=by
 induction b with
 |nil=>intro o S hS h;exact h.congr fun j=>ay
 |cons k b ih=>
  intro o S hS h;have c:=Hd (JK a.ids) hS (fun j h=>DY a h) h (ui (N:=N) a k);have d:=ih _ _ (fun j e=>e.elim (hS j) (DY a)) c;rw[A9];refine d.congr fun j=>?_;rw[l6,bT,or_assoc]
theorem K7 (c:cz R gone YS) (a b:Nat):(TJ YS a b).Pairwise (zU R):=lX _ c.Uv
theorem JN (c:cz R gone YS) (d:0<R.length) (a b:Nat):sO R (aX R.length) YS ((dP 0 R.length).canon 0 a b).1=(TJ YS a b).head?:=by
 have e:=Hg (N:=aX R.length) c ((dP 0 R.length).canon 0 a b).1 none (fun _=>False) (fun _ h=>h.elim) (fun _ h=>h);refine lI.uniq (e.congr fun j=>?_) (He (K7 c a b));rw[(MF c d a b).mem_iff];simp
end
def zV (x1 x2:Int) (p:Pt):Bool:=decide (x1<=p.1/\p.1<=x2)
def NK (l:List Pt) (x1 x2:Int):List Pt:=kC (l.filter (zV x1 x2))
theorem Rp (l:List Pt) (x1 x2:Int):(NK l x1 x2).length<=l.length:=by
 unfold NK;rw[(ja _).length_eq];exact fO _ _
section
variable {R:List Pt} {gone:List Bool} {YS:List Nat} {l:List Pt}
theorem Rq (b:cz R gone YS) (f:sF R YS l) (x1 x2:Int):(TJ YS (jm R x1) (l9 R x2)).map (bU R)=NK l x1 x2:=by
 have e:∀i,i∈YS->(jm R x1<=i/\i<l9 R x2↔zV x1 x2 (bU R i)=true):=fun i hi=>by
  have d:=b.lt hi;have g:i<(bV R).length:=by unfold bV;simpa using d
  have h:(bV R)[i]=(bU R i).1:=by rw[dF d];simp[bV]
  have c:=sG b.Tq x1 g;have a:=sH b.Tq x2 g;rw[h]at c a;unfold jm l9 zV;rw[bQ,c,a]
 have hu:(ids (l.filter (zV x1 x2))).Nodup:=f.jg.sublist (List.filter_sublist.map _);refine KR hu (dz.2 (K7 b _ _)) fun p=>?_;rw[dA,bG,f.mem];constructor
 .rintro⟨i,hi,rfl⟩;unfold TJ at hi;rw[bG,bQ]at hi;exact⟨⟨i,hi.1,rfl⟩,(e i hi.1).1 hi.2⟩
 .rintro⟨⟨i,hi,rfl⟩,a⟩;refine⟨i,?_,rfl⟩;unfold TJ;rw[bG,bQ];exact⟨hi,(e i hi).2 a⟩
theorem O9 (l:List Pt) {x1 x2:Int} (h:x2<x1):NK l x1 x2=[]:=by
 unfold NK;rw[xO.2 (fun p _=>by unfold zV;simp only[bQ];omega)];exact gU (ja []).length_eq
end
end
section
open Go.RowKit Go.Sort Go.Shelf Go.Lib Go.Maps
attribute [local irreducible] wpQuiet
attribute [local go_sem] Oper.fB
def oq:Option Nat->Int
 |none=>-1
 |some i=>i
theorem Pd (i:Nat):oq (some i)=(i:Int):=rfl
theorem Rs {o:Option Nat} {i:Nat}:oq o=(i:Int)↔o=some i:=by
 cases o with
 |none=>simp only[oq];constructor<;>intro h<;>first|omega|cases h
 |some j=>simp only[oq,jq];omega
def IB (h:iI) (n:Nat):List Value:=(List.range n).map fun k=>.int .i64 (oq (h k))
theorem K8 (h:iI) {n k:Nat} (a:k<n):(IB h n)[k]? =some (.int .i64 (oq (h k))):=by simp[IB,a]
theorem K9 (h:iI) {n k:Nat} (c:k<n) (v:Option Nat):(IB h n).set k (.int .i64 (oq v))=IB (gB h k v) n:=by
 apply rH (by simp[IB]);intro i a b;simp only[IB,List.getElem_set,fP,xW];by_cases e:k=i
 .subst e;rw[aO rfl,gm]
 .rw[aN e,iw (iT e)]
theorem MH {h h':iI} {n:Nat} (e:∀k,k<n->h' k=h k):IB h' n=IB h n:=by
 unfold IB;exact Ay fun k a=>by rw[e k (uW.1 a)]
theorem gP.sub {lt:Nat->Nat->Prop} {h:iI}:∀{t:FT} {s:Nat},gP lt h t s->∀p∈t.subs s,gP lt h p.1 p.2
 |.leaf a,s,b,p,hp=>by
  have:p=(.leaf a,s):=by simpa[FT.subs]using hp
  subst this;exact b
 |.node l r,s,b,p,hp=>by
  simp only[FT.subs,bT,l5]at hp;rcases hp with(hp|hp)|hp
  .exact gP.sub b.2.2.1 p hp
  .exact gP.sub b.2.2.2 p hp
  .subst hp;exact b
theorem lV.at_ {R:List Pt} {h:iI} (H:lV R h) {t:FT} {s:Nat} (c:FT.At (aX R.length) t s):gP (zU R) h t s/\t.wf/\t.hi<=R.length:=by
 have a:=kZ c;have⟨w1,w2,w3⟩:=bJ 0 R.length a;have b:=FT.at_mem (fM a▸c);exact⟨(H.ok a).sub _ b,FT.qw _ 0 w1 _ b,bA (FT.Af _ 0 w1 (t,s) b) aa⟩
theorem lV.pl {R:List Pt} {h:iI} (H:lV R h) {k i:Nat} (f:k<(aX R.length).length) (e:h k=some i):i<R.length:=by
 have⟨t,s,d,g⟩:=tV f;have⟨b,c,j⟩:=H.at_ d;rw[<-g]at e;have⟨L,a⟩:=o8 e;have:=b.span c i (by rw[a];simp);omega
structure mq where
 rv:Value
 xv:Value
 nv:Value
 hv:Value
 fv:Value
abbrev MI (rv xv:Value) (fb:Nat) (nv hv:Value) (n:Int):Obj:=.cells #[rv,xv,aj fb,nv,hv,ae n] 155 (0,0)
structure cZ (w:World) (lo hi tb fb:Nat) (R:List Pt) (h:iI) (cnt:Int) (V:mq):Prop where
 blk:w.heap[tb]? =some (MI V.rv V.xv fb V.nv V.hv cnt)
 fC:lo<=tb/\tb<hi/\lo<=fb/\fb<hi/\hi<=w.heap.size
 row:w.ownsRow lo 29 3 V.rv R.length (R.flatMap dw)
 xs:w.ownsRow lo 2 1 V.xv R.length ((bV R).map (Value.int .i64))
 iH:nL w lo fb R.length V.fv
 jg:w.ownsRow lo 163 7 V.nv (aX R.length).length ((aX R.length).flatMap oM)
 oo:w.ownsRow lo 3 1 V.hv (aX R.length).length (IB h (aX R.length).length)
 top:∀v,v=V.rv\/v=V.xv\/v=V.nv\/v=V.hv\/v=V.fv->∀g,v.ownBlock=some g->g<hi
section
variable {w w':World} {lo hi tb fb:Nat} {R:List Pt} {h:iI} {cnt:Int} {V:mq}
theorem cZ.kept {S:Nat->Prop} (H:cZ w lo hi tb fb R h cnt V) (K:ax S w w') (hS:∀k,lo<=k->k<hi->¬S k):cZ w' lo hi tb fb R h cnt V:=by
 have ht:=H.top;have a:∀{e:TypeId} {sz:Nat} {v:Value} {n:Nat} {xs:List Value},w.ownsRow lo e sz v n xs->(∀g,v.ownBlock=some g->g<hi)->w'.ownsRow lo e sz v n xs:=fun a b=>aR a K fun g e=>hS g (a.lt g e).1 (b g e);exact⟨bq K H.blk (hS tb H.fC.1 H.fC.2.1),⟨H.fC.1,H.fC.2.1,H.fC.2.2.1,H.fC.2.2.2.1,bA H.fC.2.2.2.2 K.size⟩,
  a H.row (ht _ ay),a H.xs (ht _ ay),
  ⟨bq K H.iH.blk (hS fb H.fC.2.2.1 H.fC.2.2.2.1),a H.iH.row (ht _ ay)⟩,a H.jg (ht _ ay),a H.oo (ht _ ay),H.top⟩
theorem cZ.below {B:Nat} (H:cZ w lo hi tb fb R h cnt V) (a:Below B w w') (e:hi<=B):cZ w' lo hi tb fb R h cnt V:=
 H.kept (S:=fun k=>hi<=k) ⟨a.os,a.tape,a.output,a.size,fun k f g=>a.block k aa⟩ fun k b c d=>aa
theorem cZ.FY (H:cZ w lo hi tb fb R h cnt V):tb<w.heap.size:=bX H.fC.2.1 H.fC.2.2.2.2
theorem cZ.nodes (H:cZ w lo hi tb fb R h cnt V) (l:0<R.length):∃g off c,V.nv=.slice (some (af g off)) (aX R.length).length c/\bY oM 7 w (some (af g off)) (aX R.length):=by
 have m:=dh R.length;have⟨g,c,e,_⟩:=aV H.jg aa;obtain⟨a,i,b,-,-,d⟩:=bY.aJ jA ai H.jg;rw[e]at b;injection b with f j k;rw[<-f]at d;exact⟨g,0,c,e,d⟩
theorem cZ.holds (H:cZ w lo hi tb fb R h cnt V) (r:0<R.length):∃g c,V.hv=aA g (aX R.length).length c/\lo<=g/\g<hi/\g≠tb/\g≠fb/\g<w.heap.size/\(∀k,k<(aX R.length).length->w.cell? (af g k)=some (ae (oq (h k)))/\w.frozen? (af g k)=false)/\
  (∀a,V.rv.ownBlock=some a->a≠g)/\(∀a,V.xv.ownBlock=some a->a≠g)/\(∀a,V.nv.ownBlock=some a->a≠g)/\∀a,V.fv.ownBlock=some a->a≠g:=by
 have x:=dh R.length;have⟨g,c,e,y,u,s,t⟩:=aV H.oo aa;have b:=H.oo;rw[e]at b;have p:(aA g (aX R.length).length c).ownBlock=some g:=rfl;have f:∀{j:TypeId} {sz n:Nat} {v:Value} {xs:List Value},w.ownsRow lo j sz v n xs->j≠3->∀a,v.ownBlock=some a->a≠g:=fun q o a d l=>bB q b o a d (l▸p);refine⟨g,c,e,(b.lt g rfl).1,H.top V.hv ay g (by rw[e];rfl),fun i=>bn b H.blk ai g rfl i.symm,fun i=>bn b H.iH.blk ai g rfl i.symm,(b.lt g rfl).2,fun k m=>⟨?_,b.frozenAt k⟩,f H.row ai,f H.xs ai,f H.jg ai,f H.iH.row ai⟩;have d:=b.cellAt k aa;rw[K8 h m]at d;exact d
theorem cZ.nP (H:cZ w lo hi tb fb R h cnt V) {g n c:Nat} (i:V.hv=aA g n c) {k:Nat} (j:k<(aX R.length).length) (v:Option Nat):
  cZ (w.setCell (af g k) (.int .i64 (oq v))) lo hi tb fb R (gB h k v) cnt V:=by
 have K:ax (fun k=>k=g) w (w.setCell (af g k) (.int .i64 (oq v))):=(ax.refl (fun k=>k=g) w).set (a:=(af g k)) _ (.inl rfl);have e:=H.oo;rw[i]at e;have l:n=(aX R.length).length:=by
  rcases e.2 with⟨d,-⟩|⟨p,m,o,d,-⟩
  .cases d
  .injection d with _ d _
 subst l;have⟨cs,fr,b⟩:=qE e;have f:=(e.stored k (.int .i64 (oq v))).1;rw[K9 h j v]at f;refine⟨Fj H.blk K b ai,aQ H.fC,fu H.row K b ai,fu H.xs K b ai,yQ H.iH K b ai ai,fu H.jg K b ai,?_,H.top⟩;rw[i];exact f
theorem cZ.BV (H:cZ w lo hi tb fb R h cnt V) (m:Int):cZ (w.setCell (af tb 5) (.int .i64 m)) lo hi tb fb R h m V:=by
 have K:ax (fun k=>k=tb) w (w.setCell (af tb 5) (.int .i64 m)):=(ax.refl (fun k=>k=tb) w).set (a:=(af tb 5)) _ (.inl rfl);have b:=H.blk;exact⟨di w tb 5 _ _ _ H.blk,aQ H.fC,fu H.row K b ai,fu H.xs K b ai,yQ H.iH K b ai ai,fu H.jg K b ai,fu H.oo K b ai,H.top⟩
end
abbrev y8 (fr ub:Nat) (y:Int) (F:Nat) (cb:Array Value) (c:Nat):Obj:=.cells #[ae fr,ae ub,ae y,.func (.func F) #[] cb,ae c] 250 (0,0)
structure Pe (F:Nat) (cb:Array Value) (more:Bool) (R:List Pt) (w0:World) (FL:List Nat) (S:World->List Nat->(Nat->Prop)->Prop):Prop where
 enters:∀args w,(callFunc F args).run prog w=.ok (.enter F args) w
 base:∀W acc D,S W acc D->Below w0.heap.size w0 W
 lt:∀W acc D,S W acc D->∀k,D k->w0.heap.size<=k/\k<W.heap.size
 jE:∀W W' acc D E,S W acc D->ax E W W'->(∀k,E k->w0.heap.size<=k/\¬D k)->S W' acc D
 told:∀W acc D i,S W acc D->i<R.length->acc++[i] <+: FL->
  aK F (#[jc (bU R i).1 (bU R i).2.1 (bU R i).2.2]++cb) W fun e w'=>e=.returned (.bool more)/\∃D',S w' (acc++[i]) D'/\(∀k,D' k->D k\/W.heap.size<=k)/\ax D W w'
def MJ (S:World->List Nat->(Nat->Prop)->Prop) (W:World) (D:Nat->Prop) (ab fr ub:Nat) (y:Int) (F:Nat) (cb:Array Value) (c:Nat) (acc:List Nat) (r:List Nat×Nat×Bool) (e:Ending) (w':World):Prop:=
 e=.returned (.bool r.2.2)/\∃D',S w' (acc++r.1) D'/\(∀k,D' k->D k\/W.heap.size<=k)/\ax (fun k=>D k\/k=ab) W w'/\w'.heap[ab]? =some (y8 fr ub y F cb (c+r.2.1))
theorem JO {P:Program} {ops:Array Oper} {o:Oper} {a:Act} {K:Act->World->Prop} {Q:Exit->Act->World->Prop} {E0:Prop} {f:FuncId} {w:World} {vals:Array Value} {R:Ending->World->Prop} (i:∀args w,(callFunc f args).run P w=.ok (.enter f args) w) (n:Region.wanted o (yielded ops a.tmps)=true) (g:Operand) (args:Array Operand) (p:Array TypeId) (l:o.op=.call {callee:=.value g,args:=args,argTypes:=p})
  (cb:Array Value) (j:a.eval g=.func (.func f) #[] cb) (c:vals=(args.toList.map a.eval).toArray++cb)
  (C:Calls P f vals w R) (h:∀e w',R e w'->∃v,e=.returned v/\K (a.put o.dst v) w'):
  if Region.wanted o (yielded ops a.tmps)=true then Oper.wp P o a w K Q else E0:=by
 rw[aO n];unfold Oper.wp;have b:args.map a.eval++cb=vals:=by rw[c,<-Ex]
 have d:(execOp a.eval o).run P w=.ok (.enter f vals) w:=by
  simp[execOp,l,resolve,invoke,j,b,Deferred.ofValue,i]
 rw[d,Oper.upon_enter];refine C.mono fun e w' m=>?_;obtain⟨v,rfl,k⟩:=h e w' m;exact k
theorem Cj (F:Nat) (cb:Array Value) (more:Bool) (R:List Pt) (h:iI) (cnt:Int) (V:mq) (lo hi tb fb b:Nat) (w0:World) (S:World->List Nat->(Nat->Prop)->Prop) (y:Int) (fr ub:Nat) (N:List Nat)
  (aq:Pe F cb more R w0 N S) (br:cZ w0 lo hi tb fb R h cnt V) (dY:R.length<=20000) (dZ:w0.heap.size<=b)
  (t:FT) (s:Nat) (W:World) (f:List Nat) (D:Nat->Prop) (c:Nat) (bt:FT.At (aX R.length) t s) (a0:t.wf) (c4:t.hi<=R.length) (cd:gP (zU R) h t s) (hS:S W f D) (b2:¬D b) (aV:W.heap[b]? =some (y8 fr ub y F cb c)) (cY:c+t.size<=1000000)
  (b4:f++(downG more h (lL R) y fr ub t s).1 <+: N)
  (da:∀l r,t=.node l r->(∀W f D c,S W f D->¬D b->W.heap[b]? =some (y8 fr ub y F cb c)->c+l.size<=1000000->f++(downG more h (lL R) y fr ub l s).1 <+: N->
    aK 174 #[aj tb,ae (l.root s:Nat),aj b] W (MJ S W D b fr ub y F cb c f (downG more h (lL R) y fr ub l s)))/\
    ∀W f D c,S W f D->¬D b->W.heap[b]? =some (y8 fr ub y F cb c)->c+r.size<=1000000->f++(downG more h (lL R) y fr ub r (s+l.size)).1 <+: N->
    aK 174 #[aj tb,ae (r.root (s+l.size):Nat),aj b] W (MJ S W D b fr ub y F cb c f (downG more h (lL R) y fr ub r (s+l.size)))):
  aK 174 #[aj tb,ae (t.root s:Nat),aj b] W (MJ S W D b fr ub y F cb c f (downG more h (lL R) y fr ub t s)):=by
 have b1:0<R.length:=by have:=t.fe a0;omega
 have ea:=t.size_pos;have d0:=aq.base W f D hS;have cR:=aq.lt W f D hS;have cm:=ag cR;clear cR;have eq:b<W.heap.size:=(aY.1 aV).1;have dg:W.cell? (af b 4)=some (ae c):=aD aV;have eo:W.frozen? (af b 4)=false:=aD aV;have er:c+1<=1000000:=aa;obtain⟨w1,aT⟩:∃w1,w1=W.setCell (af b 4) (.int .i64 ((c+1:Nat):Int)):=⟨_,rfl⟩;have bP:ax (fun k=>k=b) W w1:=by rw[aT];exact(ax.refl (fun k=>k=b) W).set (a:=(af b 4)) _ (.inl rfl)
 have ar:w1.heap[b]? =some (y8 fr ub y F cb (c+1)):=by rw[aT];exact di W b 4 _ _ _ aV
 have b7:S w1 f D:=aq.jE W w1 f D _ hS bP (fun k Q=>by subst Q;exact⟨dZ,b2⟩);have cX:=aq.base w1 f D b7;have ao:=br.below cX br.fC.2.2.2.2;obtain⟨dW,off,cn,env,dn⟩:=ao.nodes b1;obtain⟨dV,ch,cG,-,-,-,-,es,c0,-⟩:=ao.holds b1;obtain⟨dl,dm,cI,-,-,dp⟩:=bY.aJ bg ai ao.row;have aU:=ao.blk;rw[env,cG,cI]at aU;have c3:=bt.get;have b8:=bt.lt;obtain⟨et,n0,bx,bz,a2,a3,cc,bA⟩:=mY dn c3;rw[FT.EI]at a2;rw[FT.vF]at a3;have bm:=(c0 _ b8).1;have eb:tb<w1.heap.size:=ao.FY;have bT:w1.cell? (af tb 0)=some (.slice dl R.length dm):=aD aU;have bV:w1.cell? (af tb 3)=some (.slice (some (af dW off)) (aX R.length).length cn):=aD aU;have bX:w1.cell? (af tb 4)=some (aA dV (aX R.length).length ch):=aD aU;have dq:w1.cell? (af b 0)=some (ae fr):=aD ar;have dr:w1.cell? (af b 1)=some (ae ub):=aD ar;have ds:w1.cell? (af b 2)=some (ae y):=aD ar;have dt:w1.cell? (af b 3)=some (.func (.func F) #[] cb):=aD ar;have c5:=t.fe a0;have dX:(aX R.length).length<=40000:=by rw[dh];omega
 have d8:=t.size_pos;obtain⟨m,bZ⟩:∃m,m=t.hi:=⟨_,rfl⟩;obtain⟨tl,b0⟩:∃tl,tl=t.lo:=⟨_,rfl⟩;rw[<-bZ]at a3 c4 c5;rw[<-b0]at a2 c5;obtain⟨K,u⟩:∃K,K=t.root s:=⟨_,rfl⟩;obtain⟨d,hd⟩:∃d,d=t.top s:=⟨_,rfl⟩;obtain⟨o,bv⟩:∃o,o=h (t.root s):=⟨_,rfl⟩;rw[<-hd]at n0 bx bz bA;rw[<-bv]at bm;rw[<-u]at n0 bx bz a2 a3 cc bA b8 bm;obtain⟨r,H⟩:∃r,r=downG more h (lL R) y fr ub t s:=⟨_,rfl⟩;have aL:Hid (m=t.hi/\tl=t.lo/\K=t.root s/\d=t.top s/\o=h (t.root s)/\r=downG more h (lL R) y fr ub t s):=⟨bZ,b0,u,hd,bv,H⟩;rw[<-H]at b4 |-;rw[<-u];have co:=ag b4;have P:=ag aq;have cx:=ag b7;have ep:=ag br;have cw:=ag dp;have ct:=ag da;have dD:=ag cd;have cp:=ag bP;have cg:=ag ar;have dI:=ag a0;have dy:=ag bt;have dz:=ag cY;have bH:=ag b2;have de:w1.heap.size=W.heap.size:=by rw[aT];simp
 have cz:=ag de;obtain⟨M,b6⟩:∃M,M=(aX R.length).length:=⟨_,rfl⟩;obtain⟨a4,b9⟩:∃a4,a4=R.length:=⟨_,rfl⟩;rw[<-b6]at bV bX b8 dX;rw[<-b9]at bT dY c4 b1;have dB:Hid (M=(aX R.length).length/\a4=R.length):=⟨b6,b9⟩;have X:b<w1.heap.size:=aa;have db:∀i,o=some i->i<a4/\tl<=i/\i<m:=fun i cH=>by
  rw[bv]at cH;obtain⟨L,dR⟩:=o8 cH;have:=cd.span a0 i (by rw[dR];simp);omega
 have cv:=ag db;clear db bZ b0 u hd bv H b4 aq b7 br dp da cd bP ar a0 bt cY b2 de b6 b9 aU c3 env cG cI c0 dn hS d0 ao cX d8 ea aV;go_enter func174,ntmps174
 go_upto_region 2 with fail
 rw[show W.setCell (af b 4) (.int .i64 ((c:Int)+1))=w1 by rw[aT];rfl];clear aT dg eo;obtain⟨w2,bn⟩:∃w2,w2=(w1.alloc (.cells #[.int .u8 d.kind,ae d.l,ae d.r,ae tl,ae m,ae 0,ae d.item] 163)).drew:=⟨_,rfl⟩;have v:Below w1.heap.size w1 w2:=by rw[bn];exact((aI _ _).alloc (aB _) _).drew
 have I:w2.heap[w1.heap.size]? =some (.cells #[.int .u8 d.kind,ae d.l,ae d.r,ae tl,ae m,ae 0,ae d.item] 163 (0,0)):=by rw[bn];exact bW w1 _
 have ci:=ag v;have bj:=ag I;have bL:Hid (S w2 f D):=P.o.jE w1 w2 f D (fun _=>False) cx.o ((ax.refl _ w1).below v) (fun k h=>h.elim);clear v I;have bo:=ah bV;have bp:=ah bX;have ec:=ah n0;have ee:=ah bx;have ef:=ah bz;have eg:=ah a2;have eh:=ah a3;have ei:=ah cc;have ej:=ah bA;have ek:=ah bm;refine au (fun W=>∃p:aS w1,W=p.W) [16] [(0,false),(1,false),(2,false),(3,true),(4,false),(5,false),(6,true),(7,false),(8,false),(9,false),(10,true),(11,false),(12,false),(13,true)] ⟨⟨_,(aI _ _).drew⟩,rfl⟩ 3 ?_;refine aC 14 rfl fun K u=>?_;go_simp;refine u _ _ (fun _ _=>⟨⟨_,(aI _ w1).alloc (aB _) _|>.drew⟩,rfl⟩) ?_;clear u K;refine aC 15 rfl fun K u=>?_;go_simp;refine u _ _ (fun _ _=>⟨⟨_,(aI _ w1).alloc (aB _) _|>.drew⟩,rfl⟩) ?_;clear u K;refine aG [16] ?_;rw[<-bn];clear bo bp ec ee ef eg eh ei ej ek bn
 go_upto_region 3 with fail
 have v:=ci.o;have a1:w1.heap.size<w2.heap.size:=(aY.1 bj.o).1;have I:=bj.o;have bk:=(v.cell (p:=(af tb 0)) eb).trans bT;have t0:=(v.cell (p:=(af b 0)) X).trans dq;have t1:=(v.cell (p:=(af b 1)) X).trans dr;have t2:=(v.cell (p:=(af b 2)) X).trans ds;have t3:=(v.cell (p:=(af b 3)) X).trans dt;have C:w2.cell? (af w1.heap.size 0)=some (.int .u8 d.kind):=aD I;have x1:w2.cell? (af w1.heap.size 1)=some (ae d.l):=aD I;have x2:w2.cell? (af w1.heap.size 2)=some (ae d.r):=aD I;have eF:w2.cell? (af w1.heap.size 3)=some (ae tl):=aD I;have eG:w2.cell? (af w1.heap.size 4)=some (ae m):=aD I;have bE:Hid (w2.heap[b]? =some (y8 fr ub y F cb (c+1))):=(v.block b X).trans cg.o;have bJ:Hid (ax (fun k=>D k\/k=b) W w2):=(cp.o.mono fun k h=>.inr h).below v;have aR:Hid (bY dw 3 w2 dl R):=cw.o.below v;have bD:Hid (∀(a5:World) (n:Nat),Below w2.heap.size w2 a5->r=([],1,true)->MJ S W D b fr ub y F cb c f r (.returned (.bool true)) a5):=fun a5 n G e=>by
  rw[e];show MJ S W D b fr ub y F cb c f ([],1,true) _ _;refine⟨rfl,D,?_,fun k h=>.inl h,bJ.o.below G,(G.block b (vw X a1)).trans bE.o⟩;show S a5 (f++[]) D;rw[iP];exact P.o.jE w2 a5 f D (fun _=>False) bL.o ((ax.refl _ w2).below G) (fun k h=>h.elim)
 clear v I bT bV bX dq dr ds dt n0 bx bz a2 a3 cc bA bm;cases o with
 |none=>
  have H:r=([],1,true):=by
   obtain⟨-,-,-,-,w,x⟩:=aL.o;rw[x];exact ny w.symm
  have aF:Hid (∀n,MJ S W D b fr ub y F cb c f r (.returned (.bool true)) (w2.drewN n)):=fun n=>bD.o _ n (Below.bu _ _) H;clear H;simp only[oq]
  go_quiet (fail)
  go_wp2;go_ret;exact aF.o _
 |some i=>
  obtain⟨d5,eu,ev⟩:=cv.o i rfl;have aW:i<R.length:=by rw[<-dB.o.2];exact d5
  obtain⟨bB,bC,dS,ew,bw⟩:=aR.o.get aa;have ab:=bw i aW 0 aa;have ac:=bw i aW 1 aa;have ad:=bw i aW 2 aa;simp only[dw,fZ,dC,dK]at ab ac ad;rw[<-dF aW]at ab ac ad;subst dS;have df:lL R i=(bU R i).2.1:=rfl;have cB:Hid (∀W f D,S W f D->f++[i] <+: N->aK F (#[jc (bU R i).1 (bU R i).2.1 (bU R i).2.2]++cb) W fun e w'=>e=.returned (.bool more)/\∃cf,S w' (f++[i]) cf/\(∀k,cf k->D k\/W.heap.size<=k)/\ax D W w'):=fun W f D J cK=>P.o.told W f D i J aW cK;have bO:=ag df;clear bw df;generalize bU R i=p at*;obtain⟨dk,A,dj⟩:=p;simp only at ab ac ad;simp only[Pd];have dO:((i:Int)==-1)=false:=by first|(simp;done)|(simp;omega)
  have dP:decide ((i:Int)=-1)=false:=by first|(simp;done)|(simp;omega)
  by_cases hp:y<A\/m<=fr\/ub<=tl
  .have H:r=([],1,true):=by
    obtain⟨aw,az,-,-,w,x⟩:=aL.o;rw[x];refine mH w.symm ?_;have:=bO.o;simp only at this;rw[this,<-aw,<-az];exact hp
   have aF:Hid (∀n,MJ S W D b fr ub y F cb c f r (.returned (.bool true)) (w2.drewN n)):=fun n=>bD.o _ n (Below.bu _ _) H;clear H;by_cases J:y<A
   .have d1:decide (A>y)=true:=aH;have d2:decide (y<A)=true:=aH;clear hp
    go_quiet (fail)
    go_wp2;go_ret;exact aF.o _
   .have d1:decide (A>y)=false:=aH;have d2:decide (y<A)=false:=aH;by_cases cK:m<=fr
    .have f1:decide ((m:Int)<=(fr:Int))=true:=aH;have f2:decide (m<=fr)=true:=aH;clear hp
     go_quiet (fail)
     go_wp2;go_ret;exact aF.o _
    .have f1:decide ((m:Int)<=(fr:Int))=false:=aH;have f2:decide (m<=fr)=false:=aH;have f3:decide ((tl:Int)>=(ub:Int))=true:=aH;have f4:decide ((ub:Int)<=(tl:Int))=true:=aH;have f5:decide (ub<=tl)=true:=aH;clear hp
     go_quiet (fail)
     go_wp2;go_ret;exact aF.o _
  .have d1:decide (A>y)=false:=aH;have d2:decide (y<A)=false:=aH;have f1:decide ((m:Int)<=(fr:Int))=false:=aH;have f2:decide (m<=fr)=false:=aH;have f3:decide ((tl:Int)>=(ub:Int))=false:=aH;have f4:decide ((ub:Int)<=(tl:Int))=false:=aH;have f5:decide (ub<=tl)=false:=aH;have bK:=ag hp;clear hp bD
   go_quiet (fail)
   obtain⟨w3,q⟩:∃w3,w3=w2.drewN nq:=⟨_,rfl⟩;have a7:Hid (Below w2.heap.size w2 w3):=by rw[q];exact Below.bu _ _
   have bk:w3.cell? (af tb 0)=some (.slice (some (af bB bC)) a4 dm):=by rw[q];exact bk
   have t0:w3.cell? (af b 0)=some (ae fr):=by rw[q];exact t0
   have t1:w3.cell? (af b 1)=some (ae ub):=by rw[q];exact t1
   have t3:w3.cell? (af b 3)=some (.func (.func F) #[] cb):=by rw[q];exact t3
   have C:w3.cell? (af w1.heap.size 0)=some (.int .u8 d.kind):=by rw[q];exact C
   have x1:w3.cell? (af w1.heap.size 1)=some (ae d.l):=by rw[q];exact x1
   have x2:w3.cell? (af w1.heap.size 2)=some (ae d.r):=by rw[q];exact x2
   have ab:w3.cell? (af bB (bC+i*3))=some (ae dk):=by rw[q];exact ab
   have ac:w3.cell? (af bB (bC+i*3+1))=some (ae A):=by rw[q];exact ac
   have ad:w3.cell? (af bB (bC+i*3+2))=some (ak dj):=by rw[q];exact ad
   have bM:Hid (S w3 f D):=P.o.jE w2 w3 f D (fun _=>False) bL.o ((ax.refl _ w2).below a7.o) (fun k h=>h.elim);have ba:Hid (ax (fun k=>D k\/k=b) W w3):=bJ.o.below a7.o;have bF:Hid (w3.heap[b]? =some (y8 fr ub y F cb (c+1))):=(a7.o.block b (vw X a1)).trans bE.o;have Y:w1.heap.size<w3.heap.size:=by rw[q];exact a1
   go_upto_region 5 with fail
   rw[<-q];clear q;obtain⟨T,cF⟩:∃T:List Nat,T=(if fr<=i/\i<ub then[i]else[]):=⟨_,rfl⟩;have aM:=ag cF;clear cF;obtain⟨g,ca⟩:∃g,g=w1.heap.size:=⟨_,rfl⟩;have bc:=ag ca;rw[<-ca]at C x1 x2 Y a1 bj |-;clear ca
   go_cut [93]from 65 (fun em al=>∃(bl:Bool) (E:Nat->Prop),em=.bool bl/\Hid (bl=(decide (fr<=i/\i<ub)&&!more))/\Hid (S al (f++T) E)/\Hid (∀k,E k->D k\/W.heap.size<=k)/\Hid (ax (fun k=>D k\/k=b) W al)/\Hid (al.heap[b]? =some (y8 fr ub y F cb (c+1)))/\Hid (¬E b)/\
    al.cell? (af g 0)=some (.int .u8 d.kind)/\al.cell? (af g 1)=some (ae d.l)/\al.cell? (af g 2)=some (ae d.r)/\Hid (¬E g/\g<al.heap.size))
   case first=>
    by_cases av:fr<=i/\i<ub
    .have g1:decide ((i:Int)>=(fr:Int))=true:=aH;have cJ:decide ((fr:Int)<=(i:Int))=true:=aH;have bo:decide (fr<=i)=true:=aH;have bp:decide ((i:Int)<(ub:Int))=true:=aH;have dU:decide (i<ub)=true:=aH;have ez:=ah bk;have eA:=ah t0;have eB:=ah t1;have eC:=ah t3;have dg:=ah ab;have eD:=ah ac;have eE:=ah ad;refine au (fun W=>∃p:aS w3,W=p.W) [26,27,28] [(0,false),(1,false),(2,false),(3,false),(4,true),(5,false),(6,false),(7,false),(8,false),(9,false),(10,false),(11,true),(12,false),(13,false),(14,false),(15,false),(16,false),(17,false),(18,true),(19,false),(20,false),(21,false),(22,true),(23,false),(24,false),(25,true)] ⟨⟨_,(aI _ _).drew⟩,rfl⟩ 3 ?_;refine aC 26 rfl fun K u=>?_;have cA:S w3.drew f D:=P.o.jE w3 w3.drew f D (fun _=>False) bM.o (ax.refl _ w3).drew (fun k h=>h.elim);have cs:f++[i] <+: N:=by
      obtain⟨aw,az,-,-,w,x⟩:=aL.o;have J:=O5 (more:=more) (yv:=lL R) (y:=y) (fr:=fr) (ub:=ub) w.symm (by rw[bO.o,<-aw,<-az];exact bK.o) av;rw[<-x]at J;exact((List.prefix_append_right_inj f).2 J).trans co.o
     refine JO P.o.enters (by first|rfl|(go_simp;done)) (.tmp 83) _ _ rfl cb rfl (vals:=#[jc dk A dj]++cb) rfl (cB.o w3.drew f D cA cs) ?_;rintro e w4 ⟨rfl,aE,cU,bs,cS⟩;refine⟨_,rfl,u _ _ (fun _ h=>absurd ay h) ?_⟩;clear u K;refine aG [27,28] ?_;have cQ:¬D b:=bH.o;have ap:¬D g:=fun j=>by have:=cm.o g j;have:=cz.o;have:=bc.o;omega
     have ex:b<w3.heap.size:=vw (by have:=bc.o;omega) Y;have U:ax D w3 w4:=(ax.refl D w3).drew.trans cS;have en:=((cu U Y ap).1 0).trans C;have y1:=((cu U Y ap).1 1).trans x1;have y2:=((cu U Y ap).1 2).trans x2;have ey:=U.size;have be:Hid (S w4 (f++T) aE):=by rw[aM.o,aO av];exact cU
     have dG:Hid (∀k,aE k->D k\/W.heap.size<=k):=fun k j=>(bs k j).imp id fun h8=>by
      have cL:w3.heap.size<=k:=h8;have:=ba.o.size;omega
     have bf:Hid (ax (fun k=>D k\/k=b) W w4):=ba.o.trans (U.mono fun k h=>.inl h);have bh:Hid (w4.heap[b]? =some (y8 fr ub y F cb (c+1))):=bq U bF.o cQ;have aP:Hid (¬aE b/\¬aE g/\g<w4.heap.size):=⟨fun j=>by
      rcases bs b j with h8|h8
      .exact cQ h8
      .have cL:w3.heap.size<=b:=h8;omega,fun j=>by
      rcases bs g j with h8|h8
      .exact ap h8
      .have cL:w3.heap.size<=g:=h8;omega,aa⟩
     have bi:Hid ((!more)=(decide (fr<=i/\i<ub)&&!more)):=by show _=_;simp[av]
     clear cS cU bs U cA cs;go_wp2;go_meet;exact⟨_,aE,rfl,bi,be,dG,bf,bh,aP.o.1,en,y1,y2,aP.o.2⟩
    .have dT:(decide ((i:Int)>=(fr:Int))=true/\decide ((i:Int)<(ub:Int))=false)\/decide ((i:Int)>=(fr:Int))=false:=aH;have ap:¬D g:=fun j=>by have:=cm.o g j;have:=cz.o;have:=bc.o;omega
     have be:Hid (∀n,S (w3.drewN n) (f++T) D):=fun n=>by
      rw[aM.o,aN av,iP];exact P.o.jE w3 _ f D (fun _=>False) bM.o ((ax.refl _ w3).below (Below.bu _ _)) (fun k h=>h.elim)
     have bf:Hid (∀n,ax (fun k=>D k\/k=b) W (w3.drewN n)):=fun n=>ba.o.below (Below.bu _ _);have bh:Hid (∀n,(w3.drewN n).heap[b]? =some (y8 fr ub y F cb (c+1))):=fun n=>bF.o;have aP:Hid (¬D g/\g<w3.heap.size):=⟨ap,Y⟩;have bi:Hid (false=(decide (fr<=i/\i<ub)&&!more)):=by show _=_;simp[av]
     have am:Hid (∀n o,(w3.drewN n).cell? (af g o)=w3.cell? (af g o)):=fun n o=>rfl;clear av;rcases dT with⟨g1,cJ⟩|g1
     .have bo:decide ((fr:Int)<=(i:Int))=true:=aQ g1;have bp:decide (fr<=i)=true:=aQ g1;have dU:decide (i<ub)=false:=aQ cJ
      go_quiet (fail)
      go_wp2;go_meet;exact⟨_,D,rfl,bi,be.o _,fun k h=>.inl h,bf.o _,bh.o _,bH.o,(am.o _ _).trans C,(am.o _ _).trans x1,(am.o _ _).trans x2,aP.o⟩
     .have bo:decide ((fr:Int)<=(i:Int))=false:=aQ g1;have bp:decide (fr<=i)=false:=aQ g1
      go_quiet (fail)
      go_wp2;go_meet;exact⟨_,D,rfl,bi,be.o _,fun k h=>.inl h,bf.o _,bh.o _,bH.o,(am.o _ _).trans C,(am.o _ _).trans x1,(am.o _ _).trans x2,aP.o⟩
   case rest=>
    obtain⟨bl,E,rfl,ck,bN,a9,bb,a8,cr,C,x1,x2,cq⟩:=hcut;have c7:=bK.o;obtain⟨aw,az,el,Z,w,x⟩:=aL.o;have c9:¬(y<lL R i\/t.hi<=fr\/ub<=t.lo):=by rw[bO.o,<-aw,<-az];exact c7
    have bd:=ag c9;have d7:=cq.o.2;have d6:g≠b:=by have:=bc.o;omega
    clear c7 aw az el c9 bK ba bF bM a7 ci bj bL aR bJ bE cB cg cp cx cw dO dP d1 d2 f1 f2 f3 f4 f5 bk t0 t1 t3 ab ac ad Y a1;cases bl with
    |true=>
     have G:=ck.o;simp only[Bool.true_eq,mP,bQ,oG]at G;have z:r=([i],1,false):=by rw[x,G.2];exact BZ w.symm bd.o G.1
     have O:Hid (MJ S W D b fr ub y F cb c f r (.returned (.bool false)) wc):=by
      rw[z];have J:=bN.o;rw[aM.o,aO G.1]at J;exact⟨rfl,E,J,a9.o,bb.o,a8.o⟩
     clear z G Z w x;go_wp2;go_ret;exact O.o
    |false=>
     have cl:=ag ck.o.symm;cases t with
     |leaf a=>
      have Q:d.kind=1:=by rw[Z];rfl
      have z:r=(T,1,true):=by
       have dQ:h s=some i:=w.symm;rw[x,vP dQ bd.o,cl.o,aM.o];rfl
      have O:Hid (MJ S W D b fr ub y F cb c f r (.returned (.bool true)) wc):=by
       rw[z];exact⟨rfl,E,bN.o,a9.o,bb.o,a8.o⟩
      rw[Q]at C;clear z Q Z w x x1 x2;go_wp2;go_ret;exact O.o
     |node l B=>
      have Q:d.kind=2:=by rw[Z];rfl
      have c1:d.l=((l.root s:Nat):Int):=by rw[Z];show((s+l.size:Nat):Int)-1=_;unfold FT.root;have:=l.size_pos;omega
      have c2:d.r=((B.root (s+l.size):Nat):Int):=by rw[Z];show((s+l.size+B.size:Nat):Int)-1=_;unfold FT.root;have:=B.size_pos;omega
      have z:=Ca (more:=more) (yv:=lL R) (y:=y) (fr:=fr) (ub:=ub) w.symm bd.o cl.o;rw[<-x,<-aM.o]at z;have dc:=qF (h:=h) (yv:=lL R) (y:=y) (fr:=fr) (ub:=ub) more l s;have dd:=qF (h:=h) (yv:=lL R) (y:=y) (fr:=fr) (ub:=ub) more B (s+l.size);have d4:=dz.o;have d9:(FT.node l B).size=l.size+B.size+1:=rfl;obtain⟨bR,bS⟩:=ct.o l B rfl;rw[Q]at C;rw[c1]at x1;rw[c2]at x2;have aZ:=co.o;rw[z]at aZ;generalize downG more h (lL R) y fr ub l s=dM at*;generalize downG more h (lL R) y fr ub B (s+l.size)=dN at*;obtain⟨cC,an,cD⟩:=dM;obtain⟨dJ,cE,dL⟩:=dN;simp only at z dc dd aZ bR bS;have c8:(f++T)++cC <+: N:=by
       refine List.IsPrefix.trans ?_ aZ;exact⟨if cD then dJ else[],by simp only[ed]⟩
      have du:=ag (bR wc (f++T) E (c+1) bN.o cr.o a8.o aa c8);have dH:=ag bS;have aR:=ag z;have dE:=ag aZ;have d3:c+1+l.size<=1000000/\c+1+an+B.size<=1000000:=aa;clear bR bS z aZ c8 Q c1 c2 Z w x dc dd d4 d9 ct aL dD dI dy bd cv;generalize l.root s=kl at*;generalize B.root (s+l.size)=kr at*
      go_wp2_with fail
      refine du.o.mono ?_;rintro e ce ⟨rfl,a6,cV,b3,b5,cM⟩;have cO:¬a6 b:=fun j=>by
       rcases b3 b j with h8|h8
       .exact cr.o h8
       .have:=(aY.1 a8.o).1;omega
      have c6:¬(E g\/g=b):=fun j=>j.elim cq.o.1 d6;have x2:=((cu b5 d7 c6).1 2).trans x2;have cy:=ag cV;have bG:Hid (∀k,a6 k->D k\/W.heap.size<=k):=fun k j=>by
       rcases b3 k j with h8|h8
       .exact a9.o k h8
       .have:=bb.o.size;exact .inr aa
      have bI:Hid (ax (fun k=>D k\/k=b) W ce):=((bb.o.mono (S':=fun k=>(D k\/k=b)\/W.heap.size<=k) (fun k h=>.inl h)).trans (b5.mono fun k j=>by
       rcases j with h8|h8
       .exact(a9.o k h8).imp .inl id
       .exact .inl (.inr h8))).strip
      have cj:=ag cM;have dA:=ag cO;clear cV b3 b5 cM cO c6 C x1;cases cD with
      |false=>
       have O:Hid (MJ S W D b fr ub y F cb c f r (.returned (.bool false)) ce):=by
        rw[aR.o];simp only[qP,jC,iP,Bool.false_and,dK];refine⟨rfl,a6,?_,bG.o,bI.o,?_⟩
        .have:=cy.o;rwa [ed]at this
        .have:=cj.o;rw[show c+(1+an)=c+1+an by omega];exact this
       go_wp2;go_ret;exact O.o
      |true=>
       have dv:=ag (dH.o ce (f++T++cC) a6 (c+1+an) cy.o dA.o cj.o d3.2 (by
        have:=dE.o;simp only[gF]at this;simpa only[ed]using this))
       go_wp2_with fail
       refine dv.o.mono ?_;rintro e w6 ⟨rfl,dx,cW,cP,cT,cN⟩;have O:Hid (MJ S W D b fr ub y F cb c f r (.returned (.bool dL)) w6):=by
        rw[aR.o];simp only[gF,Bool.true_and];refine⟨rfl,dx,?_,fun k j=>?_,?_,?_⟩
        .simpa only[ed]using cW
        .rcases cP k j with h8|h8
         .exact bG.o k h8
         .have:=bI.o.size;exact .inr aa
        .exact((bI.o.mono (S':=fun k=>(D k\/k=b)\/W.heap.size<=k) (fun k h=>.inl h)).trans (cT.mono fun k j=>by
          rcases j with h8|h8
          .exact(bG.o k h8).imp .inl id
          .exact .inl (.inr h8))).strip
        .rw[show c+(1+an+cE)=c+1+an+cE by omega];exact cN
       clear cW cP cT cN;go_wp2;go_ret;exact O.o
theorem MK (F:Nat) (cb:Array Value) (more:Bool) (R:List Pt) (h:iI) (cnt:Int) (V:mq) (lo hi tb fb d:Nat) (w0:World) (S:World->List Nat->(Nat->Prop)->Prop) (y:Int) (fr ub:Nat) (n:List Nat)
  (u:Pe F cb more R w0 n S) (p:cZ w0 lo hi tb fb R h cnt V) (q:R.length<=20000) (v:w0.heap.size<=d):
  ∀(t:FT) (s:Nat) (W:World) (b:List Nat) (D:Nat->Prop) (c:Nat),FT.At (aX R.length) t s->t.wf->t.hi<=R.length->gP (zU R) h t s->S W b D->¬D d->W.heap[d]? =some (y8 fr ub y F cb c)->c+t.size<=1000000->
  b++(downG more h (lL R) y fr ub t s).1 <+: n->
  aK 174 #[aj tb,ae (t.root s:Nat),aj d] W (MJ S W D d fr ub y F cb c b (downG more h (lL R) y fr ub t s)):=by
 intro t
 induction t with
 |leaf a=>exact fun s W b D c k j o m hS f g i hF=>Cj F cb more R h cnt V lo hi tb fb d w0 S y fr ub n u p q v _ s W b D c k j o m hS f g i hF (fun l r e=>by cases e)
 |node l r w x=>
  intro s W b D c k j o m hS f g i hF;refine Cj F cb more R h cnt V lo hi tb fb d w0 S y fr ub n u p q v _ s W b D c k j o m hS f g i hF fun l' C e=>?_;cases e;have z:=FT.fe r j.2.1;have A:=j.2.2;have B:(FT.node l r).hi=r.hi:=rfl;exact⟨fun W b D c hS f g i hF=>w s W b D c k.left j.1 aa m.2.2.1 hS f g i hF,fun W b D c hS f g i hF=>x _ W b D c k.right j.2.1 aa m.2.2.2 hS f g i hF⟩
def AnyS (ob:Nat) (w0:World) (W:World) (acc:List Nat) (D:Nat->Prop):Prop:=
 Below w0.heap.size w0 W/\W.heap[ob]? =some (.cells #[.bool (decide (0<acc.length))] 4 (0,0))/\D=fun k=>k=ob
def TK (ob:Nat) (R:List Pt) (w0:World) (W:World) (acc:List Nat) (D:Nat->Prop):Prop:=
 Below w0.heap.size w0 W/\∃v,W.heap[ob]? =some (.cells #[v] 35 (0,0))/\W.ownsRow w0.heap.size 27 1 v acc.length ((acc.map (jN R)).map (Value.int .u32))/\D=fun k=>k=ob\/v.ownBlock=some k
theorem Pf:eY 154:=bO func154 aM rfl
theorem JP:eY 109:=bO func109 aM rfl
theorem Pg (R:List Pt) (ob:Nat) (w0:World) (n:List Nat) (t:w0.heap.size<=ob):
  Pe 154 #[aj ob] false R w0 n (AnyS ob w0) where
 enters:=Pf
 base:=fun W c D h=>h.1
 lt:=fun W c D h k f=>by
  obtain⟨d,b,rfl⟩:=h;have:=(aY.1 b).1;subst f;exact⟨t,this⟩
 jE:=fun W W' c D z h m l=>by
  obtain⟨d,b,rfl⟩:=h;exact⟨d.trans (m.toBelow d.size (fun k f=>(l k f).1)),(m.block ob (aY.1 b).1 (fun s=>(l ob s).2 rfl)).trans b,rfl⟩
 told:=fun W c D i h hi hF=>by
  obtain⟨d,b,rfl⟩:=h;have q:=ag b;have g:=ag d;have B:W.frozen? (af ob 0)=false:=aD b;have A:W.cell? (af ob 0)=some (.bool (decide (0<c.length))):=aD b;have u:ob<W.heap.size:=(aY.1 b).1;have j:Hid (∀o v,ax (fun k=>k=ob) W ((W.setCell (af ob 0) v).alloc o)):=fun o v=>((ax.refl (fun k=>k=ob) W).set (a:=(af ob 0)) _ (.inl rfl)).alloc _;have r:Hid (∀o,((W.setCell (af ob 0) (.bool true)).alloc o).heap[ob]? =some (.cells #[.bool (decide (0<(c++[i]).length))] 4 (0,0))):=fun o=>by
   have e:decide (0<(c++[i]).length)=true:=ay;rw[e];exact(bL _ _ _ (aQ u)).trans (di _ ob 0 _ _ _ q.o)
  generalize bU R i=p;have⟨x,y,w⟩:=p;show aK 154 #[jc x y w,aj ob] W _;go_enter func154,ntmps154;go_wp2;go_ret;exact⟨rfl,_,⟨g.o.trans ((j.o _ _).toBelow g.o.size (fun k h=>aa)),r.o _,rfl⟩,fun k h=>.inl h,j.o _ _⟩
theorem JQ (R:List Pt) (ob:Nat) (w0:World) (G:List Nat) (aA:G.length<=1000000) (U:w0.heap.size<=ob):
  Pe 109 #[aj ob] true R w0 G (TK ob R w0) where
 enters:=JP
 base:=fun W d D h=>h.1
 lt:=fun W d D h k hk=>by
  obtain⟨m,v,b,c,rfl⟩:=h;rcases hk with rfl|hk
  .exact⟨U,(aY.1 b).1⟩
  .exact c.lt k hk
 jE:=fun W W' d D au h y x=>by
  obtain⟨m,v,b,c,rfl⟩:=h;exact⟨m.trans (y.toBelow m.size (fun k hk=>(x k hk).1)),v,(y.block ob (aY.1 b).1 (fun h9=>(x ob h9).2 (.inl rfl))).trans b,aR c y (fun g e h9=>(x g h9).2 (.inr e)),rfl⟩
 told:=fun W d D i h hi hF=>by
  obtain⟨m,v,b,c,rfl⟩:=h;have Q:=hF.length_le;rw[bS,Aq]at Q;have aq:(bU R i).2.2=jN R i:=rfl;have ab:Hid ((((d++[i]).map (jN R)).map (Value.int .u32))=((d.map (jN R)).map (Value.int .u32))++[.int .u32 (bU R i).2.2]):=by
   show _=_;rw[bM,bM];rfl
  have K:Hid ((d++[i]).length=d.length+1):=by show _=_;simp
  generalize bU R i=p at*;obtain⟨C,E,r⟩:=p;obtain⟨f,j,rfl⟩:=fI c;have V:ob<W.heap.size:=(aY.1 b).1;obtain⟨n,T⟩:∃n,n=d.length:=⟨_,rfl⟩;rw[<-T]at b c Q K |-;obtain⟨w1,s⟩:∃w1,w1=W.alloc (.cells #[ae C,ae E,ak r] 29):=⟨_,rfl⟩;have q:Below W.heap.size W w1:=by rw[s];exact(aI _ _).alloc (aB _) _
  have Y:w1.heap[W.heap.size]? =some (.cells #[ae C,ae E,ak r] 29 (0,0)):=by rw[s];exact bW W _
  have z:=(q.block ob V).trans b;have av:w1.cell? (af ob 0)=some (.slice f n j):=aD z;have aw:w1.cell? (af W.heap.size 2)=some (ak r):=aD Y;have ah:Hid (w1.ownsRow w0.heap.size 27 1 (.slice f n j) n ((d.map (jN R)).map (Value.int .u32))):=az c q;have ac:=ag z;have I:=ag q;have H:=ag m;have ao:w0.heap.size<=w1.heap.size:=bA m.size q.size;have ar:ob<w1.heap.size:=bX V q.size;have am:=ag c.lt;have X:∀l,(Value.slice f n j).ownBlock=some l->ob≠l:=bn c b ai;have L:=ag X;clear hF m b c Y z q X T aq;show aK 109 #[jc C E r,aj ob] W _;go_enter func109,ntmps109
  go_upto_region 1 with fail
  rw[<-s];clear s
  go_upto_region 1 with fail
  have an:Hid (∀(F:Value) (w2:World),w1.grownBy w2 (Value.slice f n j).ownBlock->w2.heap[ob]? =some (.cells #[.slice f n j] 35 (0,0))/\ax (fun k=>k=ob\/(Value.slice f n j).ownBlock=some k) W w2):=fun F w2 t=>by
   have N:ax (fun k=>(Value.slice f n j).ownBlock=some k) w1 w2:=(ax.refl _ _).grown t (fun k hk=>.inl hk);exact⟨(N.block ob ar (fun h=>L.o ob h rfl)).trans ac.o,((ax.refl _ W).below I.o).trans (N.mono fun k h=>.inr h)⟩
  go_wp2_with (at_builtin;refine bZ uw w0.heap.size ah.o [.int .u32 r] rfl (by simp[Value.oneCell']) rfl _ _ rfl rfl _ rfl dJ aa ao ?_;intro F w2 B t P;have h9:=an.o F w2 t;have ad:=ag h9.1;have Z:=ag h9.2;have A:=h9.1;have aC:(w2.frozen? (af ob 0)=false):=(aD A);have ay:(w2.cell? (af ob 0)=some (.slice f n j)):=(aD A);have J:=ag P;have al:=ag B;obtain⟨u,w,rfl⟩:=fI B;clear h9 A B P t)
  go_ret;have M:=(Z.o.set (a:=(af ob 0)) (.slice u (n+1) w) (.inl (.inl rfl)));have ap:∀l,(Value.slice u (n+1) w).ownBlock=some l->l≠ob:=fun l e=>by
   rcases J.o with h9|h9
   .exact fun O=>L.o l (h9▸e) O.symm
   .rw[h9]at e;injection e with e;intro O;simp at e;omega
  refine⟨rfl,_,⟨H.o.trans (M.toBelow H.o.size (fun k h=>?_)),.slice u (n+1) w,di _ ob 0 _ _ _ ad.o,?_,rfl⟩,fun k h=>?_,M⟩
  .rcases h with rfl|h
   .exact U
   .exact(am.o k h).1
  .have h9:=aR (S:=fun k=>k=ob) al.o ((ax.refl (fun k=>k=ob) w2).set (a:=(af ob 0)) (.slice u (n+1) w) (.inl rfl)) ap;rw[K.o,ab.o];exact h9
  .rcases h with rfl|h
   .exact .inl (.inl rfl)
   .rcases J.o with h9|h9
    .exact .inl (.inr (h9▸h))
    .rw[h9]at h;injection h with h;have:=I.o.size;simp at h;right;omega
theorem Rt {more:Bool} {R:List Pt} {h:iI} {x1 x2 y:Int} (a:R.length=0\/x2<x1):kT more R h x1 x2 y=([],0):=by unfold kT;rw[aO a]
theorem Ck (F:Nat) (cb:Array Value) (more:Bool) (R:List Pt) (h:iI) (cnt:Int) (V:mq) (lo hi tb fb:Nat) (w0 W:World) (S:World->List Nat->(Nat->Prop)->Prop) (D:Nat->Prop) (x1 x2 y:Int)
  (z:cZ w0 lo hi tb fb R h cnt V) (I:lV R h) (ao:R.length<=20000) (s:Pe F cb more R w0 (kT more R h x1 x2 y).1 S) (hS:S W [] D):
  aK 108 #[aj tb,ae x1,ae x2,ae y,.func (.func F) #[] cb] W (EZ S W D (kT more R h x1 x2 y)):=by
 have J:=s.base W [] D hS;have l:=z.below J z.fC.2.2.2.2;have aw:=l.FY;have q:=l.blk;obtain⟨a5,a6,U⟩:=fI l.row;obtain⟨ab,ac,X,-,-,K⟩:=Rd.aJ l.xs;rw[U,X]at q;have w:(bV R).length=R.length:=by unfold bV;rw[bR]
 rw[w]at q;have aL:W.cell? (af tb 0)=some (.slice a5 R.length a6):=aD q;have Q:W.cell? (af tb 1)=some (.slice ab R.length ac):=aD q;have T:W.cell? (af tb 2)=some (aj fb):=aD q;have P:Hid (∀W',Below W.heap.size W W'->S W' [] D):=fun W' A=>s.jE W W' [] D (fun _=>False) hS ((ax.refl _ W).below A) (fun k h=>h.elim);by_cases v:R.length=0\/x2<x1
 .rw[Rt v];have ak:Hid (EZ S W D ([],0) (.returned (ae 0)) W):=⟨rfl,D,hS,fun k h=>.inl h,ax.refl _ _⟩;clear z I s hS l q J P K U X Q T;generalize R.length=n at*;by_cases b:n=0
  .have d0:((n:Int)==0)=true:=by simp[b]
   have d1:(n==0)=true:=by simp[b]
   have d2:decide (n=0)=true:=by simp[b]
   clear b v w;go_enter func108,ntmps108;go_wp2;go_ret;exact ak.o
  .have d0:((n:Int)==0)=false:=by simp[b]
   have d1:(n==0)=false:=by simp[b]
   have d2:decide (n=0)=false:=by simp[b]
   have f1:decide (x1>x2)=true:=aH;have f2:decide (x2<x1)=true:=aH;clear b v w;go_enter func108,ntmps108;go_wp2;go_ret;exact ak.o
 .have b:0<R.length:=aa;have L:=ag (fun W' (A:Below W.heap.size W W')=>EX ab (bV R) ac x1 W' (K.below A) aa);have M:=ag (fun W' (A:Below W.heap.size W W')=>EY ab (bV R) ac x2 W' (K.below A) aa);have a3:=gy (fun i=>decide (x1<=(bV R).getD i 0)) (bV R).length;have a4:=gy (fun i=>decide (x2<(bV R).getD i 0)) (bV R).length;have bf:(aW (bV R) x1).2<=20000:=by unfold aW;omega
  have bg:(aU (bV R) x2).2<=20000:=by unfold aU;omega
  obtain⟨ay,a7,a8⟩:=bJ 0 R.length b;have aX:=fA 0 R.length b;have B:Hid (∀a W' c,S W' [] D->¬D a->w0.heap.size<=a->W'.heap[a]? =some (y8 (jm R x1) (l9 R x2) y F cb c)->c<=40000->jm R x1<l9 R x2->
    aK 174 #[aj tb,ae ((2*R.length-2:Nat):Int),aj a] W' (MJ S W' D a (jm R x1) (l9 R x2) y F cb c [] (downG more h (lL R) y (jm R x1) (l9 R x2) (dP 0 R.length) 0))):=fun a W' c aV aT u aZ bc r=>by
   have d:=MK F cb more R h cnt V lo hi tb fb a w0 S y (jm R x1) (l9 R x2) _ s z ao u (dP 0 R.length) 0 W' [] D c (jU _ b) ay aa (I.ok b) aV aT aZ aa (by
    unfold kT;rw[aN v,aO r];exact List.prefix_rfl)
   rw[show(dP 0 R.length).root 0=2*R.length-2 by unfold FT.root;omega]at d;exact d
  have bd:=(G8 I ao more x1 x2 y).2;have x:Hid (kT more R h x1 x2 y=if jm R x1<l9 R x2 then((downG more h (lL R) y (jm R x1) (l9 R x2) (dP 0 R.length) 0).1,(aW (bV R) x1).2+(aU (bV R) x2).2+(downG more h (lL R) y (jm R x1) (l9 R x2) (dP 0 R.length) 0).2.1)else([],(aW (bV R) x1).2+(aU (bV R) x2).2)):=by
   show kT more R h x1 x2 y=_
   conv=>lhs;unfold kT
   rw[aN v]
  have O:Hid (jm R x1=(aW (bV R) x1).1/\l9 R x2=(aU (bV R) x2).1):=⟨rfl,rfl⟩;rw[<-O.o.1,w]at L;rw[<-O.o.2,w]at M;have C:=ag l;have aE:=ag (s.lt W [] D hS);have bb:=J.size;have f1:decide (x1>x2)=false:=aH;have f2:decide (x2<x1)=false:=aH;obtain⟨dg,au⟩:∃dg,dg=downG more h (lL R) y (jm R x1) (l9 R x2) (dP 0 R.length) 0:=⟨_,rfl⟩;rw[<-au]at B x;clear z I s hS l q J K U X v a3 a4 ay a7 a8 aX w au;generalize jm R x1=fr at*;generalize l9 R x2=tu at*;generalize a0:(aW (bV R) x1).2=f at*;generalize a1:(aU (bV R) x2).2=g at*;generalize kT more R h x1 x2 y=ask at*;clear a0 a1 O;have aF:Hid (nL W lo fb R.length V.fv):=C.o.iH;have aG:Hid (fb<W.heap.size):=bX C.o.fC.2.2.2.1 C.o.fC.2.2.2.2;clear C;generalize R.length=n at*;have d0:((n:Int)==0)=false:=aH;have d1:(n==0)=false:=aH;have d2:decide (n=0)=false:=aH;go_enter func108,ntmps108
  go_wp2_with fail
  refine(L.o W (aI _ _)).mono ?_;rintro e w1 ⟨rfl,Y⟩;have aM:=(Y.cell (p:=(af tb 1)) aw).trans Q;have E:=ag Y;clear Y
  go_wp2_with fail
  refine(M.o w1 E.o).mono ?_;rintro e w2 ⟨rfl,aq⟩;have G:Hid (Below W.heap.size W w2):=E.o.trans (aq.mono E.o.size);clear aq aM L M E
  go_upto_region 6 with fail
  obtain⟨w3,H⟩:∃w3,w3=w2.alloc (.cells #[ae fr,ae tu,ae y,.func (.func F) #[] cb,ae ((f+g:Nat):Int)] 250):=⟨_,rfl⟩;have ar:Below w2.heap.size w2 w3:=by rw[H];exact(aI _ _).alloc (aB _) _
  obtain⟨a,u⟩:∃a,a=w2.heap.size:=⟨_,rfl⟩;have t:w3.heap[a]? =some (y8 fr tu y F cb (f+g)):=by rw[H,u];exact bW w2 _
  have j:Hid (Below W.heap.size W w3):=G.o.trans (ar.mono G.o.size);have a9:W.heap.size<=a:=by rw[u];exact G.o.size
  rw[show w2.alloc (.cells #[ae fr,ae tu,ae y,.func (.func F) #[] cb,ae ((f:Int)+(g:Int))] 250)=w3 by rw[H];rfl,<-u];have ai:=ag t;have be:=(j.o.cell (p:=(af tb 2)) aw).trans T;have ba:a<w3.heap.size:=(aY.1 t).1;have aC:Hid (¬D a):=fun d=>by have:=(aE.o a d).2;omega
  clear H ar t u G aL Q T;by_cases r:fr<tu
  .have aQ:decide ((fr:Int)<(tu:Int))=true:=aH;have aR:decide (fr<tu)=true:=aH;have m:=x.o;rw[aO r]at m;have aA:=ag m;have av:=aF.o.blk;have Z:=(j.o.block fb aG.o).trans av;have ah:=ag (jF fb n b aa w3 (aD Z) (aD Z));have ad:=ag (B.o a w3 (f+g) (P.o w3 j.o) aC.o aa ai.o aa r);clear m r Z av B x
   go_wp2_with fail
   refine ah.o.mono ?_;rintro e w' ⟨rfl,aP⟩;subst aP
   go_wp2_with fail
   refine ad.o.mono ?_;rintro e w4 ⟨rfl,az,ap,am,an,al⟩;have a2:w4.cell? (af a 4)=some (ae ((f+g+dg.2.1:Nat):Int)):=aD al;have N:Hid (EZ S W D ask (.returned (ae ((f+g+dg.2.1:Nat):Int))) w4):=by
    rw[aA.o];refine⟨rfl,az,ap,fun k d=>(am k d).imp id fun aS=>by have:=j.o.size;omega,?_⟩;exact(((ax.refl (fun k=>D k\/W.heap.size<=k) W).below j.o).trans (an.mono fun k d=>d.imp id fun aS=>aa)).strip
   clear ap am an al ad ah;go_wp2;go_ret;exact N.o
  .have aQ:decide ((fr:Int)<(tu:Int))=false:=aH;have aR:decide (fr<tu)=false:=aH;have m:=x.o;rw[aN r]at m;have N:Hid (EZ S W D ask (.returned (ae ((f+g:Nat):Int))) w3):=by
    rw[m];exact⟨rfl,D,P.o w3 j.o,fun k h=>.inl h,(ax.refl _ W).below j.o⟩
   have t:=ai.o;have a2:w3.cell? (af a 4)=some (ae ((f+g:Nat):Int)):=aD t;clear m r t B x;go_wp2;go_ret;exact N.o
def VW (w:World) (R:List Pt) (r:List Nat×Nat) (e:Ending) (w':World):Prop:=
 ∃v,e=.returned (.tuple #[v,ae (r.2:Nat)])/\w'.ownsRow w.heap.size 27 1 v r.1.length ((eD (r.1.map (jN R))).map (Value.int .u32))/\Below w.heap.size w w'
theorem JR {w:World} {lo hi tb fb:Nat} {R:List Pt} {h:iI} {cnt:Int} {V:mq} (x:cZ w lo hi tb fb R h cnt V) (j:lV R h) (i:R.length<=20000) (x1 x2 y:Int):
  aK 41 #[aj tb,ae x1,ae x2,ae y] w (VW w R (kT true R h x1 x2 y)):=by
 obtain⟨w1,c⟩:∃w1,w1=w.alloc (.cells #[aL] 35):=⟨_,rfl⟩;have z:Below w.heap.size w w1:=by rw[c];exact(aI _ _).alloc (aB _) _
 have B:w1.heap[w.heap.size]? =some (.cells #[aL] 35 (0,0)):=by rw[c];exact bW w _
 have hS:TK w.heap.size R w w1 [] (fun k=>k=w.heap.size\/(aL).ownBlock=some k):=⟨z,aL,B,dx _ _ _ _,rfl⟩;have⟨N,M⟩:=G8 j i true x1 x2 y;have m:=Ck 109 #[aj w.heap.size] true R h cnt V lo hi tb fb w w1 (TK w.heap.size R w) _ x1 x2 y x j i
  (JQ R w.heap.size w _ aa (aB _)) hS
 generalize kT true R h x1 x2 y=r at*;have p:=ag m;have O:r.1.length<=40000:=aa;go_enter func41,ntmps41
 go_wp2_with fail
 rw[<-c];refine p.o.mono ?_;rintro e w2 ⟨rfl,I,⟨A,v,a,b,rfl⟩,K,L⟩;have s:=ag b;have d:=ag A;have J:=ag a;have F:w2.cell? (af w.heap.size 0)=some v:=aD a;have E:∀f,v.ownBlock=some f->w.heap.size≠f:=bn b a ai;have u:=ag E;have C:=(aY.1 a).1;have n:=ag (zY (l:=r.1.map (jN R)) b aa);obtain⟨G,H,rfl⟩:=fI b
 go_wp2_with fail
 refine n.o.mono ?_;rintro e w3 ⟨rfl,D,g⟩;have t:=ag D;have P:w3.cell? (af w.heap.size 0)=some (.slice G r.1.length H):=((cu g C (fun h=>u.o _ h rfl)).1 0).trans F;have q:Hid (Below w.heap.size w w3):=d.o.trans (g.toBelow d.o.size (fun k h=>(s.o.lt k h).1));go_wp2;go_ret2;exact⟨_,rfl,t.o,q.o⟩
theorem Ph {w:World} {lo hi tb fb:Nat} {R:List Pt} {h:iI} {cnt:Int} {V:mq} (l:cZ w lo hi tb fb R h cnt V) (n:lV R h) (m:R.length<=20000) (x1 x2 y:Int):
  aK 75 #[aj tb,ae x1,ae x2,ae y] w fun e w'=>
   e=.returned (.tuple #[.bool (decide (0<(kT false R h x1 x2 y).1.length)),ae (kT false R h x1 x2 y).2])/\Below w.heap.size w w':=by
 obtain⟨w1,b⟩:∃w1,w1=w.alloc (.cells #[.bool false] 4):=⟨_,rfl⟩;have p:Below w.heap.size w w1:=by rw[b];exact(aI _ _).alloc (aB _) _
 have s:w1.heap[w.heap.size]? =some (.cells #[.bool false] 4 (0,0)):=by rw[b];exact bW w _
 have hS:AnyS w.heap.size w w1 [] (fun k=>k=w.heap.size):=⟨p,s,rfl⟩;have f:=Ck 154 #[aj w.heap.size] false R h cnt V lo hi tb fb w w1 (AnyS w.heap.size w) _ x1 x2 y l n m
  (Pg R w.heap.size w _ (aB _)) hS
 generalize kT false R h x1 x2 y=r at*;have j:=ag f;go_enter func75,ntmps75
 go_wp2_with fail
 rw[<-b];refine j.o.mono ?_;rintro e w2 ⟨rfl,t,⟨q,d,rfl⟩,u,v⟩;have g:=ag q;obtain⟨a,c⟩:∃a,a=decide (0<r.1.length):=⟨_,rfl⟩;rw[<-c]at d;have i:=ag c;have x:w2.cell? (af w.heap.size 0)=some (.bool a):=aD d;go_wp2;go_ret2;rw[<-i.o];exact⟨rfl,g.o⟩
theorem Pj (p q:Pt) (w:World):aK 71 #[jc p.1 p.2.1 p.2.2,jc q.1 q.2.1 q.2.2] w (fw w (ae (og p q))):=
 (Tt p q w).mono fun e w' ⟨a,b⟩=>⟨a,b.below (aB _)⟩
def Dj (lb:Nat->Nat->Bool) (h:iI):FT->Nat->Int
 |.leaf _,_=>-1
 |.node l r,s=>match h (l.root s),h (r.root (s+l.size))with
  |none,none=>-1
  |some _,none=>(l.root s:Nat)
  |none,some _=>(r.root (s+l.size):Nat)
  |some i,some j=>if lb i j then(l.root s:Nat)else(r.root (s+l.size):Nat)
theorem Hl {w:World} {lo hi tb fb:Nat} {cnt:Int} {R:List Pt} {h:iI} {V:mq} (H:cZ w lo hi tb fb R h cnt V) (be:R.length<=20000) {t:FT} {s:Nat} (D:FT.At (aX R.length) t s) (F:∀k i,k<(aX R.length).length->h k=some i->i<R.length):
  aK 195 #[aj tb,ae (t.root s:Nat)] w (fw w (ae (Dj (Dh R) h t s))):=by
 have aU:=D.lt;have bd:(aX R.length).length<=40000:=by rw[dh];omega
 have an:0<R.length:=by have:=dh R.length;omega
 obtain⟨ba,off,cn,env,a3⟩:=H.nodes an;obtain⟨J,ch,aH,-,-,-,-,ap,aQ,-⟩:=H.holds an;obtain⟨a1,a2,aL,-,-,a4⟩:=bY.aJ bg ai H.row;have E:=H.blk;rw[env,aH,aL]at E;have aw:=H.FY;obtain⟨bJ,n0,bn,bo,bp,bq,br,bs⟩:=mY a3 D.get;have al:w.cell? (af tb 0)=some (.slice a1 R.length a2):=aD E;have a8:w.cell? (af tb 3)=some (.slice (some (af ba off)) (aX R.length).length cn):=aD E;have am:w.cell? (af tb 4)=some (aA J (aX R.length).length ch):=aD E;have ac:=ag aQ;have a7:=ag a4;have ad:=ag F;obtain⟨M,ao⟩:∃M,M=(aX R.length).length:=⟨_,rfl⟩;obtain⟨z,ar⟩:∃z,z=R.length:=⟨_,rfl⟩;obtain⟨K,aP⟩:∃K,K=t.root s:=⟨_,rfl⟩;rw[<-ao]at a8 am bd aU;rw[<-ar]at al be an;rw[<-aP]at n0 bn bo bp bq br bs aU |-;have ak:Hid (M=(aX R.length).length/\z=R.length):=⟨ao,ar⟩;obtain⟨w1,v⟩:∃w1,w1=w.alloc (.cells #[.int .u8 (t.top s).kind,ae (t.top s).l,ae (t.top s).r,ae (t.top s).fr,ae (t.top s).KD,ae 0,ae (t.top s).item] 163):=⟨_,rfl⟩;have L:Below w.heap.size w w1:=by rw[v];exact(aI _ _).alloc (aB _) _
 have G:w1.heap[w.heap.size]? =some (.cells #[.int .u8 (t.top s).kind,ae (t.top s).l,ae (t.top s).r,ae (t.top s).fr,ae (t.top s).KD,ae 0,ae (t.top s).item] 163 (0,0)):=by rw[v];exact bW w _
 have bP:w1.cell? (af w.heap.size 0)=some (.int .u8 (t.top s).kind):=aD G;have x1:w1.cell? (af w.heap.size 1)=some (ae (t.top s).l):=aD G;have x2:w1.cell? (af w.heap.size 2)=some (ae (t.top s).r):=aD G;have A:=ag L;have S:=(L.cell (p:=(af tb 0)) aw).trans al;have ax:=(L.cell (p:=(af tb 4)) aw).trans am;have y:w.heap.size<w1.heap.size:=(aY.1 G).1;have aZ:tb<w1.heap.size:=vw aw y;have bI:J<w1.heap.size:=vw ap y;clear aQ a4 F ao ar E env aH aL a3 L G aP;cases t with
 |leaf a=>
  have d1:(((FT.leaf a).top s).kind !=(2:Int))=true:=rfl;clear x1 x2 S ax al am;generalize(FT.leaf a).top s=d at*;go_enter func195,ntmps195
  go_upto_region 2 with fail
  rw[<-v];clear v;go_wp2;go_ret;exact⟨rfl,A.o⟩
 |node l r=>
  have d1:(((FT.node l r).top s).kind !=(2:Int))=false:=rfl;have aq:=D.left.lt;have av:=D.right.lt;have aR:((FT.node l r).top s).l=((l.root s:Nat):Int):=by show((s+l.size:Nat):Int)-1=_;unfold FT.root;have:=l.size_pos;omega
  have aT:((FT.node l r).top s).r=((r.root (s+l.size):Nat):Int):=by show((s+l.size+r.size:Nat):Int)-1=_;unfold FT.root;have:=r.size_pos;omega
  rw[aR]at x1;rw[aT]at x2;have B:=(A.o.cell (p:=(af J (l.root s))) ap).trans (ac.o _ aq).1;have C:=(A.o.cell (p:=(af J (r.root (s+l.size)))) ap).trans (ac.o _ av).1;have aF:Hid (∀g f,h (l.root s)=g->h (r.root (s+l.size))=f->Dj (Dh R) h (.node l r) s=match g,f with|none,none=>-1|some _,none=>(l.root s:Nat)|none,some _=>(r.root (s+l.size):Nat)|some i,some j=>if Dh R i j then(l.root s:Nat)else(r.root (s+l.size):Nat)):=fun g f bb bc=>by subst bb bc;rfl
  have aV:=aq;have aW:=av;rw[<-ak.o.1]at aq av;obtain⟨g,O⟩:∃g,g=h (l.root s):=⟨_,rfl⟩;obtain⟨f,P⟩:∃f,f=h (r.root (s+l.size)):=⟨_,rfl⟩;have I:=ag (aF.o g f O.symm P.symm);have az:Hid (∀i,g=some i->i<R.length):=fun i e=>ad.o _ i aV (O▸e);have aC:Hid (∀i,f=some i->i<R.length):=fun i e=>ad.o _ i aW (P▸e);rw[<-O]at B;rw[<-P]at C;clear aR aT aF O P ad ac D aV aW;generalize Dj (Dh R) h (.node l r) s=res at*;generalize(FT.node l r).top s=d at*;generalize l.root s=kl at*;generalize r.root (s+l.size)=kr at*;have bB:=ah ax;have bC:=ah x1;have bD:=ah x2;have bE:=ah B;have bF:=ah C;go_enter func195,ntmps195
  go_upto_region 2 with fail
  rw[<-v];clear v
  go_upto_region 4 with fail
  refine au (fun W=>∃p:aS w1,W=p.W) [17] [(0,false),(1,false),(2,false),(3,true),(4,false),(5,true),(6,false),(7,true),(8,false),(9,false),(10,false),(11,true),(12,false),(13,true),(14,false),(15,true),(16,false)] ⟨⟨_,(aI _ _).drew⟩,rfl⟩ 1 ?_;refine aG [17] ?_;have m:Hid (Below w.heap.size w w1.drew):=A.o.drew;have S:w1.drew.cell? (af tb 0)=some (.slice a1 z a2):=S;have x1:w1.drew.cell? (af w.heap.size 1)=some (ae kl):=x1;have x2:w1.drew.cell? (af w.heap.size 2)=some (ae kr):=x2;have y:w.heap.size<w1.drew.heap.size:=y;have aZ:tb<w1.drew.heap.size:=aZ;clear bB bC bD bE bF ax B C A;generalize w1.drew=w2 at*;cases g with
  |none=>
   cases f with
   |none=>
    simp only[oq];have c:=I.o;simp only at c;subst c;go_wp2;go_ret;exact⟨rfl,m.o⟩
   |some j=>
    simp only[oq];have c:=I.o;simp only at c;subst c;have B:((j:Int)==-1)=false:=by first|(simp;done)|(simp;omega)
    have C:decide ((j:Int)=-1)=false:=by first|(simp;done)|(simp;omega)
    have ab:Hid (∀n,Below w.heap.size w (w2.drewN n)):=fun n=>m.o.trans ((Below.bu _ n).mono m.o.size)
    go_upto_region 7 with fail
    go_quiet (fail)
    go_wp2;go_ret;exact⟨rfl,ab.o _⟩
  |some i=>
   have B:((i:Int)==-1)=false:=by first|(simp;done)|(simp;omega)
   have C:decide ((i:Int)=-1)=false:=by first|(simp;done)|(simp;omega)
   have bG:((i:Int)!=-1)=true:=by first|(simp;done)|(simp;omega)
   cases f with
   |none=>
    simp only[oq];have c:=I.o;simp only at c;subst c;have ab:Hid (∀n,Below w.heap.size w (w2.drewN n)):=fun n=>m.o.trans ((Below.bu _ n).mono m.o.size)
    go_upto_region 7 with fail
    go_quiet (fail)
    go_wp2;go_ret;exact⟨rfl,ab.o _⟩
   |some j=>
    have f1:((j:Int)==-1)=false:=by first|(simp;done)|(simp;omega)
    have f2:decide ((j:Int)=-1)=false:=by first|(simp;done)|(simp;omega)
    simp only[oq];have hi:=az.o i rfl;have x:=aC.o j rfl;obtain⟨bN,bO,a9,bM,u⟩:=(a7.o.below m.o).get aa;have T:=u i hi 0 aa;have U:=u i hi 1 aa;have X:=u i hi 2 aa;have Y:=u j x 0 aa;have v1:=u j x 1 aa;have Z:=u j x 2 aa;simp only[dw,fZ,dC,dK]at T U X Y v1 Z;rw[<-dF hi]at T U X;rw[<-dF x]at Y v1 Z;subst a9;have aE:Hid (Dh R i j=decide (og (bU R i) (bU R j)<0)):=by
     show _=_;unfold Dh;rw[mQ,qz]
    have bK:i<z:=by rw[ak.o.2];exact hi
    have bL:j<z:=by rw[ak.o.2];exact x
    have c:=I.o;simp only at c;rw[aE.o]at c;clear u hi x aE az aC;generalize bU R i=p at*;generalize bU R j=q at*;have a5:=ag (fun W=>Pj p q W);generalize og p q=Q at*;obtain⟨bv,bw,bt⟩:=p;obtain⟨bz,bA,bx⟩:=q;simp only at T U X Y v1 Z;have a6:Hid (∀b:aS w2,aK 71 #[jc bv bw bt,jc bz bA bx] b.W fun e w'=>e=.returned (ae Q)/\Below b.W.heap.size b.W w'):=fun b=>a5.o b.W;have bf:=ah S;have bh:=ah T;have bi:=ah U;have bj:=ah X;have bk:=ah Y;have bl:=ah v1;have bm:=ah Z
    go_upto_region 7 with fail
    refine bH aM aM ?_
    repeat(quiet_step ((go_at_call 71;exact dL (a6.o _))))
    refine jP ?_;intro w4 a0;have N:Below w2.heap.size w2 w4:=by obtain⟨b,rfl⟩:=a0;exact b.h
    have x1:=(N.cell (p:=(af w.heap.size 1)) y).trans x1;have x2:=(N.cell (p:=(af w.heap.size 2)) y).trans x2;have ay:Hid (Below w.heap.size w w4):=m.o.trans (N.mono m.o.size);clear a0 N bf bh bi bj bk bl bm;by_cases F:Q<0
    .have d1:decide (Q<0)=true:=by simp[F]
     rw[d1,aO rfl]at c;subst c;go_wp2;go_ret;exact⟨rfl,ay.o⟩
    .have d1:decide (Q<0)=false:=by simp[F]
     rw[d1,aN ai]at c;subst c;go_wp2;go_ret;exact⟨rfl,ay.o⟩
theorem ML {lb:Nat->Nat->Bool} {N:List Nd} {t:FT} {s:Nat} {h:iI} (d:FT.At N t s):
  (Dj lb h t s=-1/\pullH lb t s h=gB h (t.root s) none)\/
  ∃t2 e i,Dj lb h t s=((t2.root e:Nat):Int)/\FT.At N t2 e/\t2.size<t.size/\h (t2.root e)=some i/\pullH lb t s h=pullH lb t2 e (gB h (t.root s) (some i)):=by
 cases t with
 |leaf a=>exact .inl ⟨rfl,rfl⟩
 |node l r=>
  have g:(FT.node l r).size=l.size+r.size+1:=rfl;have pl:=l.size_pos;have k:=r.size_pos;cases c:h (l.root s)with
  |none=>
   cases b:h (r.root (s+l.size))with
   |none=>left;simp only[Dj,pullH];rw[c,b];exact⟨rfl,rfl⟩
   |some j=>right;refine⟨r,s+l.size,j,?_,d.right,aa,b,?_⟩<;>simp only[Dj,pullH]<;>rw[c,b]
  |some i=>
   cases b:h (r.root (s+l.size))with
   |none=>right;refine⟨l,s,i,?_,d.left,aa,c,?_⟩<;>simp only[Dj,pullH]<;>rw[c,b]
   |some j=>
    right;cases f:lb i j with
    |true=>refine⟨l,s,i,?_,d.left,aa,c,?_⟩<;>simp only[Dj,pullH]<;>rw[c,b]<;>simp[f]
    |false=>refine⟨r,s+l.size,j,?_,d.right,aa,b,?_⟩<;>simp only[Dj,pullH]<;>rw[c,b]<;>simp[f]
theorem JS:eY 194:=bO func194 aM rfl
theorem JU {w:World} {lo hi tb fb:Nat} {R:List Pt} {h:iI} {cnt:Int} {V:mq} (H:cZ w lo hi tb fb R h cnt V) (tc ac x k:Nat) (t:w.cell? (af tc 0)=some (aj tb)) (r:w.cell? (af ac 0)=some (ae x)) (j:k<(aX R.length).length) (q:R.length<=20000):
  aK 194 #[ae k,aj tc,aj ac] w (fw w (.bool (decide (h k=some x)))):=by
 have i:0<R.length:=by have:=dh R.length;omega
 have p:(aX R.length).length<=40000:=by rw[dh];omega
 obtain⟨g,ch,d,-,-,-,-,s,e,-⟩:=H.holds i;have b:=H.blk;rw[d]at b;have l:w.cell? (af tb 4)=some (aA g (aX R.length).length ch):=aD b;have m:=(e k j).1;have f:decide (h k=some x)=decide (oq (h k)=(x:Int)):=by rw[mQ,Rs]
 rw[f];have c:Hid (∀n,Below w.heap.size w (w.drewN n)):=fun n=>Below.bu _ _;clear e b d H f;generalize(aX R.length).length=M at*;generalize oq (h k)=v at*;go_enter func194,ntmps194
 go_upto_region 1 with fail
 by_cases a:v=x
 .have d1:(v==(x:Int))=true:=by simp[a]
  have d2:decide (v=(x:Int))=true:=by simp[a]
  clear a
  go_quiet (fail)
  go_wp2;go_ret;rw[d2];exact⟨rfl,c.o _⟩
 .have d1:(v==(x:Int))=false:=by simp[a]
  have d2:decide (v=(x:Int))=false:=by simp[a]
  clear a
  go_quiet (fail)
  go_wp2;go_ret;rw[d2];exact⟨rfl,c.o _⟩
def U4 (w:World) (h:iI) (x:Nat) (P:List Nat) (e:Ending) (w':World):Prop:=
 ∃r:Int,e=.returned (ae r)/\Below w.heap.size w w'/\((r=-1/\∀k∈P,h k≠some x)\/∃j k:Nat,r=j/\P[j]? =some k/\h k=some x/\∀i<j,∀k',P[i]? =some k'->h k'≠some x)
theorem Pk {w:World} {lo hi tb fb:Nat} {R:List Pt} {h:iI} {cnt:Int} {V:mq} (H:cZ w lo hi tb fb R h cnt V) (K:R.length<=20000) (tc ac x:Nat) (u:w.cell? (af tc 0)=some (aj tb)) (m:w.cell? (af ac 0)=some (ae x))
  (P:List Nat) (hP:∀k∈P,k<(aX R.length).length) (F:Option Addr) (N:Nat) (hp:Rd fE w F P) (L:P.length<=40000):
  aK 193 #[.slice F P.length N,.func (.func 194) #[] #[aj tc,aj ac]] w (U4 w h x P):=by
 have E:=gW w _ u;have B:=gW w _ m;simp only at E B;have G:Hid (∀W k,Below w.heap.size w W->k∈P->aK 194 #[ae k,aj tc,aj ac] W (fw W (.bool (decide (h k=some x))))):=fun W k q s=>
  JU (H.below q H.fC.2.2.2.2) tc ac x k ((q.cell (p:=(af tc 0)) E).trans u) ((q.cell (p:=(af ac 0)) B).trans m) (hP k s) K
 have J:=ag hp;have S:=JS;clear H hp hP u m;unfold U4;obtain⟨n,t⟩:∃n,n=P.length:=⟨_,rfl⟩;have z:=ag t;rw[<-t]at L |-;clear t;go_enter func193,ntmps193;go_wp2
 go_loopg [8] n (fun M O wr=>∃j:Nat,O=.int .i64 j/\j<=n/\n-j<=M/\Hid (Below w.heap.size w wr)/\Hid (∀i<j,∀k',P[i]? =some k'->h k'≠some x))
 case atStart=>exact⟨0,rfl,bD _,aa,aI _ _,fun i hi=>absurd hi (kE _)⟩
 case round=>
  obtain⟨j,rfl,U,X,a,g⟩:=hrel;by_cases Y:j<n
  .have f:j<P.length:=by have:=z.o;omega
   obtain⟨b,off,A,T,C⟩:=(J.o.below a.o).get aa;have Q:=C j f;simp only[fE]at Q;have d:=ag (G.o wr P[j] a.o (bF f));have y:Hid (P[j]? =some P[j]):=cB f;have v:=ag A;clear C A;generalize P[j]=k at*;obtain rfl:=v.o;clear v f;by_cases c:h k=some x
   .have hd:decide (h k=some x)=true:=by simp[c]
    rw[hd]at d;have l:=ag c;clear hd c
    go_wp2_with (go_at_fn 194;refine d.o.mono ?_;rintro e w' ⟨rfl,r⟩)
    go_ret;exact⟨_,rfl,a.o.trans (r.mono a.o.size),.inr ⟨j,k,rfl,y.o,l.o,g.o⟩⟩
   .have hd:decide (h k=some x)=false:=by simp[c]
    rw[hd]at d;have l:=ag c;clear hd c
    go_wp2_with (go_at_fn 194;refine d.o.mono ?_;rintro e w' ⟨rfl,r⟩)
    go_roundg (n-(j+1))
    case measure=>omega
    case rel=>
     refine⟨j+1,by go_num,aa,aB _,a.o.trans (r.mono a.o.size),fun i hi k' D=>?_⟩;by_cases e:i=j
     .subst e;have:=y.o;rw[D]at this;injection this with this;rw[this];exact l.o
     .exact g.o i aa k' D
  .obtain rfl:j=n:=aa;have I:Hid (∀k∈P,h k≠some x):=fun k s=>by
    obtain⟨i,hi,rfl⟩:=jo s;exact g.o i (by have:=z.o;omega) _ (cB hi)
   go_wp2;go_ret;exact⟨_,rfl,a.o,.inl ⟨rfl,I.o⟩⟩
theorem Hm:eY 191:=bO func191 aM rfl
theorem Pm:eY 192:=bO func192 aM rfl
def Cm (w:World) (tb:Nat) (px py pi:Int):World:=(w.alloc (.cells #[aj tb] 87)).alloc (.cells #[ae px,ae py,ak pi] 29)
theorem Ho (w:World) (tb:Nat) (b c a:Int):Below w.heap.size w (Cm w tb b c a)/\(Cm w tb b c a).heap[w.heap.size]? =some (.cells #[aj tb] 87 (0,0))/\(Cm w tb b c a).heap[w.heap.size+1]? =some (.cells #[ae b,ae c,ak a] 29 (0,0))/\(Cm w tb b c a).heap.size=w.heap.size+2:=
 ⟨((aI _ _).alloc (aB _) _).alloc ay _,EG w _ _,Bh w _ _,by simp[Cm]⟩
theorem Cn {h:iI}:∀{t:FT} {s:Nat},∀p∈t.subs s,∀i∈held h p.1 p.2,i∈held h t s
 |.leaf a,s,p,hp,i,hi=>by
  have:p=(.leaf a,s):=by simpa[FT.subs]using hp
  subst this;exact hi
 |.node l r,s,p,hp,i,hi=>by
  simp only[FT.subs,bT,l5]at hp;simp only[held,bT];rcases hp with(hp|hp)|hp
  .exact .inr (.inl (Cn p hp i hi))
  .exact .inr (.inr (Cn p hp i hi))
  .subst hp;simpa only[held,bT]using hi
def JV (w:World) (lo hi tb fb:Nat) (R:List Pt) (h:iI) (cnt:Int) (V:mq) (x:Nat) (e:Ending) (w':World):Prop:=
 (x∉oo R h/\e=.returned (.bool false)/\Below w.heap.size w w')\/(x∈oo R h/\e=.returned (.bool true)/\cZ w' lo hi tb fb R (Di R x h) (cnt-1) V/\ax (fun k=>lo<=k/\k<hi) w w')
theorem FB {w:World} {lo hi tb fb:Nat} {R:List Pt} {h:iI} {cnt:Int} {V:mq} (Y:cZ w lo hi tb fb R h cnt V) (bt:lV R h) (dh:R.length<=20000) (dR:0<=cnt) (dS:cnt<=20000) {x:Nat} (a0:x<R.length) (p:Pt) (hp:R[x]=p):
  aK 126 #[aj tb,jc p.1 p.2.1 p.2.2] w (JV w lo hi tb fb R h cnt V x):=by
 have O:=Y.blk;have dx:=Y.FY;have b7:=Y.fC;obtain⟨a6,a7,bP,-,-,b4⟩:=bY.aJ bg ai Y.row;rw[bP]at O;have CB:=ag (fun W (O:Below w.heap.size w W)=>OP a6 R R.length a7 p W rfl aa (b4.below O) bt.Bo);have bw:=Fq bt.Bo a0;rw[hp]at bw;rw[bw.1,bw.2]at CB;have c6:=ag b4;have cJ:bU R x=p:=by rw[dF a0];exact hp
 have c4:=ag cJ;have bj:=ag a0;have dH:=ag bP;obtain⟨an,ao,am⟩:=p;obtain⟨bv,b6,aW,cK⟩:=Ho w tb an ao am;obtain⟨w1,bm⟩:∃w1,w1=Cm w tb an ao am:=⟨_,rfl⟩;rw[<-bm]at bv b6 aW cK;unfold Cm at bm;have cG:=(bv.block tb dx).trans O;have aL:w1.cell? (af tb 0)=some (.slice a6 R.length a7):=aD cG;have t0:w1.cell? (af w.heap.size 0)=some (aj tb):=aD b6;have a1:w1.cell? (af (w.heap.size+1) 0)=some (ae an):=aD aW;have a2:w1.cell? (af (w.heap.size+1) 1)=some (ae ao):=aD aW;have a3:w1.cell? (af (w.heap.size+1) 2)=some (ak am):=aD aW;have al:0<R.length:=aa;have cM:=a0;obtain⟨n,b3⟩:∃n,n=R.length:=⟨_,rfl⟩;rw[<-b3]at dh aL CB al cM;have l:=ag b3;have ba:=ag bv;have cj:=ag Y;have cr:=ag bt;have cL:tb<w1.heap.size:=aa;have b9:w.heap.size<w1.heap.size:=aa;have bA:w.heap.size+1<w1.heap.size:=aa;clear Y b4 O bP b3 bv b6 aW cG cK bw hp a0 bt cJ;have d0:((n:Int)==0)=false:=aH;have d1:(n==0)=false:=aH;have d2:decide (n=0)=false:=aH;obtain⟨tc,b8⟩:∃tc,tc=w.heap.size:=⟨_,rfl⟩;have cq:=ag b8;go_enter func126,ntmps126
 go_upto_region 1 with fail
 rw[<-bm];clear bm;rw[<-b8]at t0 a1 a2 a3 b9 bA |-;clear b8
 go_upto_region 3 with fail
 have ck:Hid (∀b:aS w1,aK 191 #[.slice a6 n a7,jc an ao am,.func (.func 94) #[] #[]] b.W fun e w'=>e=.returned (.tuple #[ae (x:Nat),.bool true])/\Below b.W.heap.size b.W w'):=fun b=>CB.o b.W (ba.o.trans (b.h.mono ba.o.size));clear CB
 go_cut [5,6]from 5 (fun dD dE cR=>∃z:Nat,dD=aj z/\dE=.bool true/\Hid (Below w1.heap.size w1 cR)/\Hid (cR.heap[z]? =some (.cells #[ae (x:Nat)] 3 (0,0))))
 case first=>
  have bp:=ah aL;have bq:=ah t0;have br:=ah a1;have dM:=ah a2;have dN:=ah a3;refine au (fun W=>∃p:aS w1,W=p.W) [11] [(0,true),(1,false),(2,false),(3,true),(4,true)] ⟨⟨_,(aI _ _).drew⟩,rfl⟩ 7 ?_;have C:Below w1.heap.size w1 w1.drew:=(aI _ _).drew;refine ig 5 9 rfl rfl (fun K c=>?_) (fun K c=>?_)
  .refine aT Hm rfl _ _ rfl (vals:=#[.slice a6 n a7,jc an ao am,.func (.func 94) #[] #[]]) rfl (ck.o ⟨w1.drew,C⟩) ?_;rintro e w3 ⟨rfl,A⟩;have f:Below w1.heap.size w1 w3:=C.trans A;refine⟨_,rfl,c _ _ (fun _ _=>⟨⟨_,f⟩,rfl⟩) ?_⟩;clear c K;refine bf [(6,false),(7,false),(8,false)] ⟨⟨_,f⟩,rfl⟩ rfl ?_;have av:Hid (Below w1.heap.size w1 (w3.alloc (.cells #[ae (x:Nat)] 3))):=f.alloc f.size _;have bM:=ag (bW w3 (.cells #[ae (x:Nat)] 3));refine aC 9 rfl fun K c=>?_;go_simp;refine c _ _ (fun _ _=>⟨⟨_,f.alloc f.size _⟩,rfl⟩) ?_;clear c K;refine aC 10 rfl fun K c=>?_;go_simp;refine c _ _ (fun _ _=>⟨⟨_,av.o⟩,rfl⟩) ?_;clear c K;refine aG [11] ?_;clear f A;go_wp2;go_meet;exact⟨_,rfl,rfl,av.o,bM.o⟩
  .obtain⟨w2,bn⟩:∃w2,w2=(w1.alloc (.cells #[ae 0] 3)).drew:=⟨_,rfl⟩;have aO:Below w1.heap.size w1 w2:=by rw[bn];exact((aI _ _).alloc (aB _) _).drew
   have cb:w2.heap[w1.heap.size]? =some (.cells #[ae 0] 3 (0,0)):=by rw[bn];exact bW w1 _
   go_simp;rw[<-bn];clear bn;refine c _ _ (fun _ _=>⟨⟨_,aO⟩,rfl⟩) ?_;clear c K;refine aC 5 rfl fun K c=>?_;refine aT Hm rfl _ _ rfl (vals:=#[.slice a6 n a7,jc an ao am,.func (.func 94) #[] #[]]) rfl (ck.o ⟨w2,aO⟩) ?_;rintro e w3 ⟨rfl,A⟩;have f:Below w1.heap.size w1 w3:=aO.trans (A.mono aO.size);have bE:=(A.block _ (aY.1 cb).1).trans cb;refine⟨_,rfl,c _ _ (fun _ _=>⟨⟨_,f⟩,rfl⟩) ?_⟩;clear c K;refine bf [(6,false),(7,false),(8,false)] ⟨⟨_,f⟩,rfl⟩ rfl ?_;have ap:w3.cell? (af w1.heap.size 0)=some (ae 0):=aD bE;have aq:w3.frozen? (af w1.heap.size 0)=false:=aD bE;have av:Hid (Below w1.heap.size w1 (w3.setCell (af w1.heap.size 0) (.int .i64 (x:Nat)))):=⟨f.os,f.tape,f.output,aQ f.size,fun b O=>(aF (show w1.heap.size≠b by omega)).trans (f.block b O)⟩;have bM:Hid ((w3.setCell (af w1.heap.size 0) (.int .i64 (x:Nat))).heap[w1.heap.size]? =some (.cells #[ae (x:Nat)] 3 (0,0))):=di w3 _ 0 _ _ _ bE;refine aC 10 rfl fun K c=>?_;go_simp;refine c _ _ (fun _ _=>⟨⟨_,av.o⟩,rfl⟩) ?_;clear c K;refine aG [11] ?_;clear f A aO cb bE ap aq;go_wp2;go_meet;exact⟨_,rfl,rfl,av.o,bM.o⟩
 case rest=>
  obtain⟨z,rfl,rfl,cW,cV⟩:=hcut;have bR:=cV.o;have D:=cW.o;have ar:Hid (Below w.heap.size w wc):=ba.o.trans (D.mono ba.o.size);have J:wc.cell? (af z 0)=some (ae (x:Nat)):=aD bR;have Z:z<wc.heap.size:=(aY.1 bR).1;have aL:=(D.cell (p:=(af tb 0)) cL).trans aL;have t0:=(D.cell (p:=(af tc 0)) b9).trans t0;have a1:=(D.cell (p:=(af (tc+1) 0)) bA).trans a1;have a2:=(D.cell (p:=(af (tc+1) 1)) bA).trans a2;have a3:=(D.cell (p:=(af (tc+1) 2)) bA).trans a3;have y:tc<wc.heap.size:=bX b9 D.size;have bh:Hid (cZ wc lo hi tb fb R h cnt V):=cj.o.below ar.o b7.2.2.2.2;have cE:=bh.o.blk;have bk:wc.cell? (af tb 2)=some (aj fb):=aD cE;obtain⟨b,off,db,dk,v⟩:=(c6.o.below ar.o).get (by have:=l.o;omega);have cc:=v x bj.o 0 aa;have cd:=v x bj.o 1 aa;have ce:=v x bj.o 2 aa;rw[<-dF bj.o,c4.o]at cc cd ce;simp only[dw,fZ,dC,dK]at cc cd ce;subst db;have dW:tb<wc.heap.size:=bX cL D.size;clear v bR D cE cj
  go_upto_region 4 with fail
  go_quiet (fail)
  obtain⟨w3,G⟩:∃w3,w3=wc.drewN nq:=⟨_,rfl⟩;have A:Below wc.heap.size wc w3:=by rw[G];exact Below.bu _ _
  have J:w3.cell? (af z 0)=some (ae (x:Nat)):=by rw[G];exact J
  have t0:w3.cell? (af tc 0)=some (aj tb):=by rw[G];exact t0
  have bk:w3.cell? (af tb 2)=some (aj fb):=by rw[G];exact bk
  have aE:Hid (cZ w3 lo hi tb fb R h cnt V):=bh.o.below A bh.o.fC.2.2.2.2;have bb:Hid (Below w.heap.size w w3):=ar.o.trans (A.mono ar.o.size);have Z:z<w3.heap.size:=by rw[G];exact Z
  have y:tc<w3.heap.size:=by rw[G];exact y
  go_upto_region 6 with fail
  rw[<-G];clear G A bh ar cc cd ce a1 a2 a3 aL dk;have C:Below w3.heap.size w3 w3.drew:=(aI _ _).drew;have ci:=ag (vI lo fb n x V.fv aa cM w3.drew (by rw[l.o];exact(aE.o.below C aE.o.fC.2.2.2.2).iH));have bp:=ah t0;have bq:=ah bk;have br:=ah J;refine au (fun W=>∃p:aS w3,W=p.W) [5,6,7,8,9,10] [(0,true),(1,false),(2,false),(3,true),(4,true)] ⟨⟨_,(aI _ _).drew⟩,rfl⟩ 6 ?_;refine aC 5 rfl fun K c=>?_;refine aT Pm rfl _ _ rfl (vals:=#[aj fb,ae (x:Nat)]) rfl ci.o ?_;rintro e w4 ⟨pv,rfl,bC,cD⟩;have H:Below w3.heap.size w3 w4:=C.trans cD;refine⟨_,rfl,c _ _ (fun _ h=>absurd ay h) ?_⟩;clear c K;refine bf [(6,false),(7,false),(8,false)] ⟨⟨_,H⟩,rfl⟩ rfl ?_;refine aG [9,10] ?_;have bd:Hid (cZ w4 lo hi tb fb R h cnt V):=aE.o.below H aE.o.fC.2.2.2.2;have bH:Hid (Below w.heap.size w w4):=bb.o.trans (H.mono bb.o.size);have t0:=(H.cell (p:=(af tc 0)) y).trans t0;have J:=(H.cell (p:=(af z 0)) Z).trans J;have y:tc<w4.heap.size:=bX y H.size;have Z:z<w4.heap.size:=bX Z H.size;obtain⟨P,aN⟩:∃P,P=(dP 0 n).path 0 x:=⟨_,rfl⟩;rw[<-aN]at bC;have dQ:P.length<=n+1:=by
   have cx:=FT.oH (dP 0 n) 0 x;have bQ:=vE 0 n n (vv (Es));rw[aN];omega
  obtain⟨ca,dr,dn⟩:=bJ 0 n al;have bs:=jU n al;rw[fM al]at bs;have cC:∀k∈P,k<(aX R.length).length:=fun k ac=>by
   rw[aN]at ac;obtain⟨⟨t,s⟩,dz,dy,-,-⟩:=FT.ng (dP 0 n) 0 x ca aa aa k ac;have dj:FT.At (aX n) t s:=by rw[fM al];exact FT.kW _ 0 bs _ dz
   have:=dj.lt;simp only at dy;rw[<-l.o];omega
  have bB:=yV (lt:=zU R) (lb:=Dh R) (dP 0 n) 0 h x ca (by have:=cr.o.ok (by have:=l.o;omega);rw[<-l.o]at this;exact this) aa aa;rw[<-aN]at bB;have bZ:oo R h=held h (dP 0 n) 0:=by rw[nO (by have:=l.o;omega),l.o]
  have cn:Hid (((∀k∈P,h k≠some x)->x∉oo R h)/\∀m k:Nat,P[m]? =some k->h k=some x->(∀i<m,∀k',P[i]? =some k'->h k'≠some x)->∃E I,FT.At (aX R.length) E I/\k=E.root I/\Di R x h=pullH (Dh R) E I h/\x∈oo R h):=by
   refine⟨fun cy=>by rw[bZ];exact bB.1 cy,fun m k cx bQ dg=>?_⟩;obtain⟨E,I,a4,a5,bF⟩:=bB.2 m k cx bQ dg;refine⟨E,I,?_,a5,?_,?_⟩
   .rw[<-l.o,fM al];exact FT.kW _ 0 bs _ a4
   .unfold Di;rw[<-l.o];exact bF
   .rw[bZ];refine Cn _ a4 x ?_;obtain⟨L,da⟩:=o8 (t:=E) (s:=I) (h:=h) (by rw[<-a5];exact bQ);rw[da];simp
  obtain⟨cO,cP,rfl,-,-,b5⟩:=Rd.aJ (enc:=fE) bC;have cp:Hid (w4.ownsRow w3.heap.size 3 1 (.slice cO P.length cP) P.length (P.map fE)):=bI bC (aB _);have dU:w.heap.size<=w3.heap.size:=bb.o.size;have c7:=ag b5;have cg:=ag (Pk bd.o (by have:=l.o;omega) tc z x t0 J P cC cO cP b5 aa);clear bB bZ cC aN ca dr dn bs bC b5 H cD C bp bq br ci aE bb bk
  go_wp2_with fail
  refine cg.o.mono ?_;rintro e F ⟨dZ,rfl,ab,dl⟩;have be:Hid (cZ F lo hi tb fb R h cnt V):=bd.o.below ab bd.o.fC.2.2.2.2;have bK:Hid (Below w.heap.size w F):=bH.o.trans (ab.mono bH.o.size);have t0:=(ab.cell (p:=(af tc 0)) y).trans t0;have y:tc<F.heap.size:=bX y ab.size;have bN:=ag (az cp.o ab);clear ab cg bd bH c7 J Z;rcases dl with⟨rfl,cI⟩|⟨j,k,rfl,bx,b2,cF⟩
  .have T:Hid (JV w lo hi tb fb R h cnt V x (.returned (.bool false)) F):=.inl ⟨cn.o.1 cI,rfl,bK.o⟩;clear cI;go_wp2;go_ret;exact T.o
  .obtain⟨E,I,a4,a5,bF,cQ⟩:=cn.o.2 j k bx b2 cF;have dp:j<P.length:=(fH.1 bx).1;have cA:P[j]=k:=(fH.1 bx).2;have cU:=ag a4;have c1:=ag a5;have c3:=ag bF;have cX:=ag cQ;have bS:=be.o.blk;have c9:F.cell? (af tb 5)=some (ae cnt):=aD bS;have dG:F.frozen? (af tb 5)=false:=aD bS;have dL:decide ((j:Int)<0)=false:=ay;have dV:=be.o.FY;have cH:j<P.length:=dp;have c5:=ag cA;clear cA bS a4 a5 bF cQ bx b2 cF
   go_upto_region 11 with fail
   obtain⟨w6,bo⟩:∃w6,w6=F.setCell (af tb 5) (.int .i64 (cnt-1)):=⟨_,rfl⟩;have c2:Hid (cZ w6 lo hi tb fb R h (cnt-1) V):=by rw[bo];exact be.o.BV (cnt-1)
   have aU:ax (fun k=>k=tb) F w6:=by rw[bo];exact(ax.refl (fun k=>k=tb) F).set (a:=(af tb 5)) _ (.inl rfl)
   have c0:Hid (ax (fun k=>lo<=k/\k<hi) w w6):=((ax.refl _ w).below bK.o).trans (aU.mono fun k h=>by subst h;exact⟨b7.1,b7.2.1⟩);have dv:tc≠tb:=by have:=cq.o;omega
   have t0:=((cu aU y dv).1 0).trans t0;have y:tc<w6.heap.size:=bX y aU.size;have bD:=aR bN.o aU (fun g e cy=>by have:=(bN.o.lt g e).1;omega);obtain⟨dO,dJ,cw,-,-⟩:=aV bD aa;rw[cw]at bD;injection cw with dc dd de;have cS:=bD.cellAt j aa;rw[iB,cB cH,c5.o]at cS;simp only[fT,fE]at cS;rw[<-bo];subst dc;clear bo c9 dG aU bD dd de be bK bN cp cH
   go_wp2_with fail
   go_loopg [10] E.size (fun dA dB wr=>∃(t:FT) (s:Nat) (u:iI),dB=.int .i64 (t.root s:Nat)/\t.size<=dA/\Hid (FT.At (aX R.length) t s)/\Hid (cZ wr lo hi tb fb R u (cnt-1) V)/\Hid (pullH (Dh R) t s u=Di R x h)/\Hid (∀k i,k<(aX R.length).length->u k=some i->i<R.length)/\Hid (ax (fun k=>lo<=k/\k<hi) w wr)/\wr.cell? (af tc 0)=some (aj tb))
   case atStart=>exact⟨E,I,h,by rw[c1.o],aB _,cU,c2,c3.o.symm,fun k i ac e=>cr.o.pl ac e,c0,t0⟩
   case round=>
    obtain⟨t,s,u,rfl,b2,bG,U,bO,bc,cl,a8⟩:=hrel;have S:=ag (Hl U.o (by have:=l.o;omega) bG.o bc.o);have dt:=ML (lb:=Dh R) (h:=u) bG.o;have ad:=bG.o.lt;have dY:=U.o.FY;have aZ:tc<wr.heap.size:=gW wr _ a8;rcases dt with⟨aM,X⟩|⟨t2,cf,i,aM,X,cs,ct,cv⟩
    .rw[aM]at S;have bi:=ag X;clear aM X
     go_wp2_with fail
     refine S.o.mono ?_;rintro e d ⟨rfl,B⟩;have r:Hid (cZ d lo hi tb fb R u (cnt-1) V):=U.o.below B U.o.fC.2.2.2.2;have aw:Hid (ax (fun k=>lo<=k/\k<hi) w d):=cl.o.below B;have t7:=(B.cell (p:=(af tc 0)) aZ).trans a8;obtain⟨q,ch,N,bT,bV,-,-,dm,v,-⟩:=r.o.holds (by have:=l.o;omega);obtain⟨ap,aq⟩:=v _ ad;have Q:=r.o.blk;rw[N]at Q;have bl:d.cell? (af tb 4)=some (aA q (aX R.length).length ch):=aD Q;have T:Hid (JV w lo hi tb fb R h cnt V x (.returned (.bool true)) (d.setCell (af q (t.root s)) (.int .i64 (-1)))):=by
      refine .inr ⟨cX.o,rfl,?_,aw.o.set (a:=(af q (t.root s))) _ (.inl ⟨bT,bV⟩)⟩;have:=r.o.nP N ad none;rw[<-bi.o,bO.o]at this;exact this
     clear B Q v N r aw S a8 aZ;generalize t.root s=kr at*;generalize(aX R.length).length=M at*;go_wp2;go_ret;exact T.o
    .rw[aM]at S;have bi:=ag cv;have cT:=ag X;have c8:=ag cs;have bL:=ag ct;have bz:=X.lt;clear aM X cs ct cv
     go_wp2_with fail
     refine S.o.mono ?_;rintro e d ⟨rfl,B⟩;have r:Hid (cZ d lo hi tb fb R u (cnt-1) V):=U.o.below B U.o.fC.2.2.2.2;have aw:Hid (ax (fun k=>lo<=k/\k<hi) w d):=cl.o.below B;have t7:=(B.cell (p:=(af tc 0)) aZ).trans a8;have du:tc<d.heap.size:=bX aZ B.size;obtain⟨q,ch,N,bT,bV,-,-,dm,v,-⟩:=r.o.holds (by have:=l.o;omega);obtain⟨ap,aq⟩:=v _ ad;obtain⟨y1,-⟩:=v _ bz;rw[bL.o]at y1;simp only[oq]at y1;have Q:=r.o.blk;rw[N]at Q;have bl:d.cell? (af tb 4)=some (aA q (aX R.length).length ch):=aD Q;have dX:=r.o.FY;have dT:=bc.o _ i bz bL.o;have T:Hid (∀a9,a9=d.drew.setCell (af q (t.root s)) (.int .i64 (i:Nat))->cZ a9 lo hi tb fb R (gB u (t.root s) (some i)) (cnt-1) V/\ax (fun k=>lo<=k/\k<hi) w a9/\a9.cell? (af tc 0)=some (aj tb)):=fun a9 df=>by
      subst df;have C:Below d.heap.size d d.drew:=(aI _ _).drew;have ds:=r.o.below C r.o.fC.2.2.2.2;refine⟨ds.nP N ad (some i),(aw.o.below C).set (a:=(af q (t.root s))) _ (.inl ⟨bT,bV⟩),?_⟩;have dq:ax (fun k=>k=q) d.drew (d.drew.setCell (af q (t.root s)) (.int .i64 (i:Nat))):=(ax.refl (fun k=>k=q) _).set (a:=(af q (t.root s))) _ (.inl rfl);exact((cu dq (show tc<d.drew.heap.size from du) (by have:=cq.o;omega)).1 0).trans t7
     have cm:Hid (∀k j,k<(aX R.length).length->gB u (t.root s) (some i) k=some j->j<R.length):=fun k j ac aP=>by
      by_cases e:k=t.root s
      .subst e;rw[gm]at aP;injection aP with aP;omega
      .rw[iw e]at aP;exact bc.o k j ac aP
     have co:Hid (pullH (Dh R) t2 cf (gB u (t.root s) (some i))=Di R x h):=by
      show _=_;rw[<-bi.o];exact bO.o
     clear B Q v N r aw S a8 aZ bi bL bc bO;obtain⟨kr,b1⟩:∃kr,kr=t.root s:=⟨_,rfl⟩;obtain⟨cN,b0⟩:∃cN,cN=t2.root cf:=⟨_,rfl⟩;obtain⟨M,cz⟩:∃M,M=(aX R.length).length:=⟨_,rfl⟩;rw[<-b1]at ap aq ad T co cm |-;rw[<-b0]at y1 bz |-;rw[<-cz]at bl ad bz;have cY:=ag b0;have dI:=ag b1;clear b1 b0 cz;have bp:=ah t7;have bq:=ah bl;have br:=ah y1
     go_upto_region 16 with fail
     refine au (fun W=>∃p:aS d,W=p.W) [12,13] [(0,true),(1,false),(2,false),(3,true),(4,false),(5,true),(6,false),(7,false),(8,true),(9,false),(10,false),(11,true)] ⟨⟨_,(aI _ _).drew⟩,rfl⟩ 2 ?_;refine aG [12,13] ?_;have ap:d.drew.cell? (af q kr)=some (ae (oq (u kr))):=ap;have aq:d.drew.frozen? (af q kr)=false:=aq;clear bp bq br y1 t7 bl;generalize d.drew=d3 at*;go_wp2
     go_roundg (t2.size)
     case measure=>have:=c8.o;omega
     case rel=>
      obtain⟨f1,f2,f3⟩:=T.o _ rfl;exact⟨t2,cf,_,by rw[cY.o],aB _,cT,f1,co,cm,f2,f3⟩
theorem MM {P:Program} {ops:Array Oper} {rest:List Oper} {op:Oper} {a:Act} {Q:Exit->Act->World->Prop} {α:Type} {enc:α->Value} {t e:TypeId} {bytes:Nat} (g:eP P t e 1 bytes) {W:World} {ad:Option Addr} {l:List α} {c n:Nat} (p:Rd enc W ad l) (r:l.length=n) (k:n<=c) (lo hi:Nat) (i:lo<=hi) (j:hi<=n)
  (m:op.guard=none) (x:Operand) (d b:Option Operand) (s:op.op=.slice t x d b none) (u:a.eval x=.slice ad n c)
  (q:(d.map a.eval).getD (.int .i64 0)=.int .i64 lo) (o:(b.map a.eval).getD (.int .i64 n)=.int .i64 hi)
  (h:∀f,bY (fun x=>[enc x]) 1 W f ((l.take hi).drop lo)->wpList P ops Q rest (a.put op.dst (.slice f (hi-lo) (c-lo))) W):wpList P ops Q (op::rest) a W:=by
 subst r;exact LV g p.VH k lo hi i j m x d b s u q o h
theorem Rd.Wz {α:Type} {enc:α->Value} {w:World} {a:Option Addr} {l:List α} (h:bY (fun x=>[enc x]) 1 w a l):Rd enc w a l:=by
 rcases h with h|⟨b,off,rfl,c,d⟩
 .exact .inl h
 .exact .inr ⟨b,off,rfl,c,fun i hi=>by simpa using d i hi 0 aa⟩
def Ux (a:Option Addr) (v:Value):Prop:=∀ad,a=some ad->v.ownBlock≠some ad.block
def Co (W:World) (lo hi tb fb:Nat) (R:List Pt) (h':iI) (cnt:Int) (V:mq) (e:Ending) (w':World):Prop:=
 e=.returned (.tuple #[])/\cZ w' lo hi tb fb R h' cnt V/\ax (fun k=>V.hv.ownBlock=some k) W w'
theorem qZ (p:Nat->Bool) (L:List Nat) {i:Nat} (h:i<L.length):(L.take (i+1)).filter p=(L.take i).filter p++(if p L[i]then[L[i]]else[]):=by
 rw[ic h,mK];congr 1;rw[l7];split<;>rfl
theorem Cq {lo hi tb fb:Nat} {R:List Pt} {cnt:Int} {V:mq} (dy:R.length<=20000) (t:FT) (s:Nat) (bm:FT.At (aX R.length) t s) (bC:t.wf) (dE:t.hi<=R.length) (L:List Nat) (W:World) (h:iI) (x:Option Addr) (P:Nat)
  (H:cZ W lo hi tb fb R h cnt V) (hp:Rd fE W x L) (cq:L.length<=20000) (bq:L.length<=P) (cx:Ux x V.hv) (ce:∀i∈L,i<=1000000)
  (bB:∀l r,t=.node l r->(∀(L:List Nat) (W:World) (h:iI) (x:Option Addr) (P:Nat),cZ W lo hi tb fb R h cnt V->Rd fE W x L->L.length<=20000->L.length<=P->Ux x V.hv->(∀i∈L,i<=1000000)->
    aK 101 #[aj tb,ae (l.root s:Nat),.slice x L.length P] W (Co W lo hi tb fb R (fillH l s L h) cnt V))/\
    ∀(L:List Nat) (W:World) (h:iI) (x:Option Addr) (P:Nat),cZ W lo hi tb fb R h cnt V->Rd fE W x L->L.length<=20000->L.length<=P->Ux x V.hv->(∀i∈L,i<=1000000)->
    aK 101 #[aj tb,ae (r.root (s+l.size):Nat),.slice x L.length P] W (Co W lo hi tb fb R (fillH r (s+l.size) L h) cnt V)):
  aK 101 #[aj tb,ae (t.root s:Nat),.slice x L.length P] W (Co W lo hi tb fb R (fillH t s L h) cnt V):=by
 have a4:=bm.lt;have bj:0<R.length:=by have:=t.fe bC;omega
 cases L with
 |nil=>
  rw[yT];have cP:Hid (Co W lo hi tb fb R h cnt V (.returned (.tuple #[])) W):=⟨rfl,H,ax.refl _ _⟩;clear H hp bB;simp only[fF];go_enter func101,ntmps101;go_wp2
  go_end0
  exact cP.o
 |cons i L=>
  obtain⟨a1,off,cn,env,aN⟩:=H.nodes bj;obtain⟨f,ch,Z,dA,dC,-,-,c6,aC,-⟩:=H.holds bj;obtain⟨a8,a9⟩:=aC _ a4;have bn:=H.blk;rw[env,Z]at bn;have bh:W.cell? (af tb 4)=some (aA f (aX R.length).length ch):=aD bn;obtain⟨b,o,ar,cf,bx⟩:=hp.get ay;have aO:=bx 0 ay;simp only[nE,fE,dK]at aO;have dc:b≠f:=fun e=>by
   have:=cx _ ar;rw[Z]at this;exact this (by rw[e];rfl)
  obtain⟨w1,av⟩:∃w1,w1=W.drew.setCell (af f (t.root s)) (.int .i64 (i:Nat)):=⟨_,rfl⟩;have a3:ax (fun k=>k=f) W w1:=by rw[av];exact((ax.refl (fun k=>k=f) W).drew).set (a:=(af f (t.root s))) _ (.inl rfl)
  have am:Hid (cZ w1 lo hi tb fb R (gB h (t.root s) (some i)) cnt V):=by
   rw[av];exact(H.below (aI W.heap.size W).drew H.fC.2.2.2.2).nP Z a4 (some i)
  have bR:Hid (ax (fun k=>V.hv.ownBlock=some k) W w1):=a3.mono fun k e=>by subst e;rw[Z];rfl
  have cy:Rd fE w1 (some (af b o)) (i::L):=.inr ⟨b,o,rfl,bX cf a3.size,fun j cm=>((cu a3 cf dc).1 _).trans (bx j cm)⟩;have cN:=ag cy;have bb:=ag ce;have bg:=ag bB;have aP:=ag bm;have bd:=ag Z;have cQ:=ag bC;have c5:(aX R.length).length<=40000:=by rw[dh];omega
  simp only[eu]at cq bq |-;have d0:(((L.length+1:Nat):Int)==0)=false:=by first|(simp;done)|(simp;omega)
  subst ar;clear aC bn env Z H hp bx cx ce bB a3 cy bm aN bC;obtain⟨n,bv⟩:∃n,n=L.length:=⟨_,rfl⟩;have an:=ag bv;rw[<-bv]at cq bq d0 |-;obtain⟨K,bk⟩:∃K,K=t.root s:=⟨_,rfl⟩;have cG:=ag bk;obtain⟨M,bl⟩:∃M,M=(aX R.length).length:=⟨_,rfl⟩;have bU:=ag bl;rw[<-bk]at a8 a9 a4 av |-;rw[<-bl]at bh a4 c5;clear bv bk bl;have c2:=ah bh;have c3:=ah aO;go_enter func101,ntmps101
  go_upto_region 1 with fail
  refine au (fun W'=>∃p:aS W,W'=p.W) [8,9] [(0,false),(1,false),(2,false),(3,true),(4,false),(5,false),(6,false),(7,true)] ⟨⟨_,(aI _ _).drew⟩,rfl⟩ 2 ?_;refine aG [8,9] ?_;have a8:W.drew.cell? (af f K)=some (ae (oq (h K))):=a8;have a9:W.drew.frozen? (af f K)=false:=a9;clear c2 c3 bh aO
  go_upto_region 2 with fail
  rw[show(W.setCell (af f K) (.int .i64 (i:Nat))).drew=w1 by rw[av];rfl];clear av a8 a9;obtain⟨a1,off,cn,env,aN⟩:=am.o.nodes bj;have bo:=am.o.blk;rw[env]at bo;have b4:w1.cell? (af tb 3)=some (.slice (some (af a1 off)) M cn):=by simp[World.cell?,bo];exact bU.o.symm
  obtain⟨c7,n0,bE,bH,bI,bJ,cE,bK⟩:=mY aN aP.o.get;rw[<-cG.o]at n0 bE bH bI bJ cE bK;have de:=am.o.FY;have b0:=ag aN;obtain⟨d,hd⟩:∃d,d=t.top s:=⟨_,rfl⟩;rw[<-hd]at n0 bE bH bI bJ bK;have aQ:=ag hd;clear hd;obtain⟨w2,a0⟩:∃w2,w2=w1.alloc (.cells #[.int .u8 d.kind,ae d.l,ae d.r,ae d.fr,ae d.KD,ae 0,ae d.item] 163):=⟨_,rfl⟩;have ab:Below w1.heap.size w1 w2:=by rw[a0];exact(aI _ _).alloc (aB _) _
  have aL:w2.heap[w1.heap.size]? =some (.cells #[.int .u8 d.kind,ae d.l,ae d.r,ae d.fr,ae d.KD,ae 0,ae d.item] 163 (0,0)):=by rw[a0];exact bW w1 _
  have aO:w2.cell? (af w1.heap.size 0)=some (.int .u8 d.kind):=aD aL;have x1:w2.cell? (af w1.heap.size 1)=some (ae d.l):=aD aL;have x2:w2.cell? (af w1.heap.size 2)=some (ae d.r):=aD aL;have aM:=(ab.cell (p:=(af tb 3)) de).trans b4;have al:w1.heap.size<w2.heap.size:=(aY.1 aL).1;have bQ:=ag ab;have aU:Hid (cZ w2 lo hi tb fb R (gB h (t.root s) (some i)) cnt V):=am.o.below ab am.o.fC.2.2.2.2;have bT:Hid (ax (fun k=>V.hv.ownBlock=some k) W w2):=bR.o.below ab;have cO:Hid (Rd fE w2 (some (af b o)) (i::L)):=cN.o.below ab;clear env aN bo ab aL
  go_upto_region 3 with fail
  rw[<-a0];clear a0 n0 bE bH bI bJ cE bK b4;cases t with
  |leaf a=>
   have d1:(d.kind !=(2:Int))=true:=by rw[aQ.o];rfl
   have bc:Hid (Co W lo hi tb fb R (fillH (.leaf a) s (i::L) h) cnt V (.returned (.tuple #[])) w2):=⟨rfl,aU.o,bT.o⟩;clear x1 x2 bg;go_wp2
   go_end0
   exact bc.o
  |node l r=>
   have d1:(d.kind !=(2:Int))=false:=by rw[aQ.o];rfl
   have cr:=aP.o.left.lt;have cC:=aP.o.right.lt;have cj:d.l=((l.root s:Nat):Int):=by rw[aQ.o];show((s+l.size:Nat):Int)-1=_;unfold FT.root;have:=l.size_pos;omega
   have ck:d.r=((r.root (s+l.size):Nat):Int):=by rw[aQ.o];show((s+l.size+r.size:Nat):Int)-1=_;unfold FT.root;have:=r.size_pos;omega
   rw[cj]at x1;rw[ck]at x2;obtain⟨b1,b2⟩:=bg.o l r rfl;have be:=ag b1;have bf:=ag b2;obtain⟨m0,m1,m2,m3,m4,N,di,dj⟩:=mY (b0.o.below bQ.o) aP.o.left.get;rw[FT.vF]at N;have bt:=cQ.o;have db:l.hi<=20000:=by
    have:=FT.fe r bt.2.1;have az:(FT.node l r).hi=r.hi:=rfl;have:=bt.2.2;omega
   have cJ:Hid (∃c,c=l.hi):=⟨_,rfl⟩;rw[<-bU.o]at cr cC;clear cj ck b1 b2 bg m1 m2 m3 m4 di dj bt b0;have bY:Hid (fillH (.node l r) s (i::L) h=fillH r (s+l.size) (L.filter fun j=>!decide (j<l.hi)) (fillH l s (L.filter fun j=>decide (j<l.hi)) (gB h ((FT.node l r).root s) (some i)))):=rfl;obtain⟨c,cs⟩:∃c,c=l.hi:=⟨_,rfl⟩;obtain⟨kl,co⟩:∃kl,kl=l.root s:=⟨_,rfl⟩;obtain⟨kr,cp⟩:∃kr,kr=r.root (s+l.size):=⟨_,rfl⟩;rw[<-cs]at N db bY;rw[<-co]at N x1 be cr;rw[<-cp]at x2 bf cC;clear cs co cp cJ
   go_upto_region 5 with fail
   have ct:(i::L).length=n+1:=by simp[an.o]
   have bV:=ag ct;clear ct
   go_wp2_with (refine MM nG cO.o bV.o bq 1 (n+1) aa (aB _) rfl _ _ _ rfl rfl rfl rfl ?_;intro cR cz;simp only[Nat.add_sub_cancel])
   have b6:Rd fE w2 cR L:=by
    have y:=Rd.Wz cz;rw[<-bV.o,jO]at y;exact y
   have cK:=ag b6;clear cz b6;obtain⟨O,cw⟩:∃O,O=w1.heap.size:=⟨_,rfl⟩;have cl:f<w1.heap.size:=bX c6 bR.o.size;rw[<-cw]at aO x1 x2 al cl |-;clear cw;have df:tb<w2.heap.size:=aU.o.FY;have c8:a1<w2.heap.size:=bX c7 bQ.o.size;have c9:hi<=w2.heap.size:=aU.o.fC.2.2.2.2
   go_loopg [7,8,36] n (fun dg dl dm dk wr=>∃(j:Nat) (a5 a6:Value),dk=.int .i64 j/\dl=a5/\dm=a6/\j<=n/\n-j<=dg/\Hid (Below w2.heap.size w2 wr)/\
    Hid (wr.ownsRow w2.heap.size 3 1 a5 ((L.take j).filter fun k=>decide (k<c)).length (((L.take j).filter fun k=>decide (k<c)).map fE))/\
    Hid (wr.ownsRow w2.heap.size 3 1 a6 ((L.take j).filter fun k=>!decide (k<c)).length (((L.take j).filter fun k=>!decide (k<c)).map fE))/\Hid (∀g,a5.ownBlock=some g->a6.ownBlock≠some g))
   case atStart=>exact⟨0,_,_,rfl,rfl,rfl,bD _,aa,aI _ _,dx _ _ _ _,dx _ _ _ _,fun g h=>by cases h⟩
   case round=>
    obtain⟨j,a5,a6,rfl,rfl,rfl,cm,dG,u,J,D,I⟩:=hrel;obtain⟨aW,aZ,rfl⟩:=fI J.o;obtain⟨aq,cb,rfl⟩:=fI D.o;by_cases dH:j<n
    .have aF:j<L.length:=by have:=an.o;omega
     obtain⟨dr,dI,ar,dz,aC⟩:=(cK.o.below u.o).get aa;have a7:=aC j aF;simp only[fE]at a7;have ao:=ag (qZ (fun k=>decide (k<c)) L aF);have ap:=ag (qZ (fun k=>!decide (k<c)) L aF);have da:=bb.o L[j] (lh _ (bF aF));obtain⟨k,ac⟩:∃k,k=L[j]:=⟨_,rfl⟩;rw[<-ac]at a7 ao ap da;have br:((L.take j).filter fun k=>decide (k<c)).length<=n:=bA (fO _ _) (by rw[eH];omega);have bs:((L.take j).filter fun k=>!decide (k<c)).length<=n:=bA (fO _ _) (by rw[eH];omega);generalize(L.take j).filter (fun k=>decide (k<c))=A at*;generalize(L.take j).filter (fun k=>!decide (k<c))=B at*;have aM:=(u.o.cell (p:=(af tb 3)) df).trans aM;have x1:=(u.o.cell (p:=(af O 1)) al).trans x1;have N:=(u.o.cell (p:=(af a1 (off+kl*7+4))) c8).trans N;have bP:=ag ar;clear aC ac ar;obtain⟨z,ai⟩:∃z,z=A.length:=⟨_,rfl⟩;obtain⟨C,ak⟩:∃C,C=B.length:=⟨_,rfl⟩;rw[<-ai]at br J I |-;rw[<-ak]at bs D I |-;have aV:Hid (z=A.length/\C=B.length):=⟨ai,ak⟩;clear ai ak;have F:∀q,Below w2.heap.size w2 (wr.drewN q)/\(wr.drewN q).ownsRow w2.heap.size 3 1 (.slice aW z aZ) z (A.map fE)/\(wr.drewN q).ownsRow w2.heap.size 3 1 (.slice aq C cb) C (B.map fE)/\w2.heap.size<=(wr.drewN q).heap.size:=fun q=>
      ⟨u.o.trans ((Below.bu _ q).mono u.o.size),J.o.bu q,D.o.bu q,u.o.size⟩
     have aT:=ag F;clear F;obtain rfl:=bP.o;clear bP J D aF;by_cases dF:k<c
     .have cS:decide ((k:Int)<(c:Int))=true:=aH;have bi:decide (k<c)=true:=aH;rw[bi]at ao ap
      go_upto_region 8 with fail
      go_quiet (fail)
      obtain⟨f1,f2,f3,f4⟩:=aT.o nq;have Q:=ag f1;have S:=ag f2;have T:=ag f3;obtain⟨G,aw⟩:∃G,G=wr.drewN nq:=⟨_,rfl⟩;rw[<-aw]at Q S T f4 |-;clear aw f1 f2 f3 aT aM x1 N a7
      go_wp2_with (at_builtin;refine bZ nG w2.heap.size S.o [.int .i64 k] rfl (by simp[Value.oneCell']) rfl _ _ rfl rfl _ rfl dJ aa f4 ?_;intro bN w6 bw aE bp)
      go_roundg (n-(j+1))
      case measure=>omega
      case rel=>
       have cD:∀g,(Value.slice aq C cb).ownBlock=some g->(Value.slice aW z aZ).ownBlock≠some g:=fun g E w=>I.o g w E;have K:ax (fun q=>(Value.slice aW z aZ).ownBlock=some q) G w6:=(ax.refl _ G).grown aE (fun q bz=>.inl bz);refine⟨j+1,bN,_,by go_num,rfl,rfl,aa,aB _,dB Q.o S.o aE Q.o.size (aB _),?_,?_,?_⟩
       .show World.ownsRow _ _ _ _ _ _ _;rw[ao.o];simp only[gF];rw[bM,bS,<-aV.o.1];exact bw
       .show World.ownsRow _ _ _ _ _ _ _;rw[ap.o];simp only[Be,qP,jC,iP];rw[<-aV.o.2];exact aR T.o K (fun g E w=>cD g E w)
       .intro g e y;rcases gI bp with Y|⟨q,Y,c4⟩
        .exact cD g y (Y▸e)
        .rw[Y]at e;injection e with e;have:=(T.o.lt g y).2;omega
     .have cS:decide ((k:Int)<(c:Int))=false:=aH;have bi:decide (k<c)=false:=aH;rw[bi]at ao ap
      go_upto_region 8 with fail
      go_quiet (fail)
      obtain⟨f1,f2,f3,f4⟩:=aT.o nq;have Q:=ag f1;have S:=ag f2;have T:=ag f3;obtain⟨G,aw⟩:∃G,G=wr.drewN nq:=⟨_,rfl⟩;rw[<-aw]at Q S T f4 |-;clear aw f1 f2 f3 aT aM x1 N a7
      go_wp2_with (at_builtin;refine bZ nG w2.heap.size T.o [.int .i64 k] rfl (by simp[Value.oneCell']) rfl _ _ rfl rfl _ rfl dJ aa f4 ?_;intro bN w6 bw aE bp)
      go_roundg (n-(j+1))
      case measure=>omega
      case rel=>
       have K:ax (fun q=>(Value.slice aq C cb).ownBlock=some q) G w6:=(ax.refl _ G).grown aE (fun q bz=>.inl bz);refine⟨j+1,_,bN,by go_num,rfl,rfl,aa,aB _,dB Q.o T.o aE Q.o.size (aB _),?_,?_,?_⟩
       .show World.ownsRow _ _ _ _ _ _ _;rw[ao.o];simp only[qP,jC,iP];rw[<-aV.o.1];exact aR S.o K (fun g E w=>I.o g E w)
       .show World.ownsRow _ _ _ _ _ _ _;rw[ap.o];simp only[Bool.not_false,gF];rw[bM,bS,<-aV.o.2];exact bw
       .intro g e y;rcases gI bp with Y|⟨q,Y,c4⟩
        .exact I.o g e (Y▸y)
        .rw[Y]at y;injection y with y;have:=(S.o.lt g e).2;omega
    .obtain rfl:j=n:=aa;have ca:L.take j=L:=by rw[an.o,jO]
     rw[ca]at J D I |-;have cL:Hid (cZ wr lo hi tb fb R (gB h ((FT.node l r).root s) (some i)) cnt V):=aU.o.below u.o c9;have cH:Hid (ax (fun k=>V.hv.ownBlock=some k) W wr):=bT.o.below u.o;have cc:∀k∈L.filter (fun k=>decide (k<c)),k<=1000000:=fun k ac=>bb.o k (lh _ (bG.1 ac).1);have cd:∀k∈L.filter (fun k=>!decide (k<c)),k<=1000000:=fun k ac=>bb.o k (lh _ (bG.1 ac).1);have br:(L.filter fun k=>decide (k<c)).length<=j:=bA (fO _ _) (by rw[an.o];exact aB _);have bs:(L.filter fun k=>!decide (k<c)).length<=j:=bA (fO _ _) (by rw[an.o];exact aB _);generalize L.filter (fun k=>decide (k<c))=A at*;generalize L.filter (fun k=>!decide (k<c))=B at*;have x1:=(u.o.cell (p:=(af O 1)) al).trans x1;have x2:=(u.o.cell (p:=(af O 2)) al).trans x2;have dd:O<wr.heap.size:=bX al u.o.size;obtain⟨dp,ds,cT,-,cg,cA⟩:=Rd.aJ (enc:=fE) J.o;injection cT with cU cV cW;subst cU cW;have dD:f<w2.heap.size:=vw cl al;have bL:∀{v:Value} {m:Nat} {X:List Value} {a:Option Addr} {n' b3:Nat} {w':World},w'.ownsRow w2.heap.size 3 1 v m X->v=.slice a n' b3->Ux a V.hv:=fun{v m X a n' b3 w'} E w ad e az=>by
      subst w e;rcases E.2 with⟨U,-⟩|⟨g,du,dv,U,dw,-⟩
      .cases U
      .injection U with U;injection U with U;subst U;rw[bd.o]at az;injection az with az;simp only at az;omega
     have ba:=ag (be.o A wr _ aW aZ cL.o cA aa cg (bL J.o rfl) cc);have cF:=ag cd;have cM:Hid (Ux aq V.hv):=bL D.o rfl;clear ca cA J bL cc cd be N aM cV;obtain⟨z,ai⟩:∃z,z=A.length:=⟨_,rfl⟩;rw[<-ai]at ba cg br I |-;clear ai
     go_wp2_with fail
     refine ba.o.mono ?_;rintro e w6 ⟨rfl,b7,a2⟩;have cv:¬V.hv.ownBlock=some O:=fun e=>by
      rw[bd.o]at e;have e:f=O:=EB e;omega
     have x2:=((cu a2 dd cv).1 2).trans x2;have b9:=aR D.o a2 (fun g E w=>by
      rw[bd.o]at w;have w:f=g:=EB w;have:=(D.o.lt g E).1;omega)
     obtain⟨dq,dt,cX,-,ci,cB⟩:=Rd.aJ (enc:=fE) b9;injection cX with cY c0 c1;subst cY c1;have bO:=ag (bf.o B w6 _ aq cb b7 cB aa ci cM.o cF.o);have cI:Hid (ax (fun k=>V.hv.ownBlock=some k) W w6):=cH.o.trans a2;clear b9 cB b7 a2 cv ba bf D c0;obtain⟨C,ak⟩:∃C,C=B.length:=⟨_,rfl⟩;rw[<-ak]at bO ci bs I |-;clear ak
     go_wp2_with fail
     refine bO.o.mono ?_;rintro e dn ⟨rfl,b8,b5⟩;have bc:Hid (Co W lo hi tb fb R (fillH (.node l r) s (i::L) h) cnt V (.returned (.tuple #[])) dn):=by
      rw[bY.o];exact⟨rfl,b8,cI.o.trans b5⟩
     clear b8 b5;go_wp2
     go_end0
     exact bc.o
theorem MN {lo hi tb fb:Nat} {R:List Pt} {cnt:Int} {V:mq} (o:R.length<=20000):∀(t:FT) (s:Nat),FT.At (aX R.length) t s->t.wf->t.hi<=R.length->∀(L:List Nat) (W:World) (h:iI) (b:Option Addr) (c:Nat),
  cZ W lo hi tb fb R h cnt V->Rd fE W b L->L.length<=20000->L.length<=c->Ux b V.hv->(∀i∈L,i<=1000000)->
  aK 101 #[aj tb,ae (t.root s:Nat),.slice b L.length c] W (Co W lo hi tb fb R (fillH t s L h) cnt V):=by
 intro t
 induction t with
 |leaf a=>exact fun s m k n L W h b c H hp d f g j=>Cq o _ s m k n L W h b c H hp d f g j (fun l r e=>by cases e)
 |node l r p q=>
  intro s m k n L W h b c H hp d f g j;refine Cq o _ s m k n L W h b c H hp d f g j fun l' x e=>?_;cases e;have u:=FT.fe r k.2.1;have v:=k.2.2;have w:(FT.node l r).hi=r.hi:=rfl;exact⟨fun L W h b c H hp d f g j=>p s m.left k.1 aa L W h b c H hp d f g j,fun L W h b c H hp d f g j=>q _ m.right k.2.1 aa L W h b c H hp d f g j⟩
theorem Hq:∃i,Tryz.prog.info? 3=some i/\i.zero=some (.int .i64 0)/\i.size=1/\i.bytes=8:=by
 have h:(Tryz.prog.info? 3).map (fun i=>(i.zero,i.size,i.bytes))=some (some (.int .i64 0),1,8):=aM;cases hi:Tryz.prog.info? 3 with
 |none=>rw[hi]at h;cases h
 |some i=>rw[hi]at h;injection h with h;injection h with b a;injection a with a c;exact⟨i,rfl,b,a,c⟩
theorem Hr:(Tryz.prog.info? 3).map (·.size)=some 1:=by
 have⟨i,a,c,b,d⟩:=Hq;rw[a];simp[b]
theorem La (n:Nat) (d:n<=1000000) (W:World):(Instr.makeSlice 148 (.int .i64 n) (.int .i64 n)).run prog W=.ok (aA W.heap.size n n) (W.alloc (.cells (madeCells #[ae 0] n) 3)):=by
 have⟨i,hi,c,b,a⟩:=Hq;have h:=run_make (P:=prog) W 148 3 i (.int .i64 0) underlying148 hi c .i64 .i64 n n aa (vC _) (by rw[a];omega) aa;rw[h,gY,b,iJ];rfl
theorem Cr (W:World) (n:Nat):(W.alloc (.cells (madeCells #[ae 0] n) 3)).heap[W.heap.size]? =some (.cells (List.replicate n (ae 0)).toArray 3 (0,0)):=by
 rw[bW];congr 2;apply Array.ext';rw[toList_madeCells_one]
theorem DZ {w:World} {base g n:Nat} {xs:List Value} (c:w.heap[g]? =some (.cells xs.toArray 3 (0,0))) (b:base<=g) (a:xs.length=n) (d:n<=maxLen):w.ownsRow base 3 1 (aA g n n) n xs:=
 ⟨aQ a,.inr ⟨g,n,xs.toArray,rfl,b,c,aB _,d,aQ a,by rw[iJ];exact kD aH⟩⟩
theorem uD {P:Program} {ops:Array Oper} {o:Oper} {a:Act} {C:World->Prop} {b:Bool} {K:Act->Prop} {E0:Prop} {sz:Nat} {t e:TypeId} {bytes:Nat} (r:eP P t e sz bytes) (ad:Option Addr) (n c lo hi:Nat) (p:lo<=hi) (q:hi<=c)
  (s:o.guard=none) (x:Operand) (m f:Option Operand) (j:o.op=.slice t x m f none) (l:a.eval x=.slice ad n c) (g:(m.map a.eval).getD (.int .i64 0)=.int .i64 lo) (d:(f.map a.eval).getD (.int .i64 n)=.int .i64 hi)
  (h:K (a.put o.dst (.slice (if c=lo then ad else ad.map (·.add (lo*sz))) (hi-lo) (c-lo)))):
  if Region.wanted o (yielded ops a.tmps)=true then Oper.fB P o a C b K else E0:=by
 have y:Region.wanted o (yielded ops a.tmps)=true:=by simp[Region.wanted,s]
 rw[aO y];obtain⟨ht,⟨i,z,u,D,v,A,E⟩,B⟩:=r;have hu:∀W',(underlying t).run P W'=.ok (.slice e) W':=fun W'=>pO ht W';have k:∀W',(sizeOf e).run P W'=.ok sz W':=fun W'=>by simp[sizeOf,typeInfo,u,v]
 refine⟨_,fun w _=>?_,h⟩;unfold execOp;rcases m with _|lw
 .simp only[lN,mR,pK,qa]at g;obtain rfl:lo=0:=aa;rcases f with _|hg
  .simp only[lN,mR,pK,qa]at d;obtain rfl:hi=n:=aa;simp[j,l,Instr.sliceAt,Instr.slice,Instr.sliceBounds,hu,k]
  .simp only[fT,gH]at d;simp[j,l,d,Instr.sliceAt,Instr.slice,Instr.sliceBounds,Instr.sliceBound,hu,k,asIntOf,q]
 .simp only[fT,gH]at g;rcases f with _|hg
  .simp only[lN,mR,pK,qa]at d;obtain rfl:hi=n:=aa;simp[j,l,g,Instr.sliceAt,Instr.slice,Instr.sliceBounds,Instr.sliceBound,hu,k,asIntOf,p]
  .simp only[fT,gH]at d;simp[j,l,g,d,Instr.sliceAt,Instr.slice,Instr.sliceBounds,Instr.sliceBound,hu,k,asIntOf,p,q]
def sP (M k:Nat):List Value:=List.replicate k (.int .i64 (-1))++List.replicate (M-k) (.int .i64 0)
theorem Ht {M k:Nat} (h:k<=M):(sP M k).length=M:=by simp[sP];omega
theorem MO (M:Nat):sP M 0=List.replicate M (.int .i64 0):=by simp[sP]
theorem MP (M:Nat):sP M M=List.replicate M (.int .i64 (-1)):=by simp[sP]
theorem zI {M k m:Nat} (h:k+m<=M):splice (sP M k) k (List.replicate m (.int .i64 (-1)))=sP M (k+m):=by
 unfold splice sP;rw[Ef ay,kD ay,iA,List.drop_append];rw[oC ay,fQ,List.drop_replicate,iA,<-ed,List.replicate_append_replicate];congr 2;omega
theorem Pn {M k j:Nat} (h:j<k):(sP M k)[j]? =some (.int .i64 (-1)):=by
 unfold sP;rw[lW (aQ h),rz,aO h]
theorem Po (w:World) (b M:Nat) (r:w.heap[b]? =some (.cells #[ae (-1)] 3 (0,0))) (ac:M<=1000000):
  aK 100 #[aA b 1 1,ae M] w fun e w'=>∃v,e=.returned v/\w'.ownsRow w.heap.size 3 1 v M (List.replicate M (.int .i64 (-1)))/\Below w.heap.size w w':=by
 have am:=La M ac;have n:=ag (fun W=>Tryz.bits_Mul 1 M aa aa W);have p:1*M/18446744073709551616=0:=aa;have q:1*M%18446744073709551616=M:=aa;rw[p,q]at n;have z:=ag (Cr w M);have ai:b<w.heap.size:=(aY.1 r).1;have L:(w.alloc (.cells (madeCells #[ae 0] M) 3)).cell? (af b 0)=some (ae (-1)):=by
  have d:=(bL w (.cells (madeCells #[ae 0] M) 3) _ ai).trans r;simp[World.cell?,d]
 have A:=ag L;have d0:decide ((M:Int)<0)=false:=ay;have d3:decide ((M:Int)>9223372036854775807)=false:=aH;have d4:decide ((9223372036854775807:Int)<(M:Int))=false:=aH;have d5:decide (9223372036854775807<M)=false:=aH;clear p q r L;go_enter func100,ntmps100
 go_wp2_with fail
 refine(n.o w).mono ?_;rintro e w' ⟨rfl,ab⟩;subst ab
 go_upto_region 7 with fail
 obtain⟨w1,c⟩:∃w1,w1=w'.alloc (.cells (madeCells #[ae 0] M) 3):=⟨_,rfl⟩;obtain⟨g,f⟩:∃g,g=w'.heap.size:=⟨_,rfl⟩;have G:Below w'.heap.size w' w1:=by rw[c];exact(aI _ _).alloc (aB _) _
 have t:w'.heap.size<=g:=yo f.symm;have Q:w1.heap[g]? =some (.cells (sP M 0).toArray 3 (0,0)):=by rw[c,f,MO];exact z.o
 have B:Hid (w1.cell? (af b 0)=some (ae (-1))):=by rw[c];exact A.o
 have az:b≠g:=aa;rw[<-c,<-f];have F:=ag Q;have y:=ag G;clear c am z A n Q G f d0 d3 d4 d5;obtain⟨m,i⟩:∃m,m=Nat.min 1 M:=⟨_,rfl⟩;have D:=ag i;have al:m<=M:=by rw[i];exact Nat.min_le_right _ _
 have P:0<M->0<m:=fun h=>by rw[i];exact Nat.lt_min.2 ⟨aa,h⟩
 have X:=ag P;clear i P;have ht:∀j v,(List.replicate m (ae (-1)))[j]? =some v->w1.cell? (((af b 0):Addr).add j)=some v:=fun j v h=>by
  rw[rz]at h;split at h
  .rename_i aj;injection h with h;have:j=0:=by have ap:=D.o;have d:Nat.min 1 M<=1:=Nat.min_le_left _ _;omega
   subst this;rw[<-h];simpa[Addr.add]using B.o
  .cases h
 have E:=ag ht;clear ht
 go_wp2_with (refine wpList_copy_splice rfl _ _ _ _ rfl 3 underlying148 Hr _ _ _ _ _ _ rfl rfl g 0 (sP M 0) 3 F.o (List.replicate m (.int .i64 (-1))) (by rw[iA];exact D.o) (fun _=>⟨rfl,_,rfl,E.o⟩) (by rw[iA,Ht aa];omega) (fun v u=>by rw[List.eq_of_mem_replicate u];rfl) w'.heap.size w' y.o t ?_;intro w2 N H;simp only[iA,goInt];rw[zI (M:=M) (k:=0) (m:=m) aa,kH]at N;have R:=ag H;clear H)
 clear F y E B
 go_loopg [8] M (fun an ao wr=>∃k:Nat,ao=.int .i64 k/\k<=M/\M-k<=an/\Hid (0<M->0<k)/\Hid (wr.heap[g]? =some (.cells (sP M k).toArray 3 (0,0)))/\Hid (Below w'.heap.size w' wr))
 case atStart=>exact⟨m,rfl,al,aa,X,N,R⟩
 case round=>
  obtain⟨k,rfl,aq,ar,Y,C,x⟩:=hrel;by_cases au:k<M
  .have ak:=Y.o aa;obtain⟨m2,l⟩:∃m2,m2=Nat.min k (M-k):=⟨_,rfl⟩;have av:k+m2<=M:=by have d:Nat.min k (M-k)<=M-k:=Nat.min_le_right _ _;omega
   have aw:0<m2:=by rw[l];exact Nat.lt_min.2 ⟨ak,aa⟩
   have ax:m2<=k:=by rw[l];exact Nat.min_le_left _ _
   have V:=ag l;have Z:Hid (∀W:World,W.heap[g]? =some (.cells (sP M k).toArray 3 (0,0))->∀j v,(List.replicate m2 (ae (-1)))[j]? =some v->W.cell? (((af g 0):Addr).add j)=some v):=fun W ad j v h=>by
    rw[rz]at h;split at h
    .rename_i aj;have d:=Pn (M:=M) (k:=k) (j:=j) aa;rw[<-h];have ah:((af g 0):Addr).add j=(af g j):=by unfold Addr.add;split<;>simp_all
     rw[ah];simp[World.cell?,ad,d]
    .cases h
   clear l;have p:decide ((k:Int)<(M:Int))=true:=aH;have q:decide (k<M)=true:=aH
   go_upto_region 9 with fail
   refine lT (fun _=>True) [7,8,9] [(0,false),(1,false),(2,false),(3,false),(4,false),(5,false),(6,false)] trivial 3 ?_;simp only[jS,uM,uO,uI,dC,fZ,fT]
   iterate 3 (refine iZ (fun K a=>?_);go_simp;first|(refine a _ ?_;clear a K)|(apply Exists.intro;refine⟨fun _=>?_,a _ ?_⟩;rfl;clear a K))
   refine iZ (fun K a=>?_);refine uD nG (some (af g 0)) M M k M aa (aB _) rfl _ _ _ rfl rfl rfl rfl (a _ ?_);clear a K;rw[aN aa]
   iterate 2 (refine iZ (fun K a=>?_);go_simp;first|(refine a _ ?_;clear a K)|(apply Exists.intro;refine⟨fun _=>?_,a _ ?_⟩;rfl;clear a K))
   refine iZ (fun K a=>?_);refine uD nG (some (af g 0)) M M 0 k aa aa rfl _ _ _ rfl rfl rfl rfl (a _ ?_);clear a K;rw[aN aa];refine oN ?_;refine aC 7 rfl fun K a=>?_;have s:wr.drew.heap[g]? =some (.cells (sP M k).toArray 3 (0,0)):=C.o;have J:Below w'.heap.size w' wr.drew:=x.o.drew;refine step_copy_splice rfl _ _ _ _ rfl 3 underlying148 Hr (some (af g k)) (some (af g 0)) (M-k) (M-k) k M (by simp[Act.eval,Act.put,Addr.add]) (by simp[Act.eval,Act.put,Addr.add]) g k (sP M k) 3 s (List.replicate m2 (.int .i64 (-1))) (by rw[iA];exact V.o) (fun _=>⟨rfl,_,rfl,Z.o _ s⟩) (by rw[iA,Ht aa];omega) (fun v u=>by rw[List.eq_of_mem_replicate u];rfl) w'.heap.size w' J t ?_;intro w3 O I;simp only[iA,goInt];rw[zI (M:=M) (k:=k) (m:=m2) aa]at O;have U:=O;have S:=ag I;clear I s J;refine a _ _ (fun _ h=>absurd ay h) ?_;clear a K;refine aG [8,9] ?_;go_wp2
   go_roundg (M-(k+m2))
   case measure=>omega
   case rel=>exact⟨k+m2,by go_num,aa,aB _,fun _=>aa,U,S⟩
  .obtain rfl:k=M:=aa;have T:Hid (wr.ownsRow w'.heap.size 3 1 (aA g k k) k (List.replicate k (.int .i64 (-1)))):=by
    have:=C.o;rw[MP]at this;exact DZ this t ay dJ
   go_wp2;go_ret;exact⟨_,rfl,T.o,x.o⟩
theorem JW:eY 99:=bO func99 aM rfl
theorem Ru {W:World} {tb tc:Nat} {t:Option Addr} {G n:Nat} {R:List Pt} (z:W.cell? (af tc 0)=some (aj tb)) (w:W.cell? (af tb 0)=some (.slice t n G)) (s:bY dw 3 W t R) (y:R.length=n) (i j:Nat) (hi:i<n) (J:j<n) (L:n<=1000000):
  aK 99 #[ae i,ae j,aj tc] W fun e w'=>e=.returned (ae (og (bU R i) (bU R j)))/\xK W w':=by
 have b:i<R.length:=aa;have c:j<R.length:=aa;obtain⟨V,X,x,M,a⟩:=s.get aa;have d:=a i b 0 aa;have f:=a i b 1 aa;have g:=a i b 2 aa;have k:=a j c 0 aa;have v1:=a j c 1 aa;have l:=a j c 2 aa;simp only[dw,fZ,dC,dK]at d f g k v1 l;rw[<-dF b]at d f g;rw[<-dF c]at k v1 l;subst x;clear a b c s y;generalize bU R i=p at*;generalize bU R j=q at*;have u:=ag (fun W=>Tt p q W);generalize og p q=U at*;obtain⟨B,C,A⟩:=p;obtain⟨E,F,D⟩:=q;simp only at d f g k v1 l;have H:=ah z;have I:=ah w;have N:=ah d;have O:=ah f;have P:=ah g;have Q:=ah k;have S:=ah v1;have T:=ah l;go_enter func99,ntmps99
 go_upto_region 1 with fail
 refine au (fun W'=>∃p:aS W,W'=p.W) [14,15] [(0,true),(1,false),(2,false),(3,true),(4,false),(5,false),(6,true),(7,true),(8,false),(9,false),(10,true),(11,false),(12,false),(13,true)] ⟨⟨_,(aI _ _).drew⟩,rfl⟩ 2 ?_;refine aC 14 rfl fun K m=>?_;refine aT BL rfl _ _ rfl (vals:=#[jc B C A,jc E F D]) rfl (u.o W.drew) ?_;rintro e w2 ⟨rfl,r⟩;refine⟨_,rfl,m _ _ (fun _ h=>absurd ay h) ?_⟩;clear m K;refine aG [15] ?_;have v:Hid (xK W w2):=((xK.refl W).drew).trans r;clear r;go_wp2;go_ret;exact⟨rfl,v.o⟩
theorem VX (R:List Pt) (n:Nat):SWO (ltOf fun i j:Fin n=>og (bU R i) (bU R j)):=
 ⟨fun x=>QX.irrefl (bU R x),fun x y z=>QX.trans (bU R x) (bU R y) (bU R z),fun x y z=>QX.ntrans (bU R x) (bU R y) (bU R z)⟩
theorem Rv {w:World} {base g c n tb tc:Nat} {G:Option Addr} {aD:Nat} {R:List Pt} (hu:(ids R).Nodup) (av:R.Pairwise kI) (ai:R.length=n) (T:0<n) (ak:n<=1000000) (am:w.ownsRow base 3 1 (aA g n c) n ((List.range n).map fE))
  (Q:w.cell? (af tc 0)=some (aj tb)) (H:w.cell? (af tb 0)=some (.slice G n aD)) (D:bY dw 3 w G R) (I:tc≠g) (J:tb≠g) (o:∀ad,G=some ad->ad.block≠g):
  aK 98 #[aA g n c,.func (.func 99) #[] #[aj tc]] w fun e w'=>
   e=.returned (.tuple #[])/\w'.ownsRow base 3 1 (aA g n c) n ((dS R).map fE)/\ax (fun k=>k=g) w w':=by
 haveI:Inhabited (Fin n):=⟨⟨0,T⟩⟩
 obtain⟨a,ab,z,aJ,ah,an,ht⟩:∃a:Array Value,base<=g/\w.heap[g]? =some (.cells a 3 (0,0))/\n<=c/\c<=maxLen/\a.size=c/\a.toList.take n=(List.range n).map fE:=by
  rcases am.2 with⟨e,-⟩|⟨aI,aE,a,e,E,F,az,aB,aP,aC⟩
  .cases e
  .injection e with f aG S;injection f with f;injection f with f _ _;subst f S;exact⟨a,E,F,az,aB,aa,by rwa [iJ]at aC⟩
 obtain⟨l,A⟩:∃l:List (Fin n),l=List.finRange n:=⟨_,rfl⟩;have r:l.length=n:=by rw[A];simp
 have P:l.map (fun i:Fin n=>(i:Nat))=List.range n:=by rw[A];exact rH ay (fun i I J=>ay)
 obtain⟨enc,s⟩:∃enc:Fin n->Value,enc=fun i=>fE i.val:=⟨_,rfl⟩;have ae:l.map enc=(List.range n).map fE:=by rw[<-P,vz,s];rfl
 have U:Holds enc w g 0 l.toArray:=holds_of_block z (by rw[r,ht,ae]);have ag:g<w.heap.size:=(aY.1 z).1;have O:∀(m:Nat) (os:Array Obj) (dk:Array (Fin n)),ax (fun k=>k=g) w (sortWorld enc w g 0 m dk os):=fun m os dk=>by
  refine⟨rfl,rfl,rfl,?_,fun k aL B=>?_⟩
  .show w.heap.size<=((w.heap.modify g _)++os).size;simp
  .show((w.heap.modify g _)++os)[k]? =_;rw[xM aH,xQ,aN (fun e=>B e.symm)]
 have ar:=gW w _ Q;have aq:=gW w _ H;have V:CmpLays1 prog 99 #[aj tc] enc (fun i j:Fin n=>og (bU R i) (bU R j)) g 0 l.toArray.size w:=fun m os dk _ x y=>by
  have K:=O m os dk;rw[s]at K |-;refine(Ru (((cu K ar I).1 0).trans Q) (((cu K aq J).1 0).trans H) ?_ ai x y x.2 y.2 ak).mono fun e w' ⟨v,q,aw,au⟩=>⟨v,q,aw,au⟩;rcases D with D|⟨b,off,rfl,M,W⟩
  .exact .inl D
  .exact .inr ⟨b,off,rfl,bX M K.size,fun i hi j t=>((cu K M (o _ rfl)).1 _).trans (W i hi j t)⟩
 have u:=Any.slices_SortFunc Tryz.G6 enc (fun x=>by rw[s];rfl) (fun i j:Fin n=>og (bU R i) (bU R j)) (VX R n) 99 #[aj tc] g 0 c l.toArray w JW V U ag (by simp[r];omega);change aK 98 _ _ _ at u;rw[show l.toArray.size=n by simpa using r]at u;refine u.mono ?_;rintro e w' ⟨v,d',m,os,hp,ao,rfl⟩;have C:=sj (d:=l.toArray) (d':=d') (by rw[show l.toArray.size=n by simpa using r];exact hp);have N:d'.toList.length=n:=by rw[C.length_eq];simpa using r
 have L:=qA av hu;have X:(d'.toList.map fun i:Fin n=>(i:Nat)).Pairwise (zU R):=by
  refine dz.2 ?_;have al:d'.toList.Nodup:=C.nodup_iff.2 (by rw[A];simpa using List.nodup_finRange n);have ap:d'.toList.Pairwise fun i j:Fin n=>¬og (bU R j) (bU R i)<0:=by
   rw[gQ];intro i j hi t ac;have aM:d'.size=n:=aQ N;have o:=ao i j (bD _) ac (by simp at t |-;omega);simp at hi t;rw[rT d' j aa,rT d' i aa]at o;unfold ltOf at o;simpa using o
  refine List.Pairwise.imp (fun{i j} h=>?_) (ap.and al);have⟨E,F⟩:=h;rw[qz]at E;have B:(i:Nat)≠(j:Nat):=fun e=>F (Fin.ext e);have:=JJ hu (i:=i) (k:=j) aa aa B;unfold jN at this;unfold zU;unfold um at*;omega
 have Y:d'.toList.map (fun i:Fin n=>(i:Nat))=dS R:=by
  refine qh (R:=zU R) (fun i=>wG _) (fun h h'=>DC h h') X L.Uv fun i=>?_;rw[(C.map _).mem_iff,L.live,rz];show i∈l.map _↔_;rw[P,uW];constructor
  .intro h;rw[aO aa]
  .intro h;by_cases p:i<R.length
   .omega
   .rw[aN p]at h;cases h
 obtain⟨aF,-,-,-,p⟩:=rW (enc:=enc) (l:=l) (l':=d'.toList) ab z aa ah an aa m os;rw[N]at p;have Z:d'.toList.map enc=(dS R).map fE:=by rw[<-Y,vz,s];rfl
 rw[Z]at p;refine⟨v,?_,O m os d'⟩;simpa[sortWorld]using p
theorem Hu (a:Option Addr) (c:Nat) (l:List Pt) (w:World) (s:bY dw 3 w a l) (O:l.length<=1000000) (x:IA l):
  aK 97 #[.slice a l.length c] w (fw w (.bool (lK l))):=by
 have B:=ag s;have E:=ag x;clear s x;have N:=@run_makeMap prog;go_enter func97,ntmps97;go_wp2
 go_loopw [9] (fun k wr=>∃i:Nat,k=.int .i64 i/\i<=l.length/\Below w.heap.size w wr/\Hid (∃(D:DataW Unit),wr.ownsMap prog 27 (plainElem prog 3) w.heap.size i D/\nN D l i)) (fun k _=>l.length-(intOf k).toNat)
 case atStart=>exact⟨0,rfl,bD _,(aI _ _).alloc (aB _) _,⟨.map [],xX _ _ _ _,[],IsM.empty _ _⟩⟩
 case round=>
  obtain⟨i,rfl,hi,e,HO⟩:=hrel;by_cases g:i<l.length
  .obtain⟨b,off,q,M,f⟩:=(B.o.below e).get aa;have K:=f i g 0 aa;have x1:=f i g 1 aa;have x2:=f i g 2 aa;simp only[dw,fZ,dC,dK]at K x1 x2;have G:Hid (keyOf prog 27 (.int .u32 l[i].2.2)=some (.int .u32 l[i].2.2)):=yt underlying27 (E.o _ (bF _));obtain⟨D,t,d⟩:=HO.o;have n:=ag (d.put g);have L:=e.size;have m:=ag q;clear HO f d q;generalize l[i]=p at*;obtain⟨I,J,H⟩:=p;obtain rfl:=m.o;clear m;have h:=t.kept (qM wr (.cells #[ae I,ae J,ak H] 29) none) ay
   go_wp2_with (at_mapUpdate;refine xR _ rfl _ _ _ 26 rfl 27 3 (int_keyed underlying27) underlying26 _ w.heap.size i _ rfl h dJ _ _ _ rfl rfl G.o _ [] (uZ underlying3 (by simp[Lit.wf,IntKind.min,IntKind.max,IntKind.bits,IntKind.signed];omega)) ?_;intro w3 u r)
   have y:Below w.heap.size wr w3:=(((aI _ wr).alloc aa _)).grown r aH (fun j F=>by cases F;omega);have A:Hid (∃(D:DataW Unit),w3.ownsMap prog 27 (plainElem prog 3) w.heap.size (i+1) D/\nN D l (i+1)):=⟨_,u,n.o⟩;have z:=e.trans y;clear u r h t n;go_wp2;go_roundw
   case rel=>exact⟨i+1,by go_num,aa,z,A⟩
   case measure=>exact eT
  .obtain rfl:i=l.length:=aa;obtain⟨D,h,d⟩:=HO.o;have v:=d.size;have C:=ag v;clear v d HO
   go_wp2_with (at_len;refine wpList_len_own _ rfl _ 26 rfl 27 3 underlying26 _ w.heap.size _ _ rfl h ?_)
   go_ret;exact⟨by rw[C.o];rfl,e⟩
theorem cZ.grow {w:World} {lo hi a tb fb:Nat} {R:List Pt} {h:iI} {cnt:Int} {V:mq} (H:cZ w lo hi tb fb R h cnt V) (b:hi<=a) (c:a<=w.heap.size):cZ w lo a tb fb R h cnt V:=
 ⟨H.blk,⟨H.fC.1,by have:=H.fC.2.1;omega,H.fC.2.2.1,by have:=H.fC.2.2.2.1;omega,c⟩,H.row,H.xs,H.iH,H.jg,H.oo,fun v d g e=>bX (H.top v d g e) b⟩
theorem Pp (n:Nat):IB (fun _=>none) n=List.replicate n (.int .i64 (-1)):=by
 apply rH (by simp[IB]);intro i a b;simp[IB,oq]
theorem Pq {w:World} {base n tb tc:Nat} {av:Value} {f:Option Addr} {z:Nat} {R:List Pt} (hu:(ids R).Nodup) (u:R.Pairwise kI) (i:R.length=n) (q:n<=1000000) (b:w.ownsRow base 3 1 av n ((List.range n).map fE))
  (t:w.cell? (af tc 0)=some (aj tb)) (j:w.cell? (af tb 0)=some (.slice f n z)) (s:bY dw 3 w f R) (m:∀g,av.ownBlock=some g->tc≠g/\tb≠g/\∀ad,f=some ad->ad.block≠g):
  aK 98 #[av,.func (.func 99) #[] #[aj tc]] w fun e w'=>
   e=.returned (.tuple #[])/\w'.ownsRow base 3 1 av n ((dS R).map fE)/\ax (fun k=>av.ownBlock=some k) w w':=by
 by_cases l:n=0
 .subst l;have o:R=[]:=gU i;subst o;obtain⟨a,c,rfl⟩:=fI b;have h:=IG ({Tryz.G6 with}) a c (.func (.func 99) #[] #[aj tc]) w;change aK 98 _ _ _ at h;refine h.mono ?_;rintro e w' ⟨d,rfl⟩;exact⟨d,by simpa[dS,kC]using b,ax.refl _ _⟩
 .obtain⟨g,c,rfl,-,-,-,-⟩:=aV b aa;have⟨v,x,y⟩:=m g rfl;refine(Rv hu u i aa q b t j s v x y).mono ?_;rintro e w' ⟨d,r,p⟩;exact⟨d,r,p.mono fun k e=>by subst e;rfl⟩
theorem JX:eY 100:=bO func100 aM rfl
theorem Ps {w:World} {base:Nat} {e:TypeId} {sz:Nat} {a:Option Addr} {n c m:Nat} {xs:List Value} (h:w.ownsRow base e sz (.slice a n c) m xs):∀ad,a=some ad->(Value.slice a n c).ownBlock=some ad.block:=fun ad d=>by
 subst d;rcases h.2 with⟨b,-⟩|⟨g,f,i,b,-⟩
 .cases b
 .injection b with b;injection b with b;subst b;rfl
def FC (w:World) (R:List Pt) (e:Ending) (w':World):Prop:=
 ∃tb fb V,e=.returned (.tuple #[aj tb,ae 0])/\cZ w' w.heap.size w'.heap.size tb fb R (Cc R) R.length V/\Below w.heap.size w w'
structure Rw (w:World) (lo fb tb tc n:Nat) (rv nv fv:Value) (l:List Pt):Prop where
 row:w.ownsRow lo 29 3 rv n (l.flatMap dw)
 jg:w.ownsRow lo 163 7 nv (aX n).length ((aX n).flatMap oM)
 iH:nL w lo fb n fv
 Lb:w.heap[tc]? =some (.cells #[aj tb] 87 (0,0))
 Qu:lo<=fb
theorem Rw.kept {S:Nat->Prop} {w w':World} {lo fb tb tc n:Nat} {s r p:Value} {l:List Pt} (h:Rw w lo fb tb tc n s r p l) (K:ax S w w') (hS:∀k,k<w.heap.size->S k->∃cs t fr,w.heap[k]? =some (.cells cs t fr)/\t≠29/\t≠163/\t≠236/\t≠87):Rw w' lo fb tb tc n s r p l:=by
 have blk:∀{b:Nat} {m:Array Value} {j:TypeId} {o:Nat×Nat},w.heap[b]? =some (.cells m j o)->(∀cs t fr,w.heap[b]? =some (.cells cs t fr)->S b->t≠j)->w'.heap[b]? =some (.cells m j o):=fun q v=>bq K q fun u=>v _ _ _ q u rfl;refine⟨oW h.row K fun k g f=>?_,oW h.jg K fun k g f=>?_,⟨bq K h.iH.blk fun f=>?_,oW h.iH.row K fun k g f=>?_⟩,bq K h.Lb fun f=>?_,h.Qu⟩
 .obtain⟨cs,t,fr,a,b,c,d,e⟩:=hS k g f;exact⟨cs,t,fr,a,b⟩
 .obtain⟨cs,t,fr,a,b,c,d,e⟩:=hS k g f;exact⟨cs,t,fr,a,c⟩
 .have i:=(aY.1 h.iH.blk).1;have⟨cs,t,fr,a,b,c,d,e⟩:=hS fb i f;have:=a.symm.trans h.iH.blk;injection this with this;injection this with _ this _;exact d this
 .obtain⟨cs,t,fr,a,b,c,d,e⟩:=hS k g f;exact⟨cs,t,fr,a,c⟩
 .have i:=(aY.1 h.Lb).1;have⟨cs,t,fr,a,b,c,d,e⟩:=hS tc i f;have:=a.symm.trans h.Lb;injection this with this;injection this with _ this _;exact e this
theorem Cs {w:World} {base:Nat} {e:TypeId} {sz:Nat} {v:Value} {n:Nat} {xs:List Value} (h:w.ownsRow base e sz v n xs) {k:Nat} (a:v.ownBlock=some k):∃cs fr,w.heap[k]? =some (.cells cs e fr):=by
 rcases h.2 with⟨rfl,-⟩|⟨g,c,d,rfl,-,b,-⟩
 .cases a
 .injection a with a;subst a;exact⟨_,_,b⟩
theorem JY (a:Option Addr) (c:Nat) (l:List Pt) (w:World) (bm:bY dw 3 w a l) (dE:l.length<=20000) (db:IA l) (hu:lK l=true):
  aK 37 #[.slice a l.length c] w (FC w (eZ l)):=by
 have aZ:=Hu a c l w bm aa db;rw[hu]at aZ;have eb:=ag bm;obtain⟨n,bo⟩:∃n,n=l.length:=⟨_,rfl⟩;have cp:=ag (fun W (b9:Below w.heap.size w W)=>oP a l n c W bo.symm (bm.below b9) aa);have cA:=ag bo;rw[<-bo]at dE aZ |-;have am:=ag (fun W=>yF n aa W);clear bo bm;have d1:decide ((n:Int)>2147483648)=false:=aH;have d2:decide ((2147483648:Int)<(n:Int))=false:=aH;have d3:decide (2147483648<n)=false:=aH;have cW:(ids l).Nodup:=by unfold lK at hu;simpa using hu
 have bH:=ag cW;clear cW hu db;go_enter func37,ntmps37
 go_wp2_with (go_at_call 97;refine aZ.mono ?_;rintro e w1 ⟨rfl,bf⟩;clear aZ)
 go_wp2_with fail
 refine(am.o w1).mono ?_;rintro e w2 ⟨rfl,a4⟩;have ap:Hid (Below w.heap.size w w2):=by rw[a4];exact bf.alloc bf.size _
 have bA:Hid (w2.heap[w1.heap.size]? =some (lG 0 0 (aL) n)):=by rw[a4];exact bW w1 _
 obtain⟨fb,cd⟩:∃fb,fb=w1.heap.size:=⟨_,rfl⟩;have bj:w.heap.size<=fb/\fb<w2.heap.size:=by rw[a4,cd];exact⟨bf.size,ay⟩
 rw[<-cd]at bA |-;clear a4 bf cd am
 go_wp2_with fail
 refine(cp.o w2 ap.o).mono ?_;rintro e w3 ⟨em,rfl,ci,ca⟩;have cc:=(ca.block fb bj.2).trans bA.o;have bw:Hid (Below w.heap.size w w3):=ap.o.trans (ca.mono ap.o.size);have cB:=ag (bI ci ap.o.size);have cq:=ag (gJ fb n aa w3 cc);have cw:=ag cc;obtain⟨q,m,rfl⟩:=fI ci;clear ci ca cc cp bA ap
 go_wp2_with fail
 refine cq.o.mono ?_;rintro e w4 ⟨D,dW,rfl,jm,cf,cS,A⟩;have cj:=bw.o.size;have cC:Hid (w4.ownsRow w.heap.size 29 3 (.slice q n m) n (l.flatMap dw)):=Ju cB.o ai cw.o A;have bF:Hid (nL w4 w.heap.size fb n D):=⟨cS,bI jm cj⟩;have cz:Hid (w4.ownsRow w.heap.size 163 7 dW (aX n).length ((aX n).flatMap oM)):=bI cf cj;have F:Hid (Below w.heap.size w w4):=bw.o.trans (A.toBelow cj (fun k h=>by have:=bj.1;omega));obtain⟨t,nc,rfl⟩:=fI cf;obtain⟨M,bc⟩:∃M,M=(aX n).length:=⟨_,rfl⟩;have bL:=ag bc;have ec:M<=40000:=by rw[bc,dh];omega
 rw[<-bc];clear jm cf cS A cq bc cB cw bw
 go_upto_region 9 with fail
 obtain⟨wc,aE⟩:∃wc,wc=(w4.alloc (.cells #[.slice q n m,aL,aj fb,.slice t M nc,aL,ae n] 155)).alloc (.cells #[aj w4.heap.size] 87):=⟨_,rfl⟩;have cb:Below w4.heap.size w4 wc:=by rw[aE];exact((aI _ _).alloc (aB _) _).alloc ay _
 obtain⟨tb,aV⟩:∃tb,tb=w4.heap.size:=⟨_,rfl⟩;have cO:wc.heap[tb]? =some (MI (.slice q n m) (aL) fb (.slice t M nc) (aL) n):=by rw[aE,aV];exact EG w4 _ _
 have bd:wc.heap[tb+1]? =some (.cells #[aj tb] 87 (0,0)):=by rw[aE,aV];exact Bh w4 _ _
 rw[<-aE,<-aV];have U:Hid (Rw wc w.heap.size fb tb (tb+1) n (.slice q n m) (.slice t M nc) D l):=by
  have K:ax (fun _=>False) w4 wc:=(ax.refl _ w4).below cb;exact⟨aR cC.o K (fun _ _ h=>h),by rw[<-bL.o];have:=aR cz.o K (fun _ _ h=>h);rwa [<-bL.o]at this,⟨bq K bF.o.blk (fun h=>h),aR bF.o.row K (fun _ _ h=>h)⟩,bd,bj.1⟩
 have aq:=ag cO;have bv:Hid (Below w.heap.size w wc):=F.o.trans (cb.mono F.o.size);have dO:w.heap.size<=tb:=by rw[aV];exact F.o.size
 obtain⟨tc,N⟩:∃tc,tc=tb+1:=⟨_,rfl⟩;rw[<-N]at U bd |-;clear aE cb cO cC bF cz F aV N;have cm:=(aY.1 aq.o).1;have ct:=ag (yK cA.o.symm aa U.o.row bH.o);have cP:=aq.o;have b1:wc.cell? (af tb 0)=some (.slice q n m):=aD cP;have t0:wc.cell? (af tc 0)=some (aj tb):=aD bd;clear cP bd
 go_wp2_with fail
 refine ct.o.mono ?_;rintro e w4 ⟨rfl,cX,A⟩;have cL:Rw w4 w.heap.size fb tb tc n (.slice q n m) (.slice t M nc) D (eZ l):=by
  have h:=U.o;have f:=h.kept (S:=fun k=>(Value.slice q n m).ownBlock=some k) A;refine⟨cX,oW h.jg A fun k y f=>?_,⟨bq A h.iH.blk fun f=>?_,oW h.iH.row A fun k y f=>?_⟩,bq A h.Lb fun f=>?_,h.Qu⟩
  .obtain⟨cs,fr,e⟩:=Cs h.row f;exact⟨cs,_,fr,e,ai⟩
  .exact bn h.row h.iH.blk ai fb f rfl
  .obtain⟨cs,fr,e⟩:=Cs h.row f;exact⟨cs,_,fr,e,ai⟩
  .exact bn h.row h.Lb ai tc f rfl
 have V:Hid (w4.heap[tb]? =some (MI (.slice q n m) (aL) fb (.slice t M nc) (aL) n)):=bq A aq.o (fun h=>bn U.o.row aq.o ai tb h rfl);have F:Hid (Below w.heap.size w w4):=bv.o.trans (A.toBelow bv.o.size (fun k h=>(U.o.row.lt k h).1));have H:=ag cL;have z:(eZ l).length=n:=by rw[(dQ l).length_eq];exact cA.o.symm
 have cN:(ids (eZ l)).Nodup:=((dQ l).map _).nodup_iff.2 bH.o;have a2:Hid ((eZ l).Pairwise kI/\(ids (eZ l)).Nodup):=⟨fU bH.o,cN⟩;clear cX A cL U aq bv ct cN b1 t0 cm;generalize dA:eZ l=R at*;clear dA;have cm:=(aY.1 V.o).1;have c6:=(aY.1 H.o.Lb).1;have c9:=V.o;have N:=H.o.Lb;have b1:w4.cell? (af tb 0)=some (.slice q n m):=aD c9;have t0:w4.cell? (af tc 0)=some (aj tb):=aD N;clear c9 N
 go_wp2_with fail
 have dF:tc≠tb:=fun e=>by
  have y:=H.o.Lb;rw[e,V.o]at y;injection y with y;injection y with _ y _;exact absurd y ai
 go_loopg [7,43] n (fun dV d0 dZ wr=>∃(i:Nat) (co av:Value),dZ=.int .i64 i/\d0=av/\i<=n/\n-i<=dV/\Hid (wr.heap[tb]? =some (MI (.slice q n m) co fb (.slice t M nc) (aL) n))/\Hid (wr.ownsRow w4.heap.size 2 1 co i (((bV R).take i).map (Value.int .i64)))/\Hid (wr.ownsRow w4.heap.size 3 1 av i ((List.range i).map fE))/\Hid (ax (fun k=>k=tb) w4 wr))
 case atStart=>exact⟨0,_,_,rfl,rfl,bD _,aa,V,dx _ _ _ _,dx _ _ _ _,ax.refl _ _⟩
 case round=>
  obtain⟨i,co,av,rfl,rfl,hi,eh,ar,X,T,G⟩:=hrel;by_cases eg:i<n
  .have c1:=aR H.o.row G.o (fun g h f=>bn H.o.row V.o ai g h f.symm);obtain⟨_,_,b5,-,-,aQ⟩:=bY.aJ bg ai c1;injection b5 with b2 b3 b4;subst b2;clear b3 b4;obtain⟨b,off,du,ed,bi⟩:=aQ.get aa;have cn:=bi i aa 0 aa;have x1:=bi i aa 1 aa;have x2:=bi i aa 2 aa;simp only[dw,fZ,dC,dK]at cn x1 x2;have dc:(bV R).take (i+1)=(bV R).take i++[R[i].1]:=by
    have h:i<(bV R).length:=by unfold bV;simp;omega
    rw[ic h];simp[bV]
   have cF:=ag dc;subst du;clear bi aQ dc c1;generalize R[i]=p at*;obtain⟨aW,dj,dg⟩:=p;simp only at cF cn x1 x2;have N:=ar.o;have c8:=(aY.1 N).1;have cl:=(G.o.block tc c6 dF).trans H.o.Lb;have c7:=(aY.1 cl).1;obtain⟨r,s,rfl⟩:=fI X.o;obtain⟨aw,ac,rfl⟩:=fI T.o
   go_upto_region 14 with fail
   obtain⟨w6,J⟩:∃w6,w6=wr.alloc (.cells #[ae aW,ae dj,ak dg] 29):=⟨_,rfl⟩;have x:Below wr.heap.size wr w6:=by rw[J];exact(aI _ _).alloc (aB _) _
   have ab:w6.heap[wr.heap.size]? =some (.cells #[ae aW,ae dj,ak dg] 29 (0,0)):=by rw[J];exact bW wr _
   have ck:=(x.block tb c8).trans N;have c4:=(x.block tc c7).trans cl;have c2:=G.o.size;have c3:=x.size;have al:∀g,(Value.slice r i s).ownBlock=some g->w4.heap.size<=g/\g<wr.heap.size:=fun g h=>X.o.lt g h;have df:¬(Value.slice r i s).ownBlock=some tb:=fun h=>by have:=(al tb h).1;omega
   have dd:¬(Value.slice r i s).ownBlock=some tc:=fun h=>by have:=(al tc h).1;omega
   have de:¬(Value.slice r i s).ownBlock=some wr.heap.size:=fun h=>by have:=(al _ h).2;omega
   have br:∀{bk o:Nat} {v:Value},bk<w6.heap.size->¬(Value.slice r i s).ownBlock=some bk->w6.cell? (af bk o)=some v->∀p:wJ (fun k=>(Value.slice r i s).ownBlock=some k) w6,p.W.cell? (af bk o)=some v:=fun b9 hd da p=>((cu p.h b9 hd).1 _).trans da;have dH:wr.heap.size<w6.heap.size:=(aY.1 ab).1;have a6:=br (bX c7 c3) dd (o:=0) (v:=aj tb) (aD c4);have b6:=br (bX c8 c3) df (o:=1) (v:=.slice r i s) (aD ck);have dy:=br dH de (o:=0) (v:=.int .i64 aW) (aD ab);have bR:=ag (az X.o x);have bt:=ag (az T.o x);have cy:Hid (ax (fun k=>k=tb) w4 w6):=G.o.below x;have cD:=ag ck;rw[<-J];clear J x ab ck c4 cl N cn x1 x2 br dd de df;refine au (fun W=>∃p:wJ (fun k=>(Value.slice r i s).ownBlock=some k) w6,W=p.W) [9,10,11] [(0,true),(1,true),(2,false),(3,false),(4,true),(5,false),(6,true)] ⟨⟨_,(ax.refl _ _).drew⟩,rfl⟩ 5 ?_;refine aC 7 rfl fun K u=>?_;go_simp;refine u _ _ (fun _ _=>⟨⟨_,((ax.refl _ w6).alloc _).drew⟩,rfl⟩) ?_;clear u K;refine aC 8 rfl fun K u=>?_;refine bC zX w4.heap.size (w:=(w6.alloc (.cells #[ae aW] 2)).drew) (az bR.o ((aI _ w6).alloc (aB _) _|>.drew)) [.int .i64 aW] rfl (by simp[Value.oneCell']) rfl (.tmp 52) (.tmp 55) rfl rfl w6.heap.size rfl (jr _ _) dJ aa aH ?_;intro L I d ch cV ef ei;have cU:w6.grownBy d (Value.slice r i s).ownBlock:=dR (bN ((aI _ w6).alloc (aB _) _|>.drew)) cV;have Y:ax (fun k=>(Value.slice r i s).ownBlock=some k) w6 d:=(ax.refl _ w6).grown cU (fun k aO=>.inl aO);refine u _ _ (fun _ _=>⟨⟨_,Y⟩,rfl⟩) ?_;clear u K;refine aG [9,10,11] ?_;have bp:=bq Y cD.o (fun h=>by have:=(al tb h).1;omega);have dY:d.cell? (af tb 1)=some (.slice r i s):=aD bp;have f8:d.frozen? (af tb 1)=false:=aD bp;have cE:Hid ((d.setCell (af tb 1) (aA L (i+1) I)).heap[tb]? =some (MI (.slice (some (af b off)) n m) (aA L (i+1) I) fb (.slice t M nc) (aL) n)):=di d tb 1 _ _ _ bp;have b0:ax (fun k=>k=tb) d (d.setCell (af tb 1) (aA L (i+1) I)):=(ax.refl (fun k=>k=tb) d).set (a:=(af tb 1)) (aA L (i+1) I) (.inl rfl);have bS:Hid ((d.setCell (af tb 1) (aA L (i+1) I)).ownsRow w4.heap.size 2 1 (aA L (i+1) I) (i+1) (((bV R).take (i+1)).map (Value.int .i64))):=by
    have a8:=aR (S:=fun k=>k=tb) ch b0 (fun g h f=>by have:=(ch.lt g h).1;omega);show World.ownsRow _ _ _ _ _ _ _;rw[cF.o,bM];exact a8
   have an:=aR bt.o Y (fun g h f=>bB bt.o bR.o ai g h f);have ao:Hid ((d.setCell (af tb 1) (aA L (i+1) I)).ownsRow w4.heap.size 3 1 (.slice aw i ac) i ((List.range i).map fE)):=aR an b0 (fun g h f=>by have:=(an.lt g h).1;omega);have bK:Hid (ax (fun k=>k=tb) w4 (d.setCell (af tb 1) (aA L (i+1) I))):=((cy.o.mono (S':=fun k=>k=tb\/w4.heap.size<=k) (fun k h=>.inl h)).trans (Y.mono (fun k h=>.inr (al k h).1))).strip.set (a:=(af tb 1)) _ (.inl rfl);have ej:=Y.size;clear Y cU cV ch bp a6 b6 dy bR cD cy al an bt T X ar G b0
   go_upto_region 15 with fail
   obtain⟨P,cH⟩:∃P,P=d.setCell (af tb 1) (aA L (i+1) I):=⟨_,rfl⟩;rw[<-cH]at cE bS ao bK |-;have dN:w4.heap.size<=P.heap.size:=bK.o.size;clear cH dY f8
   go_wp2_with (at_builtin;refine bZ nG w4.heap.size ao.o [.int .i64 (i:Nat)] rfl (by simp[Value.oneCell']) rfl _ _ rfl rfl _ rfl dJ aa dN ?_;intro d4 d8 dG dD ee)
   go_roundg (n-(i+1))
   case measure=>omega
   case rel=>
    have bU:ax (fun k=>(Value.slice aw i ac).ownBlock=some k) P d8:=(ax.refl _ P).grown dD (fun k aO=>.inl aO);refine⟨i+1,_,d4,by go_num,rfl,aa,aB _,bq bU cE.o (fun h=>by have:=(ao.o.lt tb h).1;omega),aR bS.o bU (fun g h f=>bB bS.o ao.o ai g h f),?_,?_⟩
    .show World.ownsRow _ _ _ _ _ _ _;rw[pM,bM];exact dG
    .exact((bK.o.mono (S':=fun k=>k=tb\/w4.heap.size<=k) (fun k h=>.inl h)).trans (bU.mono (fun k h=>.inr (ao.o.lt k h).1))).strip
  .obtain rfl:i=n:=aa;obtain⟨aw,ac,rfl⟩:=fI T.o;have a1:Hid (Rw wr w.heap.size fb tb tc i (.slice q i m) (.slice t M nc) D R):=H.o.kept G.o (fun k y f=>by subst f;exact⟨_,_,_,V.o,ai,ai,ai,ai⟩);have bx:Hid (Below w.heap.size w wr):=F.o.trans (G.o.toBelow F.o.size (fun k h=>aa));have be:=X.o;rw[kD (by unfold bV;simp;omega)]at be;have bT:=ag be;have c2:=G.o.size;have a9:=T.o;have bs:=ag a9;have aU:=ar.o;have B:=a1.o.Lb;have cG:wr.cell? (af tb 0)=some (.slice q i m):=aD aU;have dk:wr.cell? (af tc 0)=some (aj tb):=aD B;obtain⟨_,_,b5,-,-,aQ⟩:=bY.aJ bg ai a1.o.row;injection b5 with b2 b3 b4;subst b2;clear b3 b4;have aM:∀g,(Value.slice aw i ac).ownBlock=some g->w4.heap.size<=g:=fun g h=>(a9.lt g h).1;have cr:=ag (Pq a2.o.2 a2.o.1 z aa a9 dk cG aQ (fun g h=>⟨by have:=aM g h;omega,by have:=aM g h;omega,fun ad e a8=>by
    have b7:=Ps H.o.row ad e;have:=(H.o.row.lt _ b7).2;have:=aM g h;omega⟩))
   have cv:=ag aM;obtain⟨r,s,rfl⟩:=fI be;clear be a9 aU B aQ aM b1 t0 cG dk X T G
   go_wp2_with fail
   refine cr.o.mono ?_;rintro e j ⟨rfl,c0,aP⟩;have bO:Hid (Rw j w.heap.size fb tb tc i (.slice q i m) (.slice t M nc) D R):=a1.o.kept aP (fun k y f=>by obtain⟨cs,fr,e⟩:=Cs bs.o f;exact⟨cs,_,fr,e,ai,ai,ai,ai⟩);have bQ:Hid (j.heap[tb]? =some (MI (.slice q i m) (.slice r i s) fb (.slice t M nc) (aL) i)):=bq aP ar.o (fun h=>by have:=cv.o tb h;omega);have dp:Hid (j.ownsRow w.heap.size 2 1 (.slice r i s) i ((bV R).map (Value.int .i64))):=bI (aR bT.o aP (fun g h f=>bB bT.o bs.o ai g h f)) F.o.size;have bu:=ag c0;have bz:Hid (Below w.heap.size w j):=bx.o.trans (aP.toBelow bx.o.size (fun k h=>by have:=cv.o k h;have:=F.o.size;omega));have dU:=(aY.1 bQ.o).1;have el:=(aY.1 bO.o.Lb).1;have aU:=bQ.o;have B:=bO.o.Lb;clear c0 aP cr a1 bx bT bs ar cm c6 c2;have a6:=ah (w:=j) (ad:=(af tc 0)) (v:=aj tb) (aD B);have b6:=ah (w:=j) (ad:=(af tb 3)) (v:=.slice t M nc) (aD aU);clear aU B
   go_upto_region 18 with fail
   refine au (fun W=>∃p:aS j,W=p.W) [8,9,10] [(0,true),(2,true),(3,false),(4,false),(5,true),(6,false)] ⟨⟨_,(aI _ _).drew⟩,rfl⟩ 5 ?_;refine aC 1 rfl fun K u=>?_;obtain⟨w6,J⟩:∃w6,w6=(j.alloc (.cells #[ae (-1)] 3)).drew:=⟨_,rfl⟩;have x:Below j.heap.size j w6:=by rw[J];exact((aI _ _).alloc (aB _) _).drew
   have ab:w6.heap[j.heap.size]? =some (.cells #[ae (-1)] 3 (0,0)):=by rw[J];exact bW j _
   go_simp;rw[<-J];clear J;refine u _ _ (fun _ _=>⟨⟨_,x⟩,rfl⟩) ?_;clear u K;refine aC 7 rfl fun K u=>?_;refine aT JX rfl _ _ rfl (vals:=#[aA j.heap.size 1 1,ae M]) rfl (Po w6 j.heap.size M ab aa) ?_;rintro e C ⟨da,rfl,cg,cQ⟩;have Z:Below j.heap.size j C:=x.trans (cQ.mono x.size);refine⟨_,rfl,u _ _ (fun _ _=>⟨⟨_,Z⟩,rfl⟩) ?_⟩;clear u K;refine aG [8,9,10] ?_;have O:=(Z.block tb dU).trans bQ.o;have dX:C.cell? (af tb 4)=some (aL):=aD O;have f7:C.frozen? (af tb 4)=false:=aD O;obtain⟨aF,aN,rfl⟩:=fI cg;obtain⟨d,a5⟩:∃d,d=C.setCell (af tb 4) (.slice aF M aN):=⟨_,rfl⟩;have Q:ax (fun k=>k=tb) C d:=by rw[a5];exact(ax.refl (fun k=>k=tb) C).set (a:=(af tb 4)) _ (.inl rfl)
   have a3:ax (fun _=>False) j C:=(ax.refl _ j).below Z;have cM:Rw C w.heap.size fb tb tc i (.slice q i m) (.slice t M nc) D R:=bO.o.kept a3 (fun k y f=>f.elim);have E:Rw d w.heap.size fb tb tc i (.slice q i m) (.slice t M nc) D R:=cM.kept Q (fun k y f=>by subst f;exact⟨_,_,_,O,ai,ai,ai,ai⟩);have b8:=fu (aR dp.o a3 (fun _ _ h=>h)) Q O ai;have ba:=fu cg Q O ai;have cJ:=fu (aR bu.o a3 (fun _ _ h=>h)) Q O ai;have dI:j.heap.size<=w6.heap.size:=x.size;have dL:j.heap.size<=C.heap.size:=Z.size;have dM:C.heap.size<=d.heap.size:=Q.size;have ek:=bz.o.size;have cx:Hid (cZ d w.heap.size d.heap.size tb fb R (fun _=>none) i ⟨.slice q i m,.slice r i s,.slice t M nc,.slice aF M aN,D⟩):=by
    refine⟨by rw[a5];exact di C tb 4 _ _ _ O,⟨dO,aa,bj.1,(aY.1 E.iH.blk).1,aB _⟩,by rw[z];exact E.row,by rw[z];exact b8,by rw[z];exact E.iH,by rw[z];exact E.jg,?_,?_⟩
    .rw[z,<-bL.o,Pp];exact bI ba aa
    .rintro v (rfl|rfl|rfl|rfl|rfl) g e
     .exact(E.row.lt g e).2
     .exact(b8.lt g e).2
     .exact(E.jg.lt g e).2
     .exact(ba.lt g e).2
     .exact(E.iH.row.lt g e).2
   have a0:Hid (Below w.heap.size w d):=(bz.o.trans (Z.mono bz.o.size)).trans (Q.toBelow aa (fun k h=>aa));have an:=ag cJ;have bP:=ag E.Lb;have dT:tc<d.heap.size:=(aY.1 E.Lb).1;have bG:Hid (∀g,(Value.slice aF M aN).ownBlock=some g->j.heap.size<=g):=fun g e=>by have:=(ba.lt g e).1;omega
   clear a6 b6 x ab cg cQ Z O Q a3 cM E b8 ba cJ dI dL dM
   go_upto_region 19 with fail
   rw[<-a5];clear a5 dX f7;by_cases cI:i=0
   .have d5:decide ((i:Int)>0)=false:=aH;have d6:decide ((0:Int)<(i:Int))=false:=aH;have d7:decide (0<i)=false:=aH;have cT:Cc R=fun _=>none:=by
     have dz:R=[]:=gU aa;subst dz;unfold Cc;rw[show dS []=[]from gU (by rw[jW];rfl),yT]
    have bE:Hid (FC w R (.returned (.tuple #[aj tb,ae 0])) d):=⟨tb,fb,⟨.slice q i m,.slice r i s,.slice t M nc,.slice aF M aN,D⟩,rfl,by rw[cT,z];exact cx.o,a0.o⟩;have B:=bP.o;have t8:d.cell? (af tc 0)=some (aj tb):=aD B;clear cT B cI;go_wp2;go_ret2;exact bE.o
   .have a7:0<i:=aa;have d5:decide ((i:Int)>0)=true:=aH;have d6:decide ((0:Int)<(i:Int))=true:=aH;have d7:decide (0<i)=true:=aH;have bh:Below d.heap.size d d.drew:=(aI _ _).drew;have ce:=cx.o.below bh (aB _);have bl:=ce.iH.blk;rw[z]at bl;have dm:=ag (jF fb i a7 aa d.drew (aD bl) (aD bl));obtain⟨dl,d9,ea⟩:=bJ 0 i a7;have dB:=fA 0 i a7;obtain⟨_,_,dq,-,cR,cY⟩:=Rd.aJ (enc:=fE) (az an.o bh);injection dq with dr ds dt;subst dr dt;have am:=ag (MN aa (dP 0 i) 0 (by rw[z];exact jU i a7) dl aa (dS R) d.drew (fun _=>none) aw ac ce cY (by rw[jW];omega) cR (fun ad e a8=>by
     have b7:=Ps bu.o ad e;have:=(bu.o.lt _ b7).2;have:=bG.o _ a8;omega) (fun k aO=>by have:=(qA a2.o.1 a2.o.2).lt aO;omega))
    rw[jW,z,show(dP 0 i).root 0=2*i-2 by unfold FT.root;omega]at am;have dn:Hid (fillH (dP 0 i) 0 (dS R) (fun _=>none)=Cc R):=by show _=_;unfold Cc;rw[z]
    have B:=bP.o;have a6:=ah (w:=d) (ad:=(af tc 0)) (v:=aj tb) (aD B);clear B bl ce dl d9 ea dB cR cY ds cI
    go_upto_region 20 with fail
    refine au (fun W=>∃p:aS d,W=p.W) [4] [(0,true),(1,false),(3,false)] ⟨⟨_,(aI _ _).drew⟩,rfl⟩ 2 ?_;refine aC 2 rfl fun K u=>?_;refine aT mF rfl _ _ rfl (vals:=#[aj fb]) rfl dm.o ?_;rintro e w' ⟨rfl,dv⟩;subst dv;refine⟨_,rfl,u _ _ (fun _ _=>⟨⟨_,bh⟩,rfl⟩) ?_⟩;clear u K;refine aG [4] ?_
    go_wp2_with fail
    refine am.o.mono ?_;rintro e P ⟨rfl,cK,bb⟩;have c5:=(bb.block tc (show tc<d.drew.heap.size from dT) (fun h=>by have:=bG.o tc h;omega)).trans (show d.drew.heap[tc]? =_ from bP.o);have t9:P.cell? (af tc 0)=some (aj tb):=aD c5;have bE:Hid (FC w R (.returned (.tuple #[aj tb,ae 0])) P):=by
     refine⟨tb,fb,⟨.slice q i m,.slice r i s,.slice t M nc,.slice aF M aN,D⟩,rfl,?_,?_⟩
     .rw[<-dn.o,z];exact cK.grow (by have:=bb.size;exact this) (aB _)
     .exact(a0.o.trans (bh.mono a0.o.size)).trans (bb.toBelow (by have:=a0.o.size;exact this) (fun k h=>by have:=bG.o k h;omega))
    clear cK bb c5;go_wp2;go_ret2;exact bE.o
end
section
open Go.RowKit Go.Sort Go.Shelf Go.Lib Go.Maps
def sQ (w:World) (lo hi tb n0:Nat) (l:List Pt):Prop:=
 ∃fb R h V,cZ w lo hi tb fb R h l.length V/\lV R h/\yX R h l/\R.length=n0/\n0<=20000
def zJ (n:Nat):Nat:=6*Lib.bitLen n+1
section
variable {w w':World} {lo hi tb n0:Nat} {l:List Pt}
theorem sQ.kept {S:Nat->Prop} (h:sQ w lo hi tb n0 l) (K:ax S w w') (hS:∀k,lo<=k->k<hi->¬S k):sQ w' lo hi tb n0 l:=by
 have⟨fb,R,h,V,a,b⟩:=h;exact⟨fb,R,h,V,a.kept K hS,b⟩
theorem sQ.Fw (h:sQ w lo hi tb n0 l):l.length<=n0/\n0<=20000:=by
 have⟨fb,R,h,V,c,a,b,d,e⟩:=h;have:=a.few;have:=b.len;omega
theorem TL (a:Option Addr) (c:Nat) (l:List Pt) (w:World) (j:bY dw 3 w a l) (k:l.length<=20000) (m:IA l) (hu:lK l=true):
  aK 37 #[.slice a l.length c] w fun e w'=>∃tb,e=.returned (.tuple #[aj tb,ae 0])/\sQ w' w.heap.size w'.heap.size tb l.length l/\Below w.heap.size w w':=
 (JY a c l w j k m hu).mono fun e w' ⟨tb,fb,V,i,b,h⟩=>by
  have g:(ids l).Nodup:=by unfold lK at hu;simpa using hu
  have f:=fU g;have hid:(ids (eZ l)).Nodup:=((dQ l).map _).nodup_iff.2 g;have d:(eZ l).length=l.length:=(dQ l).length_eq;rw[d]at b;exact⟨tb,i,⟨fb,_,_,V,b,(K3 f hid).1,(ME f hid).trans (dQ l),d,aa⟩,h⟩
theorem TM (h:sQ w lo hi tb n0 l) (x1 x2 y:Int):
  aK 41 #[aj tb,ae x1,ae x2,ae y] w fun e w'=>∃v,∃c:Nat,e=.returned (.tuple #[v,ae (c:Nat)])/\((xx l x1 x2 y).length<=c/\c<=2*(xx l x1 x2 y).length+zJ n0)/\w'.ownsRow w.heap.size 27 1 v (xx l x1 x2 y).length ((xx l x1 x2 y).map (Value.int .u32))/\Below w.heap.size w w':=by
 have⟨fb,R,h,V,j,a,k,m,p⟩:=h;refine(JR j a aa x1 x2 y).mono ?_;rintro e w' ⟨v,o,g,n⟩;have d:(kT true R h x1 x2 y).1=xy R h x1 x2 y:=by rw[Fz a true x1 x2 y];simp
 have⟨i,f⟩:=Ce k x1 x2 y;have b:=yY a aa true x1 x2 y;rw[d,f,m]at b;rw[d,i,f]at g;refine⟨v,_,o,⟨b.1,?_⟩,g,n⟩;have:=b.2;unfold zJ;simp only[gF]at this;omega
theorem VY (h:sQ w lo hi tb n0 l) (x1 x2 y:Int):
  aK 75 #[aj tb,ae x1,ae x2,ae y] w fun e w'=>(∃c:Nat,e=.returned (.tuple #[.bool (decide (0<(l.filter (xw x1 x2 y)).length)),ae c])/\c<=zJ n0)/\Below w.heap.size w w':=by
 have⟨fb,R,h,V,j,a,k,m,o⟩:=h;refine(Ph j a aa x1 x2 y).mono ?_;rintro e w' ⟨f,n⟩;have g:(kT false R h x1 x2 y).1=(xy R h x1 x2 y).take 1:=by rw[Fz a false x1 x2 y];simp
 have b:=(Ce k x1 x2 y).2;rw[G7]at b;have d:=(yY a aa false x1 x2 y).2;rw[m]at d;have i:decide (0<(kT false R h x1 x2 y).1.length)=decide (0<(l.filter (xw x1 x2 y)).length):=by
  rw[g,<-b,eH];simp only[mQ];omega
 rw[i]at f;refine⟨⟨_,f,?_⟩,n⟩;unfold zJ;simpa using d
end
end
end Go.Proofs.YtkjdbndekceffaaGreat
