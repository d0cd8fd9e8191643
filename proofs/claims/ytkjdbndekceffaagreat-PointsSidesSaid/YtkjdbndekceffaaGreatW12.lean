/- Made small by a program. -/
import Derived.Test.YtkjdbndekceffaaGreatW11
set_option linter.unusedSimpArgs false
set_option linter.unusedVariables false
set_option maxRecDepth 100000
set_option maxHeartbeats 16000000
namespace Go.Proofs.YtkjdbndekceffaaGreat
open Tryz
section
open Go Go.RowKit
abbrev iI:=Nat->Option Nat
def gB (h:iI) (k:Nat) (v:Option Nat):iI:=fun j=>if j=k then v else h j
theorem fZ (h:iI) (k:Nat) (v:Option Nat):gB h k v k=v:=by simp[gB]
theorem iw {h:iI} {k j:Nat} {v:Option Nat} (e:j≠k):gB h k v j=h j:=by simp[gB,e]
def held (h:iI):FT->Nat->List Nat
 |.leaf _,s=>(h s).toList
 |.node l r,s=>(h ((FT.node l r).root s)).toList++(held h l s++held h r (s+l.size))
theorem bK {h h':iI}:∀(t:FT) (s:Nat),(∀k,s<=k->k<s+t.size->h' k=h k)->held h' t s=held h t s
 |.leaf a,s,e=>by
  show(h' s).toList=(h s).toList;rw[e s (aB _) (by simp[FT.size])]
 |.node l r,s,e=>by
  have f:(FT.node l r).size=l.size+r.size+1:=rfl;have d:(FT.node l r).root s=s+(l.size+r.size+1)-1:=rfl;simp only[held];rw[e _ aa aa,bK l s (fun k b c=>e k b aa),bK r _ (fun k b c=>e k aa aa)]
theorem o9 {h:iI} {t:FT} {s i:Nat} (e:h (t.root s)=some i):∃L,held h t s=i::L:=by
 cases t with
 |leaf a=>exact⟨[],by show(h s).toList=_;rw[show h s=some i from e];rfl⟩
 |node l r=>exact⟨_,by simp only[held];rw[e];rfl⟩
theorem pg {h:iI}:∀(t:FT) (s:Nat),(∀k,s<=k->k<s+t.size->h k=none)->held h t s=[]
 |.leaf a,s,e=>by
  show(h s).toList=[];rw[e s (aB _) (by simp[FT.size])];rfl
 |.node l r,s,e=>by
  have f:(FT.node l r).size=l.size+r.size+1:=rfl;have d:(FT.node l r).root s=s+(l.size+r.size+1)-1:=rfl;simp only[held];rw[e _ aa aa,pg l s (fun k b c=>e k b aa),pg r _ (fun k b c=>e k aa aa)];rfl
def gT (lt:Nat->Nat->Prop) (h:iI):FT->Nat->Prop
 |.leaf a,s=>∀i,h s=some i->i=a
 |.node l r,s=>(∀i,h ((FT.node l r).root s)=some i->(l.lo<=i/\i<r.hi)/\(∀j,j∈held h l s->lt i j)/\∀j,j∈held h r (s+l.size)->lt i j)/\
   (h ((FT.node l r).root s)=none->held h l s=[]/\held h r (s+l.size)=[])/\gT lt h l s/\gT lt h r (s+l.size)
section
variable {lt:Nat->Nat->Prop} {h h':iI}
theorem gT.congr:∀{t:FT} {s:Nat},(∀k,s<=k->k<s+t.size->h' k=h k)->gT lt h t s->gT lt h' t s
 |.leaf a,s,e,g=>by
  intro i hi;rw[e s (aB _) (by simp[FT.size])]at hi;exact g i hi
 |.node l r,s,e,g=>by
  have o:(FT.node l r).size=l.size+r.size+1:=rfl;have n:(FT.node l r).root s=s+(l.size+r.size+1)-1:=rfl;have c:=fun k (b:s<=k) (f:k<s+l.size)=>e k b aa;have d:=fun k (b:s+l.size<=k) (f:k<s+l.size+r.size)=>e k aa aa;have⟨b,f,j,m⟩:=g;refine⟨?_,?_,j.congr c,m.congr d⟩
  .rw[e _ aa aa,bK l s c,bK r _ d];exact b
  .rw[e _ aa aa,bK l s c,bK r _ d];exact f
theorem gT.span:∀{t:FT} {s:Nat},t.wf->gT lt h t s->∀i∈held h t s,t.lo<=i/\i<t.hi
 |.leaf a,s,b,c,i,hi=>by
  have:=c i (by simpa[held]using hi);subst this;simp[FT.lo,FT.hi]
 |.node l r,s,b,c,i,hi=>by
  have⟨d,g,e,f⟩:=c;have j:=FT.eZ l b.1;have k:=FT.eZ r b.2.1;have m:=b.2.2;simp only[held,bP,AR]at hi;show l.lo<=i/\i<r.hi;rcases hi with hi|hi|hi
  .exact(d i hi).1
  .have:=e.span b.1 i hi;omega
  .have:=f.span b.2.1 i hi;omega
theorem gT.empty:∀{t:FT} {s:Nat},gT lt h t s->h (t.root s)=none->held h t s=[]
 |.leaf a,s,b,e=>by show(h s).toList=[];rw[show h s=none from e];rfl
 |.node l r,s,b,e=>by
  obtain⟨g,f,i,j⟩:=b;obtain⟨c,d⟩:=f e;simp only[held];rw[e,c,d];rfl
theorem gT.first:∀{t:FT} {s i:Nat},gT lt h t s->h (t.root s)=some i->∀j∈held h t s,j=i\/lt i j
 |.leaf a,s,i,c,e,j,hj=>by
  left;have:h s=some j:=by simpa[held]using hj
  rw[show h s=some i from e]at this;injection this with this;exact this.symm
 |.node l r,s,i,c,e,j,hj=>by
  have⟨b,d,f,g⟩:=c;simp only[held,bP,AR]at hj;rcases hj with hj|hj|hj
  .rw[e]at hj;injection hj with hj;exact .inl hj.symm
  .exact .inr ((b i e).2.1 j hj)
  .exact .inr ((b i e).2.2 j hj)
theorem gT.none:∀(t:FT) (s:Nat),(∀k,s<=k->k<s+t.size->h k=Option.none)->gT lt h t s
 |.leaf a,s,e=>by
  intro i hi;rw[e s (aB _) (by simp[FT.size])]at hi;cases hi
 |.node l r,s,e=>by
  have j:(FT.node l r).size=l.size+r.size+1:=rfl;have g:(FT.node l r).root s=s+(l.size+r.size+1)-1:=rfl;have b:=fun k (d:s<=k) (f:k<s+l.size)=>e k d aa;have c:=fun k (d:s+l.size<=k) (f:k<s+l.size+r.size)=>e k aa aa;refine⟨fun i hi=>?_,fun _=>⟨pg l s b,pg r _ c⟩,gT.none l s b,gT.none r _ c⟩;rw[e _ aa aa]at hi;cases hi
end
def fillH:FT->Nat->List Nat->iI->iI
 |.leaf _,s,L,h=>match L with
  |[]=>h
  |i::_=>gB h s (some i)
 |.node l r,s,L,h=>match L with
  |[]=>h
  |i::L=>fillH r (s+l.size) (L.filter fun j=>!decide (j<l.hi)) (fillH l s (L.filter fun j=>decide (j<l.hi)) (gB h ((FT.node l r).root s) (some i)))
theorem yT (t:FT) (s:Nat) (h:iI):fillH t s [] h=h:=by cases t<;>rfl
theorem tT:∀(t:FT) (s:Nat) (L:List Nat) (h:iI) (k:Nat),(k<s\/s+t.size<=k)->fillH t s L h k=h k
 |.leaf a,s,[],h,k,b=>rfl
 |.leaf a,s,i::L,h,k,b=>by
  simp only[FT.size]at b;exact iw aa
 |.node l r,s,[],h,k,b=>rfl
 |.node l r,s,i::L,h,k,b=>by
  have d:(FT.node l r).size=l.size+r.size+1:=rfl;have c:(FT.node l r).root s=s+(l.size+r.size+1)-1:=rfl;simp only[fillH];rw[tT r _ _ _ k aa,tT l _ _ _ k aa];exact iw aa
theorem vN {lt:Nat->Nat->Prop}:∀(t:FT) (s:Nat) (L:List Nat) (h:iI),t.wf->L.Pairwise lt->L.Nodup->(∀i∈L,t.lo<=i/\i<t.hi)->(∀k,s<=k->k<s+t.size->h k=none)->
  gT lt (fillH t s L h) t s/\(held (fillH t s L h) t s).Perm L
 |t,s,[],h,m,f,o,p,n=>by
  rw[yT];exact⟨gT.none t s n,by rw[pg t s n]⟩
 |.leaf a,s,i::L,h,m,f,o,p,n=>by
  simp only[FT.lo,FT.hi]at p;have P:i=a:=by have:=p i aA;omega
  have M:L=[]:=by
   cases L with
   |nil=>rfl
   |cons j L=>
    have:=p j aA;have:i≠j:=(mM.1 o).1|>fun h e=>h (by simp[e]);omega
  subst P M;refine⟨fun j b=>?_,?_⟩
  .simp only[fillH,fZ]at b;injection b with b;exact b.symm
  .show((gB h s (some i)) s).toList.Perm _;rw[fZ];exact pU _
 |.node l r,s,i::L,h,m,f,o,p,n=>by
  have R:(FT.node l r).size=l.size+r.size+1:=rfl;have Q:(FT.node l r).root s=s+(l.size+r.size+1)-1:=rfl;have S:=FT.eZ l m.1;have T:=FT.eZ r m.2.1;have U:=m.2.2;rw[lX]at f;rw[mM]at o;have z:∀j∈i::L,l.lo<=j/\j<r.hi:=p;simp only[fillH];generalize I:gB h ((FT.node l r).root s) (some i)=c;have C:∀k,k≠(FT.node l r).root s->c k=h k:=fun k g=>by rw[<-I];exact iw g
  have K:c ((FT.node l r).root s)=some i:=by rw[<-I];exact fZ _ _ _
  generalize v:L.filter (fun j=>decide (j<l.hi))=A;generalize w:L.filter (fun j=>!decide (j<l.hi))=B;have G:∀j,j∈A↔j∈L/\j<l.hi:=fun j=>by rw[<-v];simp
  have H:∀j,j∈B↔j∈L/\¬j<l.hi:=fun j=>by rw[<-w];simp
  have q:=vN (lt:=lt) l s A c m.1 (by rw[<-v];exact f.2.filter _) (by rw[<-v];exact o.2.filter _) (fun j b=>by have:=(G j).1 b;have:=z j (kW _ this.1);omega) (fun k c d=>by rw[C k aa];exact n k c aa);generalize N:fillH l s A c=d at q |-;have D:∀k,(k<s\/s+l.size<=k)->d k=c k:=fun k g=>by rw[<-N];exact tT l s A c k g
  have u:=vN (lt:=lt) r (s+l.size) B d m.2.1 (by rw[<-w];exact f.2.filter _) (by rw[<-w];exact o.2.filter _) (fun j b=>by have:=(H j).1 b;have:=z j (kW _ this.1);omega) (fun k c d=>by rw[D k aa,C k aa];exact n k aa aa);generalize O:fillH r (s+l.size) B d=y at u |-;have E:∀k,(k<s+l.size\/s+l.size+r.size<=k)->y k=d k:=fun k g=>by rw[<-O];exact tT r _ B d k g
  have F:∀k,s<=k->k<s+l.size->y k=d k:=fun k _ g=>E k (.inl g);have x:y ((FT.node l r).root s)=some i:=by rw[E _ aa,D _ aa,K]
  have J:=bK l s F;have hp:(A++B).Perm L:=by rw[<-v,<-w];exact List.filter_append_perm _ L
  refine⟨⟨fun j b=>?_,fun b=>?_,q.1.congr F,u.1⟩,?_⟩
  .rw[x]at b;injection b with b;subst b;refine⟨z i aA,fun j b=>?_,fun j b=>?_⟩
   .rw[J]at b;exact f.1 j ((G j).1 ((q.2.mem_iff).1 b)).1
   .exact f.1 j ((H j).1 ((u.2.mem_iff).1 b)).1
  .rw[x]at b;cases b
  .simp only[held];rw[x,J];exact((q.2.append u.2).trans hp).cons i
def downG (more:Bool) (h:iI) (yv:Nat->Int) (y:Int) (fr ub:Nat):FT->Nat->List Nat×Nat×Bool
 |.leaf a,s=>match h s with
  |none=>([],1,true)
  |some i=>if y<yv i\/a+1<=fr\/ub<=a then([],1,true)else if fr<=i/\i<ub then([i],1,more)else([],1,true)
 |.node l r,s=>match h ((FT.node l r).root s)with
  |none=>([],1,true)
  |some i=>if y<yv i\/r.hi<=fr\/ub<=l.lo then([],1,true)else
   if(fr<=i/\i<ub)/\more=false then([i],1,false)else
   ((if fr<=i/\i<ub then[i]else[])++(downG more h yv y fr ub l s).1++(if(downG more h yv y fr ub l s).2.2 then(downG more h yv y fr ub r (s+l.size)).1 else[]),
    1+(downG more h yv y fr ub l s).2.1+(if(downG more h yv y fr ub l s).2.2 then(downG more h yv y fr ub r (s+l.size)).2.1 else 0),
    (downG more h yv y fr ub l s).2.2&&(downG more h yv y fr ub r (s+l.size)).2.2)
def zD (yv:Nat->Int) (y:Int) (fr ub i:Nat):Bool:=decide (fr<=i/\i<ub/\yv i<=y)
section
variable {lt:Nat->Nat->Prop} {h:iI} {yv:Nat->Int} {y:Int} {fr ub:Nat}
theorem ny {more:Bool} {t:FT} {s:Nat} (e:h (t.root s)=none):downG more h yv y fr ub t s=([],1,true):=by
 cases t with
 |leaf a=>have b:h s=none:=e;simp only[downG];rw[b]
 |node l r=>simp only[downG];rw[e]
theorem mG {more:Bool} {t:FT} {s i:Nat} (e:h (t.root s)=some i) (hp:y<yv i\/t.hi<=fr\/ub<=t.lo):downG more h yv y fr ub t s=([],1,true):=by
 cases t with
 |leaf a=>
  have c:h s=some i:=e;have b:y<yv i\/a+1<=fr\/ub<=a:=hp;simp only[downG];rw[c];simp only;rw[aO b]
 |node l r=>
  have b:y<yv i\/r.hi<=fr\/ub<=l.lo:=hp;simp only[downG];rw[e];simp only;rw[aO b]
theorem vO {more:Bool} {a s i:Nat} (e:h s=some i) (hp:¬(y<yv i\/a+1<=fr\/ub<=a)):downG more h yv y fr ub (.leaf a) s=(if fr<=i/\i<ub then[i]else[],1,!(decide (fr<=i/\i<ub)&&!more)):=by
 simp only[downG];rw[e];simp only;rw[aN hp];by_cases b:fr<=i/\i<ub
 .rw[aO b,aO b];simp[b]
 .rw[aN b,aN b];simp[b]
theorem BX {t:FT} {s i:Nat} (e:h (t.root s)=some i) (hp:¬(y<yv i\/t.hi<=fr\/ub<=t.lo)) (b:fr<=i/\i<ub):downG false h yv y fr ub t s=([i],1,false):=by
 cases t with
 |leaf a=>
  have c:h s=some i:=e;rw[vO c hp];simp[b]
 |node l r=>
  have d:¬(y<yv i\/r.hi<=fr\/ub<=l.lo):=hp;simp only[downG];rw[e];simp only;rw[aN d];simp[b]
theorem BZ {more:Bool} {l r:FT} {s i:Nat} (e:h ((FT.node l r).root s)=some i) (hp:¬(y<yv i\/r.hi<=fr\/ub<=l.lo)) (b:(decide (fr<=i/\i<ub)&&!more)=false):downG more h yv y fr ub (.node l r) s=
   ((if fr<=i/\i<ub then[i]else[])++(downG more h yv y fr ub l s).1++(if(downG more h yv y fr ub l s).2.2 then(downG more h yv y fr ub r (s+l.size)).1 else[]),
    1+(downG more h yv y fr ub l s).2.1+(if(downG more h yv y fr ub l s).2.2 then(downG more h yv y fr ub r (s+l.size)).2.1 else 0),
    (downG more h yv y fr ub l s).2.2&&(downG more h yv y fr ub r (s+l.size)).2.2):=by
 have c:¬((fr<=i/\i<ub)/\more=false):=fun a=>by
  rw[a.2]at b;simp[a.1]at b
 conv=>lhs;simp only[downG]
 rw[e];simp only;rw[aN hp,aN c]
theorem OV {more:Bool} {t:FT} {s i:Nat} (e:h (t.root s)=some i) (hp:¬(y<yv i\/t.hi<=fr\/ub<=t.lo)) (b:fr<=i/\i<ub):[i] <+: (downG more h yv y fr ub t s).1:=by
 cases t with
 |leaf a=>
  have c:h s=some i:=e;rw[vO c hp,aO b];exact List.prefix_rfl
 |node l r=>
  cases more with
  |false=>rw[BX e hp b];exact List.prefix_rfl
  |true=>
   rw[BZ e hp aA,aO b,dY];exact List.prefix_append _ _
theorem Fz {t:FT} {s i:Nat} (d:t.wf) (b:gT lt h t s) (c:∀i j,lt i j->yv i<=yv j) (e:h (t.root s)=some i) (hp:y<yv i\/t.hi<=fr\/ub<=t.lo):(held h t s).filter (zD yv y fr ub)=[]:=by
 refine uG.2 fun j a=>?_;have f:=b.span d j a;have g:yv i<=yv j:=by
  rcases b.first e j a with h3|h3
  .rw[h3];exact vC _
  .exact c _ _ h3
 unfold zD;simp only[dH];omega
theorem vP (f:∀i j,lt i j->yv i<=yv j):∀(t:FT) (s:Nat),t.wf->gT lt h t s->(downG true h yv y fr ub t s).1=(held h t s).filter (zD yv y fr ub)/\(downG true h yv y fr ub t s).2.2=true
 |.leaf a,s,d,b=>by
  cases e:h s with
  |none=>rw[ny (t:=.leaf a) e,b.empty e];exact⟨rfl,rfl⟩
  |some i=>
   by_cases hp:y<yv i\/(FT.leaf a).hi<=fr\/ub<=(FT.leaf a).lo
   .rw[mG (t:=.leaf a) e hp,Fz d b f e hp];exact⟨rfl,rfl⟩
   .have w:=b i e;simp only[downG,held];rw[e];have g:¬(y<yv i\/a+1<=fr\/ub<=a):=hp;simp only[aN g,Option.toList];by_cases c:fr<=i/\i<ub
    .rw[aO c];have:zD yv y fr ub i=true:=by unfold zD;simp only[dH];omega
     simp[this]
    .rw[aN c];have:zD yv y fr ub i=false:=by unfold zD;simp only[gY];omega
     simp[this]
 |.node l r,s,d,b=>by
  cases e:h ((FT.node l r).root s)with
  |none=>rw[ny e,b.empty e];exact⟨rfl,rfl⟩
  |some i=>
   by_cases hp:y<yv i\/(FT.node l r).hi<=fr\/ub<=(FT.node l r).lo
   .rw[mG e hp,Fz d b f e hp];exact⟨rfl,rfl⟩
   .obtain⟨u,v,k,m⟩:=b;have⟨n,o⟩:=vP f l s d.1 k;have⟨p,q⟩:=vP f r _ d.2.1 m;have g:¬(y<yv i\/r.hi<=fr\/ub<=l.lo):=hp;simp only[downG,held];rw[e];simp only[aN g,n,o,p,q,Option.toList,mI,l5,EE];by_cases c:fr<=i/\i<ub
    .have:zD yv y fr ub i=true:=by unfold zD;simp only[dH];omega
     simp[this,c]
    .have:zD yv y fr ub i=false:=by unfold zD;simp only[gY];omega
     simp[this,c]
theorem Mm {α:Type} {a b:List α} (h:a≠[]):(a++b).take 1=a.take 1:=by
 cases a with
 |nil=>exact absurd rfl h
 |cons x a=>rfl
theorem yU (g:∀i j,lt i j->yv i<=yv j):∀(t:FT) (s:Nat),t.wf->gT lt h t s->(downG false h yv y fr ub t s).1=((held h t s).filter (zD yv y fr ub)).take 1/\((downG false h yv y fr ub t s).2.2=true↔(held h t s).filter (zD yv y fr ub)=[])
 |.leaf a,s,d,b=>by
  cases e:h s with
  |none=>rw[ny (t:=.leaf a) e,b.empty e];simp
  |some i=>
   by_cases hp:y<yv i\/(FT.leaf a).hi<=fr\/ub<=(FT.leaf a).lo
   .rw[mG (t:=.leaf a) e hp,Fz d b g e hp];simp
   .have A:=b i e;simp only[downG,held];rw[e];have m:¬(y<yv i\/a+1<=fr\/ub<=a):=hp;simp only[aN m,Option.toList];by_cases c:fr<=i/\i<ub
    .rw[aO c];have:zD yv y fr ub i=true:=by unfold zD;simp only[dH];omega
     simp[this]
    .rw[aN c];have:zD yv y fr ub i=false:=by unfold zD;simp only[gY];omega
     simp[this]
 |.node l r,s,d,b=>by
  cases e:h ((FT.node l r).root s)with
  |none=>rw[ny e,b.empty e];simp
  |some i=>
   by_cases hp:y<yv i\/(FT.node l r).hi<=fr\/ub<=(FT.node l r).lo
   .rw[mG e hp,Fz d b g e hp];simp
   .obtain⟨x,z,o,p⟩:=b;have⟨u,n⟩:=yU g l s d.1 o;have⟨v,w⟩:=yU g r _ d.2.1 p;have m:¬(y<yv i\/r.hi<=fr\/ub<=l.lo):=hp;simp only[downG,held];rw[e];simp only[aN m,Option.toList,mI,l5,EE];by_cases c:fr<=i/\i<ub
    .have:zD yv y fr ub i=true:=by unfold zD;simp only[dH];omega
     simp[this,c]
    .have:zD yv y fr ub i=false:=by unfold zD;simp only[gY];omega
     simp only[c,false_and,jw,this,fP,u,v];cases k:(downG false h yv y fr ub l s).2.2 with
     |true=>
      have f:=n.1 k;simp only[gG,Bool.true_and,f,List.take_nil,fP];exact⟨rfl,w⟩
     |false=>
      have f:(held h l s).filter (zD yv y fr ub)≠[]:=fun q=>by rw[n.2 q]at k;cases k
      simp[f];exact(Mm f).symm
theorem vQ (more:Bool):∀(t:FT) (s:Nat),(downG more h yv y fr ub t s).1.length<=(downG more h yv y fr ub t s).2.1
 |.leaf a,s=>by
  simp only[downG];split
  .simp
  .split
   .simp
   .split<;>simp
 |.node l r,s=>by
  have b:=vQ more l s;have c:=vQ more r (s+l.size);simp only[downG];split
  .simp
  .split
   .simp
   .split
    .simp
    .simp only[bQ];split<;>split<;>simp<;>omega
theorem qI (more:Bool):∀(t:FT) (s:Nat),(downG more h yv y fr ub t s).2.1<=t.size
 |.leaf a,s=>by
  simp only[downG];split
  .simp[FT.size]
  .split
   .simp[FT.size]
   .split<;>simp[FT.size]
 |.node l r,s=>by
  have b:=qI more l s;have c:=qI more r (s+l.size);have d:(FT.node l r).size=l.size+r.size+1:=rfl;simp only[downG];split
  .simp;omega
  .split
   .simp;omega
   .split
    .simp;omega
    .simp only;split<;>omega
theorem tV {more:Bool} {m:Nat} (c:m=if more then 2 else 0):∀(t:FT) (s:Nat),t.wf->gT lt h t s->fr<=t.lo->t.hi<=ub->(downG more h yv y fr ub t s).2.1<=m*(downG more h yv y fr ub t s).1.length+1
 |.leaf a,s,b,d,f,g=>by
  simp only[downG];split
  .simp
  .split
   .simp
   .split<;>simp
 |.node l r,s,b,d,f,g=>by
  have k:(FT.node l r).lo=l.lo/\(FT.node l r).hi=r.hi:=⟨rfl,rfl⟩;have q:=FT.eZ l b.1;have u:=FT.eZ r b.2.1;have v:=b.2.2;cases e:h ((FT.node l r).root s)with
  |none=>rw[ny e];simp
  |some i=>
   have n:=(d.1 i e).1;have j:fr<=i/\i<ub:=aa;simp only[downG];rw[e];simp only;split
   .simp
   .cases more with
    |false=>simp[j]
    |true=>
     have o:=tV c l s b.1 d.2.2.1 aa aa;have p:=tV c r (s+l.size) b.2.1 d.2.2.2 aa aa;simp only[gG]at c;subst c;rw[aN aA];simp only[bQ,ed,fF];split
     .first|omega|(simp only[bQ,ed,fF];omega)
     .first|omega|(simp only[bQ,ed,fF];omega)
theorem tX {more:Bool} {t:FT} {s:Nat} (hp:t.hi<=fr\/ub<=t.lo):downG more h yv y fr ub t s=([],1,true):=by
 cases e:h (t.root s)with
 |none=>exact ny e
 |some i=>exact mG e (.inr hp)
theorem tY {more:Bool} {m:Nat} (e:m=if more then 2 else 0):∀(t:FT) (s:Nat),t.wf->gT lt h t s->fr<=t.lo\/t.hi<=ub->(downG more h yv y fr ub t s).2.1<=m*(downG more h yv y fr ub t s).1.length+2*t.ht+1
 |.leaf a,s,b,c,hh=>by
  simp only[downG];split
  .simp
  .split
   .simp
   .split<;>simp
 |.node l r,s,b,c,hh=>by
  have B:(FT.node l r).lo=l.lo/\(FT.node l r).hi=r.hi:=⟨rfl,rfl⟩;have C:=FT.eZ l b.1;have D:=FT.eZ r b.2.1;have E:=b.2.2;have f:=tY e l s b.1 c.2.2.1;have g:=tY e r (s+l.size) b.2.1 c.2.2.2;have al:=tV (y:=y) (yv:=yv) (fr:=fr) (ub:=ub) e l s b.1 c.2.2.1;have j:=tV (y:=y) (yv:=yv) (fr:=fr) (ub:=ub) e r (s+l.size) b.2.1 c.2.2.2;have key:(downG more h yv y fr ub l s).2.1+(downG more h yv y fr ub r (s+l.size)).2.1<=m*(downG more h yv y fr ub l s).1.length+m*(downG more h yv y fr ub r (s+l.size)).1.length+2*(max l.ht r.ht)+2/\(downG more h yv y fr ub l s).2.1<=m*(downG more h yv y fr ub l s).1.length+2*(max l.ht r.ht)+1:=by
   rcases hh with hh|hh
   .have f:=f (.inl aa);by_cases q:l.hi<=ub
    .have al:=al aa q;have g:=g (.inl aa);omega
    .rw[tX (t:=r) (.inr aa)];simp only[fF];omega
   .have g:=g (.inr aa);by_cases p:fr<=r.lo
    .have j:=j p aa;have f:=f (.inr aa);omega
    .rw[tX (t:=l) (.inl aa)];simp only[fF];omega
  simp only[downG,FT.ht];generalize downG more h yv y fr ub l s=n at*;generalize downG more h yv y fr ub r (s+l.size)=o at*;have⟨d,x,k⟩:=n;have⟨i,z,w⟩:=o;simp only at key |-;split
  .simp
  .split
   .simp
   .split
    .simp
    .have u:∀A:List Nat,m*(A++d++i).length=m*A.length+m*d.length+m*i.length:=fun A=>by rw[bQ,bQ,jd,jd]
     have v:∀A:List Nat,m*(A++d).length=m*A.length+m*d.length:=fun A=>by rw[bQ,jd]
     cases k with
     |true=>simp only[gG];rw[u];omega
     |false=>simp only[qV,jw,iO];rw[v];omega
theorem vR {more:Bool} {m:Nat} (e:m=if more then 2 else 0):∀(t:FT) (s:Nat),t.wf->gT lt h t s->(downG more h yv y fr ub t s).2.1<=m*(downG more h yv y fr ub t s).1.length+4*t.ht+1
 |.leaf a,s,b,c=>by
  simp only[downG];split
  .simp
  .split
   .simp
   .split<;>simp
 |.node l r,s,b,c=>by
  have z:(FT.node l r).lo=l.lo/\(FT.node l r).hi=r.hi:=⟨rfl,rfl⟩;have D:=FT.eZ l b.1;have E:=FT.eZ r b.2.1;have F:=b.2.2;have B:=vR e l s b.1 c.2.2.1;have C:=vR e r (s+l.size) b.2.1 c.2.2.2;have g:=tY (y:=y) (yv:=yv) (fr:=fr) (ub:=ub) e l s b.1 c.2.2.1;have i:=tY (y:=y) (yv:=yv) (fr:=fr) (ub:=ub) e r (s+l.size) b.2.1 c.2.2.2;have key:(downG more h yv y fr ub l s).2.1+(downG more h yv y fr ub r (s+l.size)).2.1<=m*(downG more h yv y fr ub l s).1.length+m*(downG more h yv y fr ub r (s+l.size)).1.length+4*(max l.ht r.ht)+2/\(downG more h yv y fr ub l s).2.1<=m*(downG more h yv y fr ub l s).1.length+4*(max l.ht r.ht)+1:=by
   refine⟨?_,aa⟩;by_cases p:ub<=r.lo
   .rw[tX (t:=r) (.inr p)];simp only[fF];omega
   .by_cases o:l.hi<=fr
    .rw[tX (t:=l) (.inl o)];simp only[fF];omega
    .have g:=g (.inr aa);have i:=i (.inl aa);omega
  simp only[downG,FT.ht];generalize downG more h yv y fr ub l s=k at*;generalize downG more h yv y fr ub r (s+l.size)=n at*;have⟨d,w,j⟩:=k;have⟨f,x,v⟩:=n;simp only at key |-;split
  .simp
  .split
   .simp
   .split
    .simp
    .have q:∀A:List Nat,m*(A++d++f).length=m*A.length+m*d.length+m*f.length:=fun A=>by rw[bQ,bQ,jd,jd]
     have u:∀A:List Nat,m*(A++d).length=m*A.length+m*d.length:=fun A=>by rw[bQ,jd]
     cases j with
     |true=>simp only[gG];rw[q];omega
     |false=>simp only[qV,jw,iO];rw[u];omega
end
def pullH (lb:Nat->Nat->Bool):FT->Nat->iI->iI
 |.leaf _,s,h=>gB h s none
 |.node l r,s,h=>match h (l.root s),h (r.root (s+l.size))with
  |none,none=>gB h ((FT.node l r).root s) none
  |some i,none=>pullH lb l s (gB h ((FT.node l r).root s) (some i))
  |none,some j=>pullH lb r (s+l.size) (gB h ((FT.node l r).root s) (some j))
  |some i,some j=>if lb i j then pullH lb l s (gB h ((FT.node l r).root s) (some i))else pullH lb r (s+l.size) (gB h ((FT.node l r).root s) (some j))
structure Ord (lt:Nat->Nat->Prop) (lb:Nat->Nat->Bool) (n:Nat):Prop where
 tr:∀i j k,lt i j->lt j k->lt i k
 xm:∀i j,i<n->j<n->i≠j->lt i j\/lt j i
 dec:∀i j,lb i j=true↔lt i j
section
variable {lt:Nat->Nat->Prop} {lb:Nat->Nat->Bool} {n:Nat}
theorem jG:∀(t:FT) (s:Nat) (h:iI) (k:Nat),(k<s\/s+t.size<=k)->pullH lb t s h k=h k
 |.leaf a,s,h,k,b=>by
  simp only[FT.size]at b;exact iw aa
 |.node l r,s,h,k,b=>by
  have d:(FT.node l r).size=l.size+r.size+1:=rfl;have c:(FT.node l r).root s=s+(l.size+r.size+1)-1:=rfl;have hu:∀v,gB h ((FT.node l r).root s) v k=h k:=fun v=>iw aa;simp only[pullH];cases h (l.root s)<;>cases h (r.root (s+l.size))<;>simp only
  .exact hu _
  .rw[jG r _ _ k aa,hu]
  .rw[jG l s _ k aa,hu]
  .split
   .rw[jG l s _ k aa,hu]
   .rw[jG r _ _ k aa,hu]
theorem Ag {l r:FT} {s i:Nat} {h b:iI} (m:(FT.node l r).wf)
  (c:b ((FT.node l r).root s)=some i) (g:gT lt b l s) (k:gT lt b r (s+l.size)) (f:l.lo<=i/\i<r.hi)
  (d:∀j∈held b l s,lt i j) (e:∀j∈held b r (s+l.size),lt i j):gT lt b (.node l r) s:=
 ⟨fun j a=>by
  rw[c]at a;injection a with a;subst a;exact⟨f,d,e⟩,(fun a=>by rw[c]at a;cases a),g,k⟩
theorem qJ (O:Ord lt lb n):∀(t:FT) (s:Nat) (h:iI) (x:Nat),t.wf->t.hi<=n->gT lt h t s->h (t.root s)=some x->(held h t s).Nodup->
  gT lt (pullH lb t s h) t s/\(x::held (pullH lb t s h) t s).Perm (held h t s)
 |.leaf a,s,h,x,c,ac,ag,e,V=>by
  have ah:h s=some x:=e;refine⟨fun i hi=>?_,?_⟩
  .simp only[pullH,fZ]at hi;cases hi
  .show(x::((gB h s none) s).toList).Perm (h s).toList;rw[fZ,ah];exact pU _
 |.node l r,s,h,x,c,ac,ag,e,V=>by
  have au:(FT.node l r).size=l.size+r.size+1:=rfl;have ar:(FT.node l r).root s=s+(l.size+r.size+1)-1:=rfl;have av:l.root s=s+l.size-1:=rfl;have aC:r.root (s+l.size)=s+l.size+r.size-1:=rfl;have pl:=l.size_pos;have ax:=r.size_pos;have ay:=FT.eZ l c.1;have az:=FT.eZ r c.2.1;have aB:=c.2.2;have aq:r.hi<=n:=ac;have⟨Z,ab,q,u⟩:=ag;have ak:held h (.node l r) s=x::(held h l s++held h r (s+l.size)):=by simp only[held];rw[e];rfl
  rw[ak]at V |-;have ad:=(mM.1 V).2;rw[pI]at ad;have⟨ae,af,aw⟩:=ad;have hu:∀v k,k≠(FT.node l r).root s->gB h ((FT.node l r).root s) v k=h k:=fun v k z=>iw z;have U:∀v,gB h ((FT.node l r).root s) v ((FT.node l r).root s)=v:=fun v=>fZ _ _ _;have S:∀v,∀k,s<=k->k<s+l.size->gB h ((FT.node l r).root s) v k=h k:=fun v k Z ab=>hu v k aa;have T:∀v,∀k,s+l.size<=k->k<s+l.size+r.size->gB h ((FT.node l r).root s) v k=h k:=fun v k Z ab=>hu v k aa;have X:∀i,h (l.root s)=some i->(∀j∈held h r (s+l.size),lt i j)->
    gT lt (pullH lb l s (gB h ((FT.node l r).root s) (some i))) (.node l r) s/\(x::held (pullH lb l s (gB h ((FT.node l r).root s) (some i))) (.node l r) s).Perm (x::(held h l s++held h r (s+l.size))):=fun i m R=>by
   have A:=U (some i);have o:=S (some i);have p:=T (some i);have I:gB h ((FT.node l r).root s) (some i) (l.root s)=some i:=by rw[hu _ _ aa];exact m
   generalize gB h ((FT.node l r).root s) (some i)=w at*;have P:=bK l s o;have Q:=bK r _ p;have⟨G,d⟩:=qJ O l s w i c.1 aa (q.congr o) I (by rw[P];exact ae);have D:=jG (lb:=lb) l s w;generalize pullH lb l s w=y at*;rw[P]at d;have K:∀k,s+l.size<=k->k<s+l.size+r.size->y k=h k:=fun k E F=>by rw[D k (.inr E)];exact p k E F
   have B:y ((FT.node l r).root s)=some i:=by rw[D _ aa];exact A
   have W:(i::held y l s).Nodup:=d.nodup_iff.2 ae;have N:i∈held h l s:=d.mem_iff.1 aA;have al:=q.span c.1 i N;refine⟨Ag (h:=h) c B G (u.congr K) aa (fun j b=>?_) (fun j b=>?_),?_⟩
   .rcases q.first m j (d.mem_iff.1 (kW _ b))with h9|h9
    .subst h9;exact absurd b (mM.1 W).1
    .exact h9
   .rw[bK r _ K]at b;exact R j b
   .refine List.Perm.cons x ?_;simp only[held];rw[B,bK r _ K];exact d.append_right _
  have Y:∀i,h (r.root (s+l.size))=some i->(∀j∈held h l s,lt i j)->
    gT lt (pullH lb r (s+l.size) (gB h ((FT.node l r).root s) (some i))) (.node l r) s/\(x::held (pullH lb r (s+l.size) (gB h ((FT.node l r).root s) (some i))) (.node l r) s).Perm (x::(held h l s++held h r (s+l.size))):=fun i m R=>by
   have A:=U (some i);have o:=S (some i);have p:=T (some i);have I:gB h ((FT.node l r).root s) (some i) (r.root (s+l.size))=some i:=by rw[hu _ _ aa];exact m
   generalize gB h ((FT.node l r).root s) (some i)=w at*;have P:=bK l s o;have Q:=bK r _ p;have⟨G,d⟩:=qJ O r (s+l.size) w i c.2.1 aa (u.congr p) I (by rw[Q];exact af);have D:=jG (lb:=lb) r (s+l.size) w;generalize pullH lb r (s+l.size) w=y at*;rw[Q]at d;have J:∀k,s<=k->k<s+l.size->y k=h k:=fun k E F=>by rw[D k (.inl F)];exact o k E F
   have B:y ((FT.node l r).root s)=some i:=by rw[D _ aa];exact A
   have W:(i::held y r (s+l.size)).Nodup:=d.nodup_iff.2 af;have N:i∈held h r (s+l.size):=d.mem_iff.1 aA;have al:=u.span c.2.1 i N;refine⟨Ag (h:=h) c B (q.congr J) G aa (fun j b=>?_) (fun j b=>?_),?_⟩
   .rw[bK l _ J]at b;exact R j b
   .rcases u.first m j (d.mem_iff.1 (kW _ b))with h9|h9
    .subst h9;exact absurd b (mM.1 W).1
    .exact h9
   .refine List.Perm.cons x ?_;simp only[held];rw[B,bK l _ J];show(i::(held h l s++held y r (s+l.size))).Perm _;exact(List.perm_middle.symm).trans (d.append_left _)
  have am:∀i,h (l.root s)=some i->i<n/\i<l.hi:=fun i m=>by
   have⟨L,H⟩:=o9 m;have:=q.span c.1 i (by rw[H];simp);omega
  have an:∀i,h (r.root (s+l.size))=some i->i<n/\r.lo<=i:=fun i m=>by
   have⟨L,H⟩:=o9 m;have:=u.span c.2.1 i (by rw[H];simp);omega
  simp only[pullH];split
  .rename_i f g;have ao:=q.empty f;have ap:=u.empty g;have A:=U none;have o:=S none;have p:=T none;generalize gB h ((FT.node l r).root s) none=w at*;refine⟨⟨fun j b=>?_,fun _=>?_,q.congr o,u.congr p⟩,?_⟩
   .rw[A]at b;cases b
   .rw[bK l s o,bK r _ p];exact⟨ao,ap⟩
   .refine List.Perm.cons x ?_;simp only[held];rw[A,bK l s o,bK r _ p];exact pU _
  .rename_i i f g;exact X i f (fun j b=>by rw[u.empty g]at b;exact absurd b iC)
  .rename_i j f g;exact Y j g (fun k z=>by rw[q.empty f]at z;exact absurd z iC)
  .rename_i i j f g;split
   .rename_i M;have C:=(O.dec i j).1 M;refine X i f fun k z=>?_;rcases u.first g k z with h9|h9
    .rw[h9];exact C
    .exact O.tr _ _ _ C h9
   .rename_i M;have C:lt j i:=by
     have ai:=am i f;have aj:=an j g;rcases O.xm i j ai.1 aj.1 aa with h9|h9
     .exact absurd ((O.dec i j).2 h9) M
     .exact h9
    refine Y j g fun k z=>?_;rcases q.first f k z with h9|h9
    .rw[h9];exact C
    .exact O.tr _ _ _ C h9
def dropH (lb:Nat->Nat->Bool):FT->Nat->Nat->iI->iI
 |.leaf a,s,x,h=>pullH lb (.leaf a) s h
 |.node l r,s,x,h=>if h ((FT.node l r).root s)=some x then pullH lb (.node l r) s h else if x<l.hi then dropH lb l s x h else dropH lb r (s+l.size) x h
theorem tZ:∀(t:FT) (s x:Nat) (h:iI) (k:Nat),(k<s\/s+t.size<=k)->dropH lb t s x h k=h k
 |.leaf a,s,x,h,k,b=>jG (.leaf a) s h k b
 |.node l r,s,x,h,k,b=>by
  have c:(FT.node l r).size=l.size+r.size+1:=rfl;simp only[dropH];split
  .exact jG _ s h k b
  .split
   .exact tZ l s x h k aa
   .exact tZ r _ x h k aa
theorem vS (O:Ord lt lb n):∀(t:FT) (s:Nat) (h:iI) (x:Nat),t.wf->t.hi<=n->gT lt h t s->x∈held h t s->(held h t s).Nodup->
  gT lt (dropH lb t s x h) t s/\(x::held (dropH lb t s x h) t s).Perm (held h t s)
 |.leaf a,s,h,x,b,q,u,z,p=>by
  have e:h s=some x:=by simpa[held]using z
  exact qJ O (.leaf a) s h x b q u e p
 |.node l r,s,h,x,b,q,u,z,p=>by
  have V:(FT.node l r).size=l.size+r.size+1:=rfl;have U:(FT.node l r).root s=s+(l.size+r.size+1)-1:=rfl;have pl:=l.size_pos;have X:=r.size_pos;have Y:=FT.eZ l b.1;have Z:=FT.eZ r b.2.1;have ab:=b.2.2;have T:r.hi<=n:=q;simp only[dropH];split
  .rename_i e;exact qJ O _ s h x b q u e p
  .rename_i e;have⟨I,J,A,B⟩:=u;have R8:=z;simp only[held,bP,AR,e,false_or]at R8;cases m:h ((FT.node l r).root s)with
   |none=>
    have⟨R,S⟩:=J m;rw[R,S]at R8;rcases R8 with R8|R8<;>exact absurd R8 iC
   |some i=>
    have K:held h (.node l r) s=i::(held h l s++held h r (s+l.size)):=by simp only[held];rw[m];rfl
    rw[K]at p |-;have H:=(mM.1 p).2;rw[pI]at H;have⟨P,Q,W⟩:=H;have⟨C,D,E⟩:=I i m;split
    .rename_i L;have M:x∈held h l s:=by
      rcases R8 with h9|h9
      .exact h9
      .have:=B.span b.2.1 x h9;omega
     have⟨v,f⟩:=vS O l s h x b.1 aa A M P;have o:=tZ (lb:=lb) l s x h;generalize dropH lb l s x h=d at*;have y:∀k,s+l.size<=k->k<s+l.size+r.size->d k=h k:=fun k F G=>o k (.inr F);have g:d ((FT.node l r).root s)=some i:=by rw[o _ aa];exact m
     refine⟨Ag (h:=h) b g v (B.congr y) C (fun j c=>D j (f.mem_iff.1 (kW _ c))) (fun j c=>by rw[bK r _ y]at c;exact E j c),?_⟩;simp only[held];rw[g,bK r _ y];show(x::i::(held d l s++held h r (s+l.size))).Perm _;exact(List.Perm.swap _ _ _).trans ((f.append_right _).cons i)
    .rename_i L;have N:x∈held h r (s+l.size):=by
      rcases R8 with h9|h9
      .have:=A.span b.1 x h9;omega
      .exact h9
     have⟨v,f⟩:=vS O r (s+l.size) h x b.2.1 aa B N Q;have o:=tZ (lb:=lb) r (s+l.size) x h;generalize dropH lb r (s+l.size) x h=d at*;have w:∀k,s<=k->k<s+l.size->d k=h k:=fun k F G=>o k (.inl G);have g:d ((FT.node l r).root s)=some i:=by rw[o _ aa];exact m
     refine⟨Ag (h:=h) b g (A.congr w) v C (fun j c=>by rw[bK l _ w]at c;exact D j c) (fun j c=>E j (f.mem_iff.1 (kW _ c))),?_⟩;simp only[held];rw[g,bK l _ w];show(x::i::(held h l s++held d r (s+l.size))).Perm _;refine(List.Perm.swap _ _ _).trans (List.Perm.cons i ?_);exact(List.perm_middle.symm).trans (f.append_left _)
theorem yV:∀(t:FT) (s:Nat) (h:iI) (x:Nat),t.wf->gT lt h t s->t.lo<=x->x<t.hi->
  ((∀k∈t.path s x,h k≠some x)->x∉held h t s)/\
  ∀m k:Nat,(t.path s x)[m]? =some k->h k=some x->(∀i<m,∀k',(t.path s x)[i]? =some k'->h k'≠some x)->∃c b,(c,b)∈t.subs s/\k=c.root b/\dropH lb t s x h=pullH lb c b h
 |.leaf a,s,h,x,n,v,q,u=>by
  refine⟨fun f e=>f s (by simp[FT.path]) (by simpa[held]using e),fun m k g f o=>?_⟩;have J:m=0/\k=s:=by
   cases m with
   |zero=>simp[FT.path]at g;exact⟨rfl,g.symm⟩
   |succ m=>simp[FT.path]at g
  exact⟨.leaf a,s,by simp[FT.subs],by rw[J.2];rfl,rfl⟩
 |.node l r,s,h,x,n,v,q,u=>by
  have Q:=n.2.2;have D:l.lo<=x:=q;have E:x<r.hi:=u;have⟨O,P,w,y⟩:=v;have M:=w.span n.1;have N:=y.span n.2.1;have step:∀(t2:FT) (d:Nat),(FT.node l r).path s x=(FT.node l r).root s::t2.path d x->(∀p∈t2.subs d,p∈(FT.node l r).subs s)->
    (x∈held h (.node l r) s->h ((FT.node l r).root s)≠some x->x∈held h t2 d)->(h ((FT.node l r).root s)≠some x->dropH lb (.node l r) s x h=dropH lb t2 d x h)->
    (((∀k∈t2.path d x,h k≠some x)->x∉held h t2 d)/\∀m k:Nat,(t2.path d x)[m]? =some k->h k=some x->(∀i<m,∀k',(t2.path d x)[i]? =some k'->h k'≠some x)->∃c b,(c,b)∈t2.subs d/\k=c.root b/\dropH lb t2 d x h=pullH lb c b h)->
    ((∀k∈(FT.node l r).path s x,h k≠some x)->x∉held h (.node l r) s)/\
     ∀m k:Nat,((FT.node l r).path s x)[m]? =some k->h k=some x->(∀i<m,∀k',((FT.node l r).path s x)[i]? =some k'->h k'≠some x)->∃c b,(c,b)∈(FT.node l r).subs s/\k=c.root b/\dropH lb (.node l r) s x h=pullH lb c b h:=by
   intro t2 d C L G F ih;rw[C];refine⟨fun f e=>?_,fun m k g f o=>?_⟩
   .exact ih.1 (fun k I=>f k (kW _ I)) (G e (f _ aA))
   .cases m with
    |zero=>
     simp only[fI,jl]at g;subst g;exact⟨.node l r,s,by simp[FT.subs],rfl,by simp only[dropH];rw[aO f]⟩
    |succ m=>
     have K:=o 0 aa ((FT.node l r).root s) aA;have⟨c,b,z,A,B⟩:=ih.2 m k (aQ g) f (fun i hi k' H=>o (i+1) aa k' (aQ H));exact⟨c,b,L _ z,A,by rw[F K];exact B⟩
  by_cases e:x<l.hi
  .refine step l s (by rw[FT.path,aO e]) (fun p hp=>by simp only[FT.subs,bP];exact .inl (.inl hp)) (fun hh j=>?_) (fun j=>by simp only[dropH];rw[aN j,aO e]) (yV l s h x n.1 w D e);simp only[held,bP,AR,j,false_or]at hh;rcases hh with hh|hh
   .exact hh
   .have:=N x hh;omega
  .refine step r (s+l.size) (by rw[FT.path,aN e]) (fun p hp=>by simp only[FT.subs,bP];exact .inl (.inr hp)) (fun hh j=>?_) (fun j=>by simp only[dropH];rw[aN j,aN e]) (yV r _ h x n.2.1 y aa E);simp only[held,bP,AR,j,false_or]at hh;rcases hh with hh|hh
   .have:=M x hh;omega
   .exact hh
end
def zS (R:List Pt) (i j:Nat):Prop:=sW (bS R i) (bS R j)
def De (R:List Pt) (i j:Nat):Bool:=decide (sW (bS R i) (bS R j))
theorem Jw {R:List Pt} (hu:(ids R).Nodup) {i k:Nat} (hi:i<R.length) (a:k<R.length) (b:i≠k):jJ R i≠jJ R k:=by
 unfold jJ;rw[dE hi,dE a];have hid:=dx.1 hu;rcases Nat.lt_trichotomy i k with h|h|h
 .exact gU.1 hid i k hi a h
 .exact absurd h b
 .exact fun e=>gU.1 hid k i a hi h e.symm
theorem Jy {R:List Pt} (hu:(ids R).Nodup):Ord (zS R) (De R) R.length:=
 ⟨fun i j k h a=>tq h a,fun i j hi c b=>by
  have:=Jw hu hi c b;unfold jJ at this;unfold zS sW;omega,fun i j=>by unfold De zS;simp⟩
def oo (R:List Pt) (h:iI):List Nat:=if R.length=0 then[]else held h (dP 0 R.length) 0
theorem nP {R:List Pt} {h:iI} (a:0<R.length):oo R h=held h (dP 0 R.length) 0:=by unfold oo;rw[aN aa]
structure lS (R:List Pt) (h:iI):Prop where
 Bj:R.Pairwise kG
 ids:(ids R).Nodup
 ok:0<R.length->gT (zS R) h (dP 0 R.length) 0
 je:(oo R h).Nodup
section
variable {R:List Pt} {h:iI} {l:List Pt}
theorem lS.lt (H:lS R h) {i:Nat} (hi:i∈oo R h):i<R.length:=by
 by_cases a:R.length=0
 .unfold oo at hi;rw[aO a]at hi;exact absurd hi iC
 .obtain⟨w1,w2,w3⟩:=bJ 0 R.length aa;rw[nP aa]at hi;have:=(H.ok aa).span w1 i hi;omega
theorem lS.Te (H:lS R h):(bT R).Pairwise (·<=·):=dx.2 (H.Bj.imp fun h=>by unfold kG at h;omega)
def Ca (R:List Pt):iI:=fillH (dP 0 R.length) 0 (dS R) fun _=>none
theorem KL (c:R.Pairwise kG) (hu:(ids R).Nodup):lS R (Ca R)/\(oo R (Ca R)).Perm (dS R):=by
 have b:=qD c hu;have key:0<R.length->gT (zS R) (Ca R) (dP 0 R.length) 0/\(held (Ca R) (dP 0 R.length) 0).Perm (dS R):=fun a=>by
  have⟨w1,w2,w3⟩:=bJ 0 R.length a;exact vN (lt:=zS R) _ 0 (dS R) _ w1 b.Uk b.nodup (fun i hi=>by have:=b.lt hi;omega) (fun _ _ _=>rfl)
 have hp:(oo R (Ca R)).Perm (dS R):=by
  by_cases a:R.length=0
  .have:dS R=[]:=gV (by rw[jW];exact a);unfold oo;rw[aO a,this]
  .rw[nP aa];exact(key aa).2
 exact⟨⟨c,hu,fun a=>(key a).1,hp.nodup_iff.2 b.nodup⟩,hp⟩
theorem Mo (a:R.Pairwise kG) (hu:(ids R).Nodup):((oo R (Ca R)).map (bS R)).Perm R:=by
 have e:(dS R).map (bS R)=kz R:=by
  unfold dS;rw[vz]
  conv=>rhs;rw[<-List.map_id (kz R)]
  exact Et fun p hp=>BJ ((jV R p).1 hp)
 exact(((KL a hu).2.map (bS R)).trans (by rw[e])).trans (ja R)
def Df (R:List Pt) (x:Nat) (h:iI):iI:=dropH (De R) (dP 0 R.length) 0 x h
theorem lS.drop (H:lS R h) {x:Nat} (c:x∈oo R h):lS R (Df R x h)/\(x::oo R (Df R x h)).Perm (oo R h):=by
 have g:=H.lt c;have a:0<R.length:=aa;have⟨w1,w2,w3⟩:=bJ 0 R.length a;have d:=c;have b:=H.je;rw[nP a]at d b;have⟨e,f⟩:=vS (Jy H.ids) (dP 0 R.length) 0 h x w1 aa (H.ok a) d b;have hp:(x::oo R (Df R x h)).Perm (oo R h):=by rw[nP a,nP a];exact f
 exact⟨⟨H.Bj,H.ids,fun _=>e,(mM.1 (hp.nodup_iff.2 H.je)).2⟩,hp⟩
abbrev yX (R:List Pt) (h:iI) (l:List Pt):Prop:=((oo R h).map (bS R)).Perm l
theorem yX.ids (H:lS R h) (c:yX R h l):(Go.Proofs.YtkjdbndekceffaaGreat.ids l).Nodup:=by
 have a:(((oo R h).map (bS R)).map fun p=>p.2.2).Nodup:=by
  rw[vz];refine dx.2 (Al (fun{i k} hi b d=>?_) H.je);exact Jw H.ids (H.lt hi) (H.lt b) d
 exact(c.map _).nodup_iff.1 a
theorem yX.mem (a:yX R h l) (p:Pt):p∈l↔∃i∈oo R h,bS R i=p:=by rw[<-a.mem_iff,dm]
theorem yX.len (a:yX R h l):(oo R h).length=l.length:=by have:=a.length_eq;simpa using this
theorem lS.few (H:lS R h):(oo R h).length<=R.length:=yz H.je fun k a=>H.lt a
theorem yX.drop (H:lS R h) (a:yX R h l) {x:Nat} (i:x∈oo R h):yX R (Df R x h) (l.filter fun q=>decide (q≠bS R x)):=by
 have⟨j,d⟩:=H.drop i;have b:(bS R x::(oo R (Df R x h)).map (bS R)).Perm l:=(d.map (bS R)).trans a;have f:l.Nodup:=lM (R:=fun p q:Pt=>p.2.2≠q.2.2) (fun p h=>h rfl) (dx.1 (yX.ids H a));have e:=b.nodup_iff.2 f;have c:=b.filter fun q=>decide (q≠bS R x);rw[Am aA,lW.2 (fun q g=>by
  simp only[dH];rintro rfl;exact(mM.1 e).1 g)]at c
 exact c
def qK (x1 x2 y:Int) (p:Pt):Bool:=decide (x1<=p.1/\p.1<=x2/\p.2.1<=y)
def xn (l:List Pt) (x1 x2 y:Int):List Int:=eu (ids (l.filter (qK x1 x2 y)))
theorem GU (x1 x2 y:Int):(xn l x1 x2 y).length=(l.filter (qK x1 x2 y)).length:=by unfold xn;rw[jm];simp[Go.Proofs.YtkjdbndekceffaaGreat.ids]
def ji (R:List Pt) (x1:Int):Nat:=(aV (bT R) x1).1
def l7 (R:List Pt) (x2:Int):Nat:=(aT (bT R) x2).1
def kP (more:Bool) (R:List Pt) (h:iI) (x1 x2 y:Int):List Nat×Nat:=
 if R.length=0\/x2<x1 then([],0)else
 if ji R x1<l7 R x2 then((downG more h (lG R) y (ji R x1) (l7 R x2) (dP 0 R.length) 0).1,(aV (bT R) x1).2+(aT (bT R) x2).2+(downG more h (lG R) y (ji R x1) (l7 R x2) (dP 0 R.length) 0).2.1)
 else([],(aV (bT R) x1).2+(aT (bT R) x2).2)
theorem Ra (R:List Pt) (x2:Int):l7 R x2<=R.length:=by
 have:=(gy (fun i=>decide (x2<(bT R).getD i 0)) (bT R).length).2;have e:(bT R).length=R.length:=by simp[bT]
 unfold l7 aT;omega
theorem KM (H:lS R h) (x1 x2 y:Int) {i:Nat} (hi:i<R.length):zD (lG R) y (ji R x1) (l7 R x2) i=qK x1 x2 y (bS R i):=by
 have c:i<(bT R).length:=by unfold bT;simpa using hi
 have d:(bT R)[i]=(bS R i).1:=by rw[dE hi];simp[bT]
 have a:=sF H.Te x1 c;have b:=sG H.Te x2 c;rw[d]at a b;unfold zD qK ji l7 lG;rw[nH,dH,dH,a,b]
theorem OW (i j:Nat):zS R i j->lG R i<=lG R j:=fun h=>by unfold zS sW at h;unfold lG;omega
def xq (R:List Pt) (h:iI) (x1 x2 y:Int):List Nat:=(oo R h).filter fun i=>qK x1 x2 y (bS R i)
theorem FB (H:lS R h) (more:Bool) (x1 x2 y:Int):(kP more R h x1 x2 y).1=if more then xq R h x1 x2 y else(xq R h x1 x2 y).take 1:=by
 have b:(∀i∈oo R h,qK x1 x2 y (bS R i)=false)->([]:List Nat)=if more then xq R h x1 x2 y else(xq R h x1 x2 y).take 1:=fun d=>by
  have:xq R h x1 x2 y=[]:=uG.2 fun i hi=>by rw[d i hi];decide
  rw[this];cases more<;>rfl
 unfold kP;split
 .rename_i c;refine b fun i hi=>?_;have g:=H.lt hi;unfold qK;simp only[gY];omega
 .rename_i c;split
  .have a:0<R.length:=aa;have⟨w1,w2,w3⟩:=bJ 0 R.length a;have e:xq R h x1 x2 y=(held h (dP 0 R.length) 0).filter (zD (lG R) y (ji R x1) (l7 R x2)):=by
    unfold xq;rw[nP a];refine mJ fun i hi=>?_;rw[KM H x1 x2 y (H.lt (by rw[nP a];exact hi))]
   cases more with
   |true=>rw[e];exact(vP OW _ 0 w1 (H.ok a)).1
   |false=>rw[e];exact(yU OW _ 0 w1 (H.ok a)).1
  .rename_i f;refine b fun i hi=>?_;rw[<-KM H x1 x2 y (H.lt hi)];unfold zD;simp only[gY];omega
theorem OX (a:yX R h l) (x1 x2 y:Int):((xq R h x1 x2 y).map (bS R)).Perm (l.filter (qK x1 x2 y)):=by
 have:=a.filter (qK x1 x2 y);rw[xZ]at this;exact this
theorem Cc (c:yX R h l) (x1 x2 y:Int):eu ((xq R h x1 x2 y).map (jJ R))=xn l x1 x2 y/\(xq R h x1 x2 y).length=(xn l x1 x2 y).length:=by
 have a:=OX c x1 x2 y;have b:((xq R h x1 x2 y).map (jJ R)).Perm (Go.Proofs.YtkjdbndekceffaaGreat.ids (l.filter (qK x1 x2 y))):=by
  have:=a.map fun p=>p.2.2;rw[vz]at this;exact this
 refine⟨?_,?_⟩
 .unfold xn;exact E8 (sH _) ((ru _ _).trans b.symm)
 .rw[GU];have:=a.length_eq;simpa using this
theorem yY (H:lS R h) (g:R.length<=100000) (more:Bool) (x1 x2 y:Int):
  (kP more R h x1 x2 y).1.length<=(kP more R h x1 x2 y).2/\(kP more R h x1 x2 y).2<=(if more then 2 else 0)*(kP more R h x1 x2 y).1.length+6*Lib.bitLen R.length+1:=by
 unfold kP;split
 .simp
 .rename_i j;have a:0<R.length:=aa;have d:(bT R).length=R.length:=by simp[bT]
  have b:=kS (bT R) x1 aa;have c:=kT (bT R) x2 aa;rw[d]at b c;split
  .obtain⟨w1,w2,w3⟩:=bJ 0 R.length a;have i:=(bC R.length aa aa).2.2;have k:=vE 0 R.length (Lib.bitLen R.length) aa;have e:=vR (more:=more) (yv:=lG R) (y:=y) (fr:=ji R x1) (ub:=l7 R x2) rfl (dP 0 R.length) 0 w1 (H.ok a);have f:=vQ (h:=h) (yv:=lG R) (y:=y) (fr:=ji R x1) (ub:=l7 R x2) more (dP 0 R.length) 0;simp only;omega
  .simp only[fF];omega
theorem GV (H:lS R h) (d:R.length<=20000) (more:Bool) (x1 x2 y:Int):(kP more R h x1 x2 y).1.length<=R.length/\(kP more R h x1 x2 y).2<=100000:=by
 have a:=(yY H aa more x1 x2 y).2;have e:Lib.bitLen R.length<=15:=bB (fC d aa) ai;have b:(kP more R h x1 x2 y).1.length<=R.length:=by
  rw[FB H];have c:(xq R h x1 x2 y).length<=R.length:=bB (gD _ _) H.few;cases more with
  |true=>exact c
  |false=>simp only[qV,jw,eQ];omega
 refine⟨b,?_⟩;cases more<;>simp at a<;>omega
end
end
section
open Go.RowKit Go.Sort Go.Shelf Go.Lib Go.Maps
attribute [local irreducible] wpQuiet
def stk (a b:Nat):List (FT×Nat)->List Nat×Nat
 |[]=>([],0)
 |p::st=>((p.1.canon p.2 a b).1++(stk a b st).1,(p.1.canon p.2 a b).2+(stk a b st).2)
def rf:List (FT×Nat)->Nat
 |[]=>0
 |p::st=>p.1.size+rf st
def Ce (st:List (FT×Nat)):List Nat:=(st.map fun p=>p.1.root p.2).reverse
theorem yZ (p:FT×Nat) (a:List (FT×Nat)):Ce (p::a)=Ce a++[p.1.root p.2]:=by simp[Ce]
theorem xu (a:List (FT×Nat)):(Ce a).length=a.length:=by simp[Ce]
theorem KN:∀a:List (FT×Nat),a.length<=rf a
 |[]=>aB _
 |p::a=>by
  have b:=KN a;have c:=p.1.size_pos;simp only[rf,ed];omega
theorem FT.qL (a b:Nat):∀(t:FT) (s:Nat),(t.canon s a b).2<=t.size/\(t.canon s a b).1.length<=t.size:=by
 intro t
 induction t with
 |leaf x=>
  intro s;rw[FT.canon];split<;>simp[FT.size]
 |node l r c d=>
  intro s;have e:=c s;have f:=d (s+l.size);rw[FT.canon];split
  .simp[FT.size]
  .split
   .simp[FT.size]
   .show _+_+1<=_/\((_:List Nat)++_).length<=_;rw[bQ];simp only[FT.size];omega
def fE (i:Nat):Value:=.int .i64 (i:Nat)
def Rb (w:World) (n a b:Nat) (e:Ending) (w':World):Prop:=
 ∃v,e=.returned (.tuple #[v,ae (((dP 0 n).canon 0 a b).2:Nat),ae 0])/\w'.ownsRow w.heap.size 3 1 v ((dP 0 n).canon 0 a b).1.length (((dP 0 n).canon 0 a b).1.map fE)/\Below w.heap.size w w'
theorem Rc {w:World} {g off:Nat} {N:List Nd} {i:Nat} {d:Nd} (h:bW oN 7 w (some (ag g off)) N) (hi:N[i]? =some d):
  g<w.heap.size/\w.cell? (ag g (off+i*7))=some (.int .u8 d.kind)/\w.cell? (ag g (off+i*7+1))=some (ae d.l)/\w.cell? (ag g (off+i*7+2))=some (ae d.r)/\w.cell? (ag g (off+i*7+3))=some (ae d.fr)/\w.cell? (ag g (off+i*7+4))=some (ae d.Kj)/\w.cell? (ag g (off+i*7+5))=some (ae 0)/\w.cell? (ag g (off+i*7+6))=some (ae d.item):=by
 have⟨a,hd⟩:=fq.1 hi;rcases h with h|⟨b,o,e,f,j⟩
 .subst h;simp at a
 .cases e;have c:=j i a;rw[hd]at c;exact⟨f,c 0 aa,c 1 aa,c 2 aa,c 3 aa,c 4 aa,c 5 aa,c 6 aa⟩
theorem xw (l:List Nat) (k:Nat):(l++[k]).map fE=l.map fE++[.int .i64 (k:Nat)]:=by simp[fE]
theorem GX (base fb n a b:Nat) (b7:Value) (cl:n<=40000) (ce:a<b) (aP:b<=n) (w:World) (h:nN w base fb n b7):
  aK 175 #[aj fb,ae a,ae b] w (Rb w n a b):=by
 have bs:fb<w.heap.size:=(aZ.1 h.blk).1;have ao:=h.blk;have aN:w.cell? (ag fb 5)=some (.bool true):=aF ao;have aM:w.cell? (ag fb 4)=some (ae n):=aF ao;have a4:=qy fb w aN;have aV:=dh n;obtain⟨b6,nc,rfl,-,-,a1⟩:=bW.aD jr ai h.row;have bZ:∃g off,b6=some (ag g off):=by
  rcases a1 with h9|⟨g,off,e,_⟩
  .rw[h9]at aV;simp at aV;omega
  .exact⟨g,off,e⟩
 obtain⟨g,off,rfl⟩:=bZ;have a3:=sj fb n _ ⟨_,_,rfl⟩ w ao;have a5:=af (fun W (aP:Below w.heap.size w W)=>jA fb n aa aa W ((aP.cell (p:=(ag fb 5)) bs).trans aN) ((aP.cell (p:=(ag fb 4)) bs).trans aM));have bX:=bJ 0 n aa;have hS:=fu 0 n aa;have bB:=af (jU n aa);have bI:=af a1;have aH:Hid ((dP 0 n).root 0=2*n-2/\(dP 0 n).size=2*n-1):=⟨by unfold FT.root;omega,hS⟩;have aS:=FT.qL a b (dP 0 n) 0;rw[hS]at aS;have d1:decide ((a:Int)<0)=false:=aA;have d2:decide ((a:Int)>(b:Int))=false:=aG;have d3:decide ((b:Int)<(a:Int))=false:=aG;have d4:decide (b<a)=false:=aG;have d5:decide ((b:Int)>(n:Int))=false:=aG;have d6:decide ((n:Int)<(b:Int))=false:=aG;have d7:decide (n<b)=false:=aG;have d8:((a:Int)==(b:Int))=false:=aG;have d9:(a==b)=false:=aG;have d10:decide (a=b)=false:=aG;have cd:(aW n).length<=100000:=aa;have bF:=af aS;unfold Rb;generalize bo:(dP 0 n).canon 0 a b=C at*;have a6:=af bo;generalize bU:aW n=D at*;clear bU ao h a1 bX hS aV bo aS;go_enter func175,ntmps175
 go_wp2_with fail
 with_reducible refine a4.mono ?_
 rintro e w' ⟨rfl,bm⟩;subst w';clear a4
 go_wp2_with fail
 with_reducible refine a3.mono ?_
 rintro e w1 ⟨rfl,an⟩;clear a3 d1 d2 d3 d4 d5 d6 d7 d8 d9 d10 aN aM
 go_wp2_with fail
 refine(a5.o w1 an).mono ?_;rintro e w2 ⟨rfl,bm⟩;subst bm;clear a5
 go_wp2_with fail
 have bw:=Bz w2 w.heap.size [.int .i64 ((2*n-2:Nat):Int)] 3 an.size (by unfold maxLen;simp);simp only[ed,fF,kF]at bw
 go_loopg [10,11,12] (2*n) (fun b5 bz b8 bA wr=>∃(c:List (FT×Nat)) (f:List Nat) (y:Nat),b8=.int .i64 y/\rf c<=b5/\rf c<=80000/\Below w.heap.size w wr/\Hid (∀p∈c,FT.At D p.1 p.2)/\Hid (C=(f++(stk a b c).1,y+(stk a b c).2))/\
  Hid (wr.ownsRow w.heap.size 3 1 bz f.length (f.map fE))/\Hid (wr.ownsRow w.heap.size 3 1 bA c.length ((Ce c).map fE))/\Hid (∀g,bz.ownBlock=some g->bA.ownBlock≠some g))
 case atStart=>
  refine⟨[(dP 0 n,0)],[],0,rfl,?_,?_,an.trans ((aJ _ w2).alloc an.size _),?_,?_,dA _ _ _ _,?_,?_⟩
  .simp only[rf];have:=aH.o.2;omega
  .simp only[rf];have:=aH.o.2;omega
  .intro p hp;obtain rfl:=lY.1 hp;exact bB.o
  .show C=_;simp[stk,a6.o]
  .simp only[Ce,l6,pX,List.reverse_singleton,aH.o.1];exact bw
  .intro g h;cases h
 case round=>
  obtain⟨c,f,y,rfl,bu,ap,L,ax,X,G,P,a8⟩:=hrel;cases c with
  |nil=>
   have aO:=X.o;simp only[stk,iO,dI]at aO;have bE:=af aO;simp only[fF]at P;obtain⟨U,V,rfl⟩:=fH G.o;obtain⟨cq,cr,rfl⟩:=fH P.o;clear aO X a6;go_wp2;go_ret3;rw[bE.o];exact⟨_,rfl,G.o,L⟩
  |cons p c=>
   obtain⟨t,s⟩:=p;obtain⟨U,V,rfl⟩:=fH G.o;have am:FT.At D t s:=ax.o _ (.head _);obtain⟨M,bL,bc,bd,be,bf,bM,bN⟩:=Rc (bI.o.below L) am.get;have cm:=am.lt;rw[FT.EI]at be;rw[FT.vF]at bf;obtain⟨go,bg,bS,cj,ck,bp,cg⟩:=aU P.o aA;subst bS;have S:=P.o;rw[yZ,xw]at S;simp only[ed]at S bp;have bx:wr.cell? (ag go c.length)=some (ae (t.root s:Nat)):=by
    have h9:=S.cellAt c.length aa;rw[nD (by simp[xu])]at h9;simpa[xu]using h9
   have a0:=ma S (m:=c.length) aa;rw[iQ,Ee (by simp[xu]),jK (by simp[xu])]at a0;have R:C=(f++((t.canon s a b).1++(stk a b c).1),y+((t.canon s a b).2+(stk a b c).2)):=X.o;have aC:(t.hi<=a\/b<=t.lo)->Hid (C=(f++(stk a b c).1,(y+1)+(stk a b c).2)):=fun h=>by
    show C=_;rw[R,FT.iG h,fP,uY]
   have Z:¬(t.hi<=a\/b<=t.lo)->(a<=t.lo/\t.hi<=b)->Hid (C=((f++[t.root s])++(stk a b c).1,(y+1)+(stk a b c).2)):=fun h v=>by
    show C=_;rw[R,FT.rW h v,dY,uY]
   have ad:¬(t.hi<=a\/b<=t.lo)->¬(a<=t.lo/\t.hi<=b)->∃l r,t=.node l r/\Hid (C=(f++(stk a b ((l,s)::(r,s+l.size)::c)).1,(y+1)+(stk a b ((l,s)::(r,s+l.size)::c)).2)):=fun h v=>by
    cases t with
    |leaf x=>exact absurd (by simp only[FT.lo,FT.hi]at h |-;omega) v
    |node l r=>
     refine⟨l,r,rfl,?_⟩;show C=_;rw[R,FT.mV h v];simp only[stk,dY];refine Prod.ext rfl ?_;simp only;omega
   have cc:y+1<=100000/\f.length+1<=100000:=by
    have z:=bF.o;have aL:=(FT.qL a b t s);rw[R]at z;have aM:0<(t.canon s a b).2:=by
     cases t with
     |leaf x=>rw[FT.canon];split<;>simp
     |node l r=>rw[FT.canon];split;simp;split<;>simp
    simp only[bQ]at z;omega
   have b2:c.length+2<=100000:=by
    have z:=KN c;have v:t.size+rf c<=80000:=ap;have aL:=t.size_pos;omega
   have Y:Hid (∀p∈c,FT.At D p.1 p.2):=fun p hp=>ax.o p (.tail _ hp);have E:=af am;have aE:=af a0;have ab:=af (show t.size+rf c<=_ from bu);have cn:0<t.size:=t.size_pos;obtain⟨m,aX⟩:∃m,m=c.length:=⟨_,rfl⟩;have ac:=af aX;simp only[ed];rw[<-aX]at bx bp b2 |-;have ch:decide ((0:Int)<((m+1:Nat):Int))=true:=aA;generalize bt:t.root s=k at*;have ca:=af bt;generalize b3:t.hi=j at*;generalize b4:t.lo=tl at*;generalize(t.top s).kind=aw at*;generalize bq:(t.top s).l=ah at*;generalize br:(t.top s).r=al at*;generalize(t.top s).item=av at*;have O:Hid ((t.top s).l=ah/\(t.top s).r=al):=⟨bq,br⟩;clear bt b3 b4 bq br aX S a0 R ax X P am bu;have aT:rf c<=80000:=by have v:t.size+rf c<=80000:=ap;omega
   have bG:Hid (t.size+rf c<=80000):=ap;have a2:=L.size;have J:Hid (∀g,(Value.slice U f.length V).ownBlock=some g->g≠go):=fun g e d=>a8.o g e (by rw[d];rfl);have cf:f.length<=100000:=aa;clear ap a8;by_cases z:j<=a\/b<=tl
   .have I:=aC z;clear aC Z ad E O;have F:∀W,W=wr.alloc (.cells #[.int .u8 aw,ae ah,ae al,ae tl,ae j,ae 0,ae av] 163)->Below w.heap.size w W/\W.ownsRow w.heap.size 3 1 (.slice U f.length V) f.length (f.map fE)/\W.ownsRow w.heap.size 3 1 (az go m bg) c.length ((Ce c).map fE):=fun W e=>by
     subst e;exact⟨L.alloc a2 _,G.o.alloc _,by rw[ac.o];exact aE.o.alloc _⟩
    have a7:=af F;clear F;by_cases v:j<=a
    .have bh:decide ((j:Int)<=(a:Int))=true:=aG;have d:decide (j<=a)=true:=aG;clear z v;go_wp2
     go_roundg (rf c)
     case measure=>have:=ab.o;omega
     case rel=>
      obtain⟨f1,f2,f3⟩:=a7.o _ rfl;exact⟨c,f,y+1,by go_num,aB _,aT,f1,Y,I,f2,f3,fun g e d=>J.o g e (by injection d with d;exact d.symm)⟩
    .have bh:decide ((j:Int)<=(a:Int))=false:=aG;have d:decide (j<=a)=false:=aG;have aI:decide ((b:Int)<=(tl:Int))=true:=aG;have bO:decide (b<=tl)=true:=aG;clear z v;go_wp2
     go_roundg (rf c)
     case measure=>have:=ab.o;omega
     case rel=>
      obtain⟨f1,f2,f3⟩:=a7.o _ rfl;exact⟨c,f,y+1,by go_num,aB _,aT,f1,Y,I,f2,f3,fun g e d=>J.o g e (by injection d with d;exact d.symm)⟩
   .have bh:decide ((j:Int)<=(a:Int))=false:=aG;have d:decide (j<=a)=false:=aG;have aI:decide ((b:Int)<=(tl:Int))=false:=aG;have bO:decide (b<=tl)=false:=aG;clear aC;by_cases v:a<=tl/\j<=b
    .have I:=Z z v;have bi:decide ((a:Int)<=(tl:Int))=true:=aG;have bj:decide (a<=tl)=true:=aG;have bk:decide ((j:Int)<=(b:Int))=true:=aG;have bl:decide (j<=b)=true:=aG;clear Z ad E O z v;obtain⟨i,A⟩:∃i,i=wr.alloc (.cells #[.int .u8 aw,ae ah,ae al,ae tl,ae j,ae 0,ae av] 163):=⟨_,rfl⟩;have a9:Hid (i.ownsRow w.heap.size 3 1 (.slice U f.length V) f.length (f.map fE)):=by rw[A];exact G.o.alloc _
     have H:Below wr.heap.size wr i:=by rw[A];exact(aJ _ _).alloc (aB _) _
     have N:=af H;have b1:wr.heap.size<=i.heap.size:=H.size;clear H
     go_upto_region 19 with fail
     rw[<-A];clear A
     go_wp2_with (at_builtin;refine cu nI w.heap.size a9.o [.int .i64 k] rfl (by simp[Value.oneCell']) rfl _ _ rfl rfl _ rfl dJ aa aa ?_;intro b9 w3 aY M aQ)
     go_roundg (rf c)
     case measure=>have:=ab.o;omega
     case rel=>
      have Q:Below w.heap.size w i:=L.trans (N.o.mono a2);have K:ay (fun q=>(Value.slice U f.length V).ownBlock=some q) wr w3:=((ay.refl _ wr).below N.o).grown M (fun q T=>.inl T);refine⟨c,f++[k],y+1,by go_num,aB _,aT,dB Q a9.o M Q.size (aB _),Y,I,?_,?_,?_⟩
      .show World.ownsRow _ _ _ _ _ _ _;rw[xw,bQ];exact aY
      .show World.ownsRow _ _ _ _ _ _ _;have h9:=aR aE.o K (fun B e d=>J.o B d (by injection e with e;exact e.symm));rw[ac.o];exact h9
      .intro B e d;have aI:go=B:=by injection d
       rcases gJ aQ with h9|⟨q,h9,bn⟩
       .exact J.o B (h9▸e) aI.symm
       .rw[h9]at e;injection e with e;omega
    .obtain⟨l,r,bT,I⟩:=ad z v;subst bT;have bY:=E.o.left.lt;have b0:=E.o.right.lt;have bP:ah=((l.root s:Nat):Int):=by rw[<-O.o.1];simp only[FT.top];unfold FT.root;have:=l.size_pos;omega
     have bR:al=((r.root (s+l.size):Nat):Int):=by rw[<-O.o.2];simp only[FT.top];unfold FT.root;have:=r.size_pos;omega
     have bC:=af E.o.left;have bD:=af E.o.right;subst bP bR;have bb:Hid ((FT.node l r).size=l.size+r.size+1):=rfl;obtain⟨kl,aq⟩:∃kl,kl=l.root s:=⟨_,rfl⟩;obtain⟨kr,ar⟩:∃kr,kr=r.root (s+l.size):=⟨_,rfl⟩;rw[<-aq]at bc bY;rw[<-ar]at bd b0;have cb:Hid (kl=l.root s/\kr=r.root (s+l.size)):=⟨aq,ar⟩;have bK:Hid ((Ce ((l,s)::(r,s+l.size)::c)).map fE=(Ce c).map fE++[.int .i64 (kr:Nat),.int .i64 (kl:Nat)]):=by
      show _=_;rw[yZ,yZ,xw,xw,aq,ar,dY];rfl
     clear aq ar Z ad O E z;obtain⟨i,A⟩:∃i,i=wr.alloc (.cells #[.int .u8 aw,ae kl,ae kr,ae tl,ae j,ae 0,ae av] 163):=⟨_,rfl⟩;have H:Below wr.heap.size wr i:=by rw[A];exact(aJ _ _).alloc (aB _) _
     have au:i.heap[wr.heap.size]? =some (.cells #[.int .u8 aw,ae kl,ae kr,ae tl,ae j,ae 0,ae av] 163 (0,0)):=by rw[A];exact bV _ _
     have co:i.cell? (ag wr.heap.size 1)=some (ae kl):=aF au;have cp:i.cell? (ag wr.heap.size 2)=some (ae kr):=aF au;have ba:Hid (i.ownsRow w.heap.size 3 1 (az go m bg) m ((Ce c).map fE)):=by
      show World.ownsRow _ _ _ _ _ _ _;rw[ac.o];exact ak aE.o H
     have N:=af H;have b1:wr.heap.size<i.heap.size:=(aZ.1 au).1;have bv:bW (fun x:Int=>[ae x]) 1 (i.alloc (.cells #[ae kr,ae kl] 3)) (some (ag i.heap.size 0)) [(kr:Int),(kl:Int)]:=bW.lit (enc:=fun x:Int=>[ae x]) (sz:=1) (fun _=>rfl) i 3 [(kr:Int),(kl:Int)] _ rfl;have bH:=af bv;clear bv H au;by_cases aL:a<=tl
     all_goals
      first
       |(have bi:decide ((a:Int)<=(tl:Int))=true:=by simp;omega)
       |(have bi:decide ((a:Int)<=(tl:Int))=false:=by simp;omega)
      first
       |(have bj:decide (a<=tl)=true:=by simp;omega)
       |(have bj:decide (a<=tl)=false:=by simp;omega)
      first
       |(have bk:decide ((j:Int)<=(b:Int))=false:=by simp;omega)
       |(have bk:True:=trivial)
      first
       |(have bl:decide (j<=b)=false:=by simp;omega)
       |(have bl:True:=trivial)
      clear v aL
      go_upto_region 16 with fail
      rw[<-A];clear A bL bc bd be bf bM bN bx
      go_wp2_with (at_builtin;refine nJ nI (enc:=fun x:Int=>[ae x]) (fun _=>rfl) (fun x u hu=>by simp at hu;subst hu;rfl) w.heap.size (ba.o.alloc _) bH.o rfl _ _ rfl rfl 2 rfl (by unfold maxLen;simp;omega) aG aG ?_;intro b9 w3 aY M aQ)
      go_roundg (rf ((l,s)::(r,s+l.size)::c))
      case measure=>have h9:=ab.o;have bn:=bb.o;simp only[rf];omega
      case rel=>
       have Q:Below w.heap.size w (i.alloc (.cells #[ae kr,ae kl] 3)):=(L.trans (N.o.mono a2)).alloc aa _;have K:ay (fun q=>q=go) wr w3:=(((ay.refl _ wr).below N.o).alloc _).grown M (fun q T=>.inl (by injection T with T;exact T.symm));refine⟨(l,s)::(r,s+l.size)::c,f,y+1,by go_num,aB _,?_,dB Q (ba.o.alloc _) M Q.size (aB _),?_,I,?_,?_,?_⟩
       .have h9:=bG.o;have bn:=bb.o;simp only[rf];omega
       .intro p hp;rcases ic.1 hp with rfl|hp
        .exact bC.o
        .rcases ic.1 hp with rfl|hp
         .exact bD.o
         .exact Y.o p hp
       .exact aR G.o K (fun B e d=>J.o B e d)
       .show World.ownsRow _ _ _ _ _ _ _;rw[bK.o,ed,ed,<-ac.o];exact aY
       .intro B e d;have ci:=(G.o.lt B e).2;rcases aQ with h9|h9
        .rw[h9]at d;exact J.o B e (by injection d with d;exact d.symm)
        .rw[h9]at d;injection d with d;simp at d;omega
end
section
open Go Go.RowKit
def VK (YS:List Nat) (d:Nd):List Nat:=YS.filter fun i=>decide (d.fr<=(i:Int)/\(i:Int)<d.Kj)
def lk (N:List Nd) (YS:List Nat) (k:Nat):List Nat:=match N[k]? with|some d=>VK YS d|none=>[]
section
variable {N:List Nd} {YS:List Nat} {yv:Nat->Int} {y1 y2:Int}
theorem Re (t:FT) (s:Nat):VK YS (t.top s)=nl YS t:=by
 unfold VK nl;refine mJ fun i _=>?_;rw[FT.EI,FT.vF,mP];omega
theorem Cf {t:FT} {s:Nat} (h:FT.At N t s):lk N YS (t.root s)=nl YS t:=by
 unfold lk;rw[h.get];exact Re t s
theorem Jz (k:Nat):(lk N YS k).Sublist YS:=by
 unfold lk;split
 .exact Eo
 .exact List.nil_sublist _
theorem y5 {a b:Nat} (i:Nat):∀(t:FT) (s:Nat),FT.At N t s->t.wf->(i∈(t.canon s a b).1.flatMap (fun k=>EJ yv y1 y2 (lk N YS k))↔i∈nl YS t/\a<=i/\i<b/\y1<=yv i/\yv i<=y2):=by
 have j:∀t:FT,i∈nl YS t->t.lo<=i/\i<t.hi:=fun t hi=>by simpa using(bG.1 hi).2
 have one:∀(t:FT) (s:Nat),FT.At N t s->a<=t.lo->t.hi<=b->(i∈[t.root s].flatMap (fun k=>EJ yv y1 y2 (lk N YS k))↔i∈nl YS t/\a<=i/\i<b/\y1<=yv i/\yv i<=y2):=fun t s h d e=>by
  rw[lZ,List.flatMap_nil,iO,Cf h];unfold EJ;rw[bG,dH];constructor
  .rintro⟨c,f⟩;have:=j t c;exact⟨c,aa,aa,f⟩
  .rintro⟨c,_,_,f⟩;exact⟨c,f⟩
 intro t
 induction t with
 |leaf x=>
  intro s h g;by_cases h0:(FT.leaf x).hi<=a\/b<=(FT.leaf x).lo
  .rw[FT.iG h0];refine⟨fun h=>absurd h aA,fun⟨d,e,c,_⟩=>?_⟩;have:=j _ d;rcases h0 with h0|h0<;>omega
  .rw[FT.canon,aN h0];refine one _ s h ?_ ?_
   .simp only[FT.hi,FT.lo]at h0 |-;omega
   .simp only[FT.hi,FT.lo]at h0 |-;omega
 |node l r m n=>
  intro s h g;by_cases h0:(FT.node l r).hi<=a\/b<=(FT.node l r).lo
  .rw[FT.iG h0];refine⟨fun h=>absurd h aA,fun⟨d,e,c,_⟩=>?_⟩;have:=j _ d;rcases h0 with h0|h0<;>omega
  .by_cases d:a<=(FT.node l r).lo/\(FT.node l r).hi<=b
   .rw[FT.rW h0 d];exact one _ s h d.1 d.2
   .rw[FT.mV h0 d];show i∈((_:List Nat)++_).flatMap _↔_;rw[gZ,bP,m s h.left g.1,n _ h.right g.2.1,sV YS l r g,oJ YS l r g,bG,bG,dH,oG,gY];constructor
    .rintro(⟨⟨e,_⟩,c⟩|⟨⟨e,_⟩,c⟩)<;>exact⟨e,c⟩
    .rintro⟨e,c⟩;by_cases f:i<l.hi
     .exact .inl ⟨⟨e,f⟩,c⟩
     .exact .inr ⟨⟨e,f⟩,c⟩
theorem GY {a b:Nat} (j:YS.Nodup):∀(t:FT) (s:Nat),FT.At N t s->t.wf->((t.canon s a b).1.flatMap (fun k=>EJ yv y1 y2 (lk N YS k))).Nodup:=by
 have one:∀(t:FT) (s:Nat),FT.At N t s->([t.root s].flatMap (fun k=>EJ yv y1 y2 (lk N YS k))).Nodup:=fun t s h=>by
  rw[lZ,List.flatMap_nil,iO];exact lV _ (j.sublist (Jz _))
 intro t
 induction t with
 |leaf x=>
  intro s h c;rw[FT.canon];split
  .simp
  .exact one _ s h
 |node l r m n=>
  intro s h c;rw[FT.canon];split
  .simp
  .split
   .exact one _ s h
   .show(((_:List Nat)++_).flatMap _).Nodup;rw[gZ];refine pI.2 ⟨m s h.left c.1,n _ h.right c.2.1,fun i hi k g e=>?_⟩;subst e;have d:=((y5 i l s h.left c.1).1 hi).1;have f:=((y5 i r _ h.right c.2.1).1 g).1;have o:l.lo<=i/\i<l.hi:=by simpa using(bG.1 d).2
    have p:r.lo<=i/\i<r.hi:=by simpa using(bG.1 f).2
    have:=c.2.2;omega
end
theorem FT.OY {N:List Nd} {a b:Nat}:∀(t:FT) (s:Nat),FT.At N t s->∀k∈(t.canon s a b).1,k<N.length:=by
 intro t
 induction t with
 |leaf x=>
  intro s h k hk;rw[FT.canon]at hk;split at hk
  .cases hk
  .obtain rfl:=lY.1 hk;exact h.lt
 |node l r c d=>
  intro s h k hk;rw[FT.canon]at hk;split at hk
  .cases hk
  .split at hk
   .obtain rfl:=lY.1 hk;exact h.lt
   .rcases bP.1 hk with hk|hk
    .exact c s h.left k hk
    .exact d _ h.right k hk
end
end Go.Proofs.YtkjdbndekceffaaGreat
set_option autoImplicit false
namespace Go.Proofs.YtkjdbndekceffaaGreat
open Tryz
section
open Go
abbrev Qf:=Nat->Nat
def swp (f:Qf) (i j:Nat):Qf:=fun k=>if k=i then f j else if k=j then f i else f k
def par (j:Nat):Nat:=(j-1)/2
structure LO (lb:Nat->Nat->Bool):Prop where
 Wz:∀a b,lb a b=true->lb b a=false
 tr:∀a b c,lb b a=false->lb c b=false->lb c a=false
def HO (lb:Nat->Nat->Bool) (f:Qf) (n:Nat):Prop:=∀j,0<j->j<n->lb (f j) (f (par j))=false
section
variable {lb:Nat->Nat->Bool} (O:LO lb)
include O
end
end
section
open Go Go.RowKit
def lowO (R:List Pt):Option Nat->Option Nat->Option Nat
 |none,b=>b
 |some i,none=>some i
 |some i,some k=>if De R k i then some k else some i
def lC (R:List Pt) (S:Nat->Prop):Option Nat->Prop
 |none=>∀j,¬S j
 |some i=>S i/\∀j,S j->j=i\/zS R i j
section
variable {R:List Pt} {S T:Nat->Prop} {a b:Option Nat}
theorem Rf (i:Nat):¬zS R i i:=wE _
theorem y7 {i j k:Nat} (h:zS R i j) (a:zS R j k):zS R i k:=tq h a
theorem lC.uniq (c:lC R S a) (d:lC R S b):a=b:=by
 cases a with
 |none=>
  cases b with
  |none=>rfl
  |some k=>exact absurd d.1 (c k)
 |some i=>
  cases b with
  |none=>exact absurd c.1 (d i)
  |some k=>
   rcases c.2 k d.1 with h|h
   .rw[h]
   .rcases d.2 i c.1 with h2|h2
    .rw[h2]
    .exact absurd (y7 h h2) (Rf _)
theorem lC.congr (h:∀j,S j↔T j) (b:lC R S a):lC R T a:=by
 cases a with
 |none=>exact fun j c=>b j ((h j).2 c)
 |some i=>exact⟨(h i).1 b.1,fun j c=>b.2 j ((h j).2 c)⟩
theorem GZ {n:Nat} (O:Ord (zS R) (De R) n) (hS:∀j,S j->j<n) (l:∀j,T j->j<n) (c:lC R S a) (d:lC R T b):lC R (fun j=>S j\/T j) (lowO R a b):=by
 cases a with
 |none=>
  refine d.congr fun j=>⟨.inr,fun h=>h.resolve_left (c j)⟩
 |some i=>
  cases b with
  |none=>exact c.congr (T:=fun j=>S j\/T j) fun j=>⟨.inl,fun h=>h.resolve_right (d j)⟩
  |some k=>
   show lC R _ (if De R k i then some k else some i);by_cases h:De R k i=true
   .rw[aO h];have g:=(O.dec k i).1 h;refine⟨.inr d.1,fun j hj=>?_⟩;rcases hj with hj|hj
    .rcases c.2 j hj with h9|h9
     .rw[h9];exact .inr g
     .exact .inr (y7 g h9)
    .exact d.2 j hj
   .rw[aN h];have f:k=i\/zS R i k:=by
     by_cases e:k=i
     .exact .inl e
     .rcases O.xm k i (l k d.1) (hS i c.1) e with h9|h9
      .exact absurd ((O.dec k i).2 h9) h
      .exact .inr h9
    refine⟨.inl c.1,fun j hj=>?_⟩;rcases hj with hj|hj
    .exact c.2 j hj
    .rcases d.2 j hj with h9|h9
     .rw[h9];exact f
     .rcases f with h8|h8
      .rw[<-h8];exact .inr h9
      .exact .inr (y7 h8 h9)
theorem G5 {L:List Nat} (h:L.Pairwise (zS R)):lC R (fun j=>j∈L) L.head?:=by
 cases L with
 |nil=>exact fun j a=>absurd a iC
 |cons i L=>
  refine⟨nV,fun j a=>?_⟩;rcases ic.1 a with h9|h9
  .exact .inl h9
  .exact .inr ((lX.1 h).1 j h9)
end
def kV (N:List Nd) (YS:List Nat) (k:Nat):Option Nat:=(lk N YS k).head?
def TC (YS:List Nat) (a b:Nat):List Nat:=YS.filter fun i=>decide (a<=i/\i<b)
section
variable {R:List Pt} {gone:List Bool} {YS:List Nat} {N:List Nd}
theorem cB.Wp (a:cB R gone YS) (k:Nat):(lk N YS k).Pairwise (zS R):=List.Pairwise.sublist (Jz k) a.Uk
theorem uf (a:cB R gone YS) (k:Nat):lC R (fun j=>j∈lk N YS k) (kV N YS k):=G5 (a.Wp k)
theorem DY (a:cB R gone YS) {k j:Nat} (h:j∈lk N YS k):j<R.length:=a.lt ((Jz k).subset h)
theorem Cg (a:cB R gone YS) {k i:Nat} (h:kV N YS k=some i):i<R.length:=by
 have:=uf (N:=N) a k;rw[h]at this;exact DY a this.1
theorem Rh (YS:List Nat) {l r:FT} (a:(FT.node l r).wf):(nl YS l++nl YS r).Perm (nl YS (.node l r)):=by
 rw[sV YS l r a,oJ YS l r a];exact List.filter_append_perm _ _
theorem G6 (a:cB R gone YS) {l r:FT} {s:Nat} (b:FT.At N (.node l r) s) (d:(FT.node l r).wf):
  kV N YS ((FT.node l r).root s)=lowO R (kV N YS (l.root s)) (kV N YS (r.root (s+l.size))):=by
 have c:=GZ (Jy a.ids) (fun j h=>DY a h) (fun j h=>DY a h) (uf (N:=N) a (l.root s)) (uf (N:=N) a (r.root (s+l.size)));refine lC.uniq (uf a _) (c.congr fun j=>?_);rw[Cf b,Cf b.left,Cf b.right,<-(Rh YS d).mem_iff,bP]
theorem Ch (e:cB R gone YS) {a s:Nat} (f:FT.At N (.leaf a) s):kV N YS s=if a∈YS then some a else none:=by
 have c:∀j,j∈lk N YS s↔j=a/\a∈YS:=fun j=>by
  have:lk N YS s=nl YS (.leaf a):=Cf f;rw[this];unfold nl;rw[bG,dH];simp only[FT.lo,FT.hi];constructor
  .rintro⟨d,g⟩;obtain rfl:j=a:=aa;exact⟨rfl,d⟩
  .rintro⟨rfl,h⟩;exact⟨h,aa⟩
 refine lC.uniq (uf e s) ?_;split
 .rename_i h;exact⟨(c a).2 ⟨rfl,h⟩,fun j b=>.inl ((c j).1 b).1⟩
 .rename_i h;exact fun j b=>h ((c j).1 b).2
theorem KO (L:List Nat):EJ (fun _=>0) 0 0 L=L:=by unfold EJ;exact lW.2 fun i _=>aA
theorem JA {a b:Nat} (i:Nat) (t:FT) (s:Nat) (c:FT.At N t s) (d:t.wf):i∈(t.canon s a b).1.flatMap (lk N YS)↔i∈nl YS t/\a<=i/\i<b:=by
 have h:=y5 (yv:=fun _=>0) (y1:=0) (y2:=0) (YS:=YS) (N:=N) (a:=a) (b:=b) i t s c d;simp only[KO]at h;rw[h];simp
theorem Mq (d:cB R gone YS) (c:0<R.length) (a b:Nat):(((dP 0 R.length).canon 0 a b).1.flatMap (lk (aW R.length) YS)).Perm (TC YS a b):=by
 have⟨w1,w2,w3⟩:=bJ 0 R.length c;have f:=jU R.length c;have e:=GY (yv:=fun _=>0) (y1:=0) (y2:=0) (N:=aW R.length) (a:=a) (b:=b) d.nodup (dP 0 R.length) 0 f w1;simp only[KO]at e;refine(zn e (d.nodup.sublist Eo)).2 fun i=>?_;rw[JA i _ 0 f w1,d.top c,bG,dH]
def sK (R:List Pt) (N:List Nd) (YS:List Nat) (ks:List Nat):Option Nat:=ks.foldl (fun o k=>lowO R o (kV N YS k)) none
theorem Mr (a:List Nat) (k:Nat):sK R N YS (a++[k])=lowO R (sK R N YS a) (kV N YS k):=by unfold sK;rw[List.foldl_append];rfl
theorem G7 (a:cB R gone YS) (b:List Nat):∀(o:Option Nat) (S:Nat->Prop),(∀j,S j->j<R.length)->lC R S o->lC R (fun j=>S j\/j∈b.flatMap (lk N YS)) (b.foldl (fun o k=>lowO R o (kV N YS k)) o):=by
 induction b with
 |nil=>intro o S hS h;exact h.congr fun j=>aA
 |cons k b ih=>
  intro o S hS h;have c:=GZ (Jy a.ids) hS (fun j h=>DY a h) h (uf (N:=N) a k);have d:=ih _ _ (fun j e=>e.elim (hS j) (DY a)) c;rw[A7];refine d.congr fun j=>?_;rw[lZ,bP,or_assoc]
theorem KP (c:cB R gone YS) (a b:Nat):(TC YS a b).Pairwise (zS R):=lV _ c.Uk
theorem JB (c:cB R gone YS) (d:0<R.length) (a b:Nat):sK R (aW R.length) YS ((dP 0 R.length).canon 0 a b).1=(TC YS a b).head?:=by
 have e:=G7 (N:=aW R.length) c ((dP 0 R.length).canon 0 a b).1 none (fun _=>False) (fun _ h=>h.elim) (fun _ h=>h);refine lC.uniq (e.congr fun j=>?_) (G5 (KP c a b));rw[(Mq c d a b).mem_iff];simp
end
def vT (x1 x2:Int) (p:Pt):Bool:=decide (x1<=p.1/\p.1<=x2)
def NA (l:List Pt) (x1 x2:Int):List Pt:=kz (l.filter (vT x1 x2))
theorem Ri (l:List Pt) (x1 x2:Int):(NA l x1 x2).length<=l.length:=by
 unfold NA;rw[(ja _).length_eq];exact gD _ _
section
variable {R:List Pt} {gone:List Bool} {YS:List Nat} {l:List Pt}
theorem Rj (b:cB R gone YS) (f:sD R YS l) (x1 x2:Int):(TC YS (ji R x1) (l7 R x2)).map (bS R)=NA l x1 x2:=by
 have e:∀i,i∈YS->(ji R x1<=i/\i<l7 R x2↔vT x1 x2 (bS R i)=true):=fun i hi=>by
  have d:=b.lt hi;have g:i<(bT R).length:=by unfold bT;simpa using d
  have h:(bT R)[i]=(bS R i).1:=by rw[dE d];simp[bT]
  have c:=sF b.Te x1 g;have a:=sG b.Te x2 g;rw[h]at c a;unfold ji l7 vT;rw[dH,c,a]
 have hu:(ids (l.filter (vT x1 x2))).Nodup:=f.je.sublist (List.filter_sublist.map _);refine Kz hu (dx.2 (KP b _ _)) fun p=>?_;rw[dm,bG,f.mem];constructor
 .rintro⟨i,hi,rfl⟩;unfold TC at hi;rw[bG,dH]at hi;exact⟨⟨i,hi.1,rfl⟩,(e i hi.1).1 hi.2⟩
 .rintro⟨⟨i,hi,rfl⟩,a⟩;refine⟨i,?_,rfl⟩;unfold TC;rw[bG,dH];exact⟨hi,(e i hi).2 a⟩
theorem OZ (l:List Pt) {x1 x2:Int} (h:x2<x1):NA l x1 x2=[]:=by
 unfold NA;rw[uG.2 (fun p _=>by unfold vT;simp only[dH];omega)];exact gV (ja []).length_eq
end
end
section
open Go.RowKit Go.Sort Go.Shelf Go.Lib Go.Maps
attribute [local irreducible] wpQuiet
attribute [local go_sem] Oper.fw
def oq:Option Nat->Int
 |none=>-1
 |some i=>i
theorem O0 (i:Nat):oq (some i)=(i:Int):=rfl
theorem Rk {o:Option Nat} {i:Nat}:oq o=(i:Int)↔o=some i:=by
 cases o with
 |none=>simp only[oq];constructor<;>intro h<;>first|omega|cases h
 |some j=>simp only[oq,jl];omega
def Im (h:iI) (n:Nat):List Value:=(List.range n).map fun k=>.int .i64 (oq (h k))
theorem KQ (h:iI) {n k:Nat} (a:k<n):(Im h n)[k]? =some (.int .i64 (oq (h k))):=by simp[Im,a]
theorem KR (h:iI) {n k:Nat} (c:k<n) (v:Option Nat):(Im h n).set k (.int .i64 (oq v))=Im (gB h k v) n:=by
 apply rG (by simp[Im]);intro i a b;simp only[Im,List.getElem_set,fO,xS];by_cases e:k=i
 .subst e;rw[aO rfl,fZ]
 .rw[aN e,iw (iR e)]
theorem Ms {h h':iI} {n:Nat} (e:∀k,k<n->h' k=h k):Im h' n=Im h n:=by
 unfold Im;exact Et fun k a=>by rw[e k (uX.1 a)]
theorem gT.sub {lt:Nat->Nat->Prop} {h:iI}:∀{t:FT} {s:Nat},gT lt h t s->∀p∈t.subs s,gT lt h p.1 p.2
 |.leaf a,s,b,p,hp=>by
  have:p=(.leaf a,s):=by simpa[FT.subs]using hp
  subst this;exact b
 |.node l r,s,b,p,hp=>by
  simp only[FT.subs,bP,lY]at hp;rcases hp with(hp|hp)|hp
  .exact gT.sub b.2.2.1 p hp
  .exact gT.sub b.2.2.2 p hp
  .subst hp;exact b
theorem lS.at_ {R:List Pt} {h:iI} (H:lS R h) {t:FT} {s:Nat} (c:FT.At (aW R.length) t s):gT (zS R) h t s/\t.wf/\t.hi<=R.length:=by
 have a:=kU c;have⟨w1,w2,w3⟩:=bJ 0 R.length a;have b:=FT.at_mem (fK a▸c);exact⟨(H.ok a).sub _ b,FT.qz _ 0 w1 _ b,bB (FT.Ad _ 0 w1 (t,s) b) aa⟩
theorem lS.pl {R:List Pt} {h:iI} (H:lS R h) {k i:Nat} (f:k<(aW R.length).length) (e:h k=some i):i<R.length:=by
 have⟨t,s,d,g⟩:=tO f;have⟨b,c,j⟩:=H.at_ d;rw[<-g]at e;have⟨L,a⟩:=o9 e;have:=b.span c i (by rw[a];simp);omega
structure mh where
 rv:Value
 xv:Value
 nv:Value
 hv:Value
 fv:Value
abbrev Mt (rv xv:Value) (fb:Nat) (nv hv:Value) (n:Int):Obj:=.cells #[rv,xv,aj fb,nv,hv,ae n] 155 (0,0)
structure cZ (w:World) (lo hi tb fb:Nat) (R:List Pt) (h:iI) (cnt:Int) (V:mh):Prop where
 blk:w.heap[tb]? =some (Mt V.rv V.xv fb V.nv V.hv cnt)
 fA:lo<=tb/\tb<hi/\lo<=fb/\fb<hi/\hi<=w.heap.size
 row:w.ownsRow lo 29 3 V.rv R.length (R.flatMap dw)
 xs:w.ownsRow lo 2 1 V.xv R.length ((bT R).map (Value.int .i64))
 iH:nN w lo fb R.length V.fv
 je:w.ownsRow lo 163 7 V.nv (aW R.length).length ((aW R.length).flatMap oN)
 oo:w.ownsRow lo 3 1 V.hv (aW R.length).length (Im h (aW R.length).length)
 top:∀v,v=V.rv\/v=V.xv\/v=V.nv\/v=V.hv\/v=V.fv->∀g,v.ownBlock=some g->g<hi
section
variable {w w':World} {lo hi tb fb:Nat} {R:List Pt} {h:iI} {cnt:Int} {V:mh}
theorem cZ.kept {S:Nat->Prop} (H:cZ w lo hi tb fb R h cnt V) (K:ay S w w') (hS:∀k,lo<=k->k<hi->¬S k):cZ w' lo hi tb fb R h cnt V:=by
 have ht:=H.top;have a:∀{e:TypeId} {sz:Nat} {v:Value} {n:Nat} {xs:List Value},w.ownsRow lo e sz v n xs->(∀g,v.ownBlock=some g->g<hi)->w'.ownsRow lo e sz v n xs:=fun a b=>aR a K fun g e=>hS g (a.lt g e).1 (b g e);exact⟨bq K H.blk (hS tb H.fA.1 H.fA.2.1),⟨H.fA.1,H.fA.2.1,H.fA.2.2.1,H.fA.2.2.2.1,bB H.fA.2.2.2.2 K.size⟩,
  a H.row (ht _ aA),a H.xs (ht _ aA),
  ⟨bq K H.iH.blk (hS fb H.fA.2.2.1 H.fA.2.2.2.1),a H.iH.row (ht _ aA)⟩,a H.je (ht _ aA),a H.oo (ht _ aA),H.top⟩
theorem cZ.below {B:Nat} (H:cZ w lo hi tb fb R h cnt V) (a:Below B w w') (e:hi<=B):cZ w' lo hi tb fb R h cnt V:=
 H.kept (S:=fun k=>hi<=k) ⟨a.os,a.tape,a.output,a.size,fun k f g=>a.block k aa⟩ fun k b c d=>aa
theorem cZ.FV (H:cZ w lo hi tb fb R h cnt V):tb<w.heap.size:=bX H.fA.2.1 H.fA.2.2.2.2
theorem cZ.nodes (H:cZ w lo hi tb fb R h cnt V) (l:0<R.length):∃g off c,V.nv=.slice (some (ag g off)) (aW R.length).length c/\bW oN 7 w (some (ag g off)) (aW R.length):=by
 have m:=dh R.length;have⟨g,c,e,_⟩:=aU H.je aa;obtain⟨a,i,b,-,-,d⟩:=bW.aD jr ai H.je;rw[e]at b;injection b with f j k;rw[<-f]at d;exact⟨g,0,c,e,d⟩
theorem cZ.holds (H:cZ w lo hi tb fb R h cnt V) (r:0<R.length):∃g c,V.hv=az g (aW R.length).length c/\lo<=g/\g<hi/\g≠tb/\g≠fb/\g<w.heap.size/\(∀k,k<(aW R.length).length->w.cell? (ag g k)=some (ae (oq (h k)))/\w.frozen? (ag g k)=false)/\
  (∀a,V.rv.ownBlock=some a->a≠g)/\(∀a,V.xv.ownBlock=some a->a≠g)/\(∀a,V.nv.ownBlock=some a->a≠g)/\∀a,V.fv.ownBlock=some a->a≠g:=by
 have x:=dh R.length;have⟨g,c,e,y,u,s,t⟩:=aU H.oo aa;have b:=H.oo;rw[e]at b;have p:(az g (aW R.length).length c).ownBlock=some g:=rfl;have f:∀{j:TypeId} {sz n:Nat} {v:Value} {xs:List Value},w.ownsRow lo j sz v n xs->j≠3->∀a,v.ownBlock=some a->a≠g:=fun q o a d l=>bA q b o a d (l▸p);refine⟨g,c,e,(b.lt g rfl).1,H.top V.hv aA g (by rw[e];rfl),fun i=>bn b H.blk ai g rfl i.symm,fun i=>bn b H.iH.blk ai g rfl i.symm,(b.lt g rfl).2,fun k m=>⟨?_,b.frozenAt k⟩,f H.row ai,f H.xs ai,f H.je ai,f H.iH.row ai⟩;have d:=b.cellAt k aa;rw[KQ h m]at d;exact d
theorem cZ.nQ (H:cZ w lo hi tb fb R h cnt V) {g n c:Nat} (i:V.hv=az g n c) {k:Nat} (j:k<(aW R.length).length) (v:Option Nat):
  cZ (w.setCell (ag g k) (.int .i64 (oq v))) lo hi tb fb R (gB h k v) cnt V:=by
 have K:ay (fun k=>k=g) w (w.setCell (ag g k) (.int .i64 (oq v))):=(ay.refl (fun k=>k=g) w).set (a:=(ag g k)) _ (.inl rfl);have e:=H.oo;rw[i]at e;have l:n=(aW R.length).length:=by
  rcases e.2 with⟨d,-⟩|⟨p,m,o,d,-⟩
  .cases d
  .injection d with _ d _
 subst l;have⟨cs,fr,b⟩:=qH e;have f:=(e.stored k (.int .i64 (oq v))).1;rw[KR h j v]at f;refine⟨Fj H.blk K b ai,aQ H.fA,fo H.row K b ai,fo H.xs K b ai,yQ H.iH K b ai ai,fo H.je K b ai,?_,H.top⟩;rw[i];exact f
theorem cZ.BR (H:cZ w lo hi tb fb R h cnt V) (m:Int):cZ (w.setCell (ag tb 5) (.int .i64 m)) lo hi tb fb R h m V:=by
 have K:ay (fun k=>k=tb) w (w.setCell (ag tb 5) (.int .i64 m)):=(ay.refl (fun k=>k=tb) w).set (a:=(ag tb 5)) _ (.inl rfl);have b:=H.blk;exact⟨di w tb 5 _ _ _ H.blk,aQ H.fA,fo H.row K b ai,fo H.xs K b ai,yQ H.iH K b ai ai,fo H.je K b ai,fo H.oo K b ai,H.top⟩
end
abbrev y8 (fr ub:Nat) (y:Int) (F:Nat) (cb:Array Value) (c:Nat):Obj:=.cells #[ae fr,ae ub,ae y,.func (.func F) #[] cb,ae c] 250 (0,0)
structure O1 (F:Nat) (cb:Array Value) (more:Bool) (R:List Pt) (w0:World) (FL:List Nat) (S:World->List Nat->(Nat->Prop)->Prop):Prop where
 enters:∀args w,(callFunc F args).run prog w=.ok (.enter F args) w
 base:∀W acc D,S W acc D->Below w0.heap.size w0 W
 lt:∀W acc D,S W acc D->∀k,D k->w0.heap.size<=k/\k<W.heap.size
 jT:∀W W' acc D E,S W acc D->ay E W W'->(∀k,E k->w0.heap.size<=k/\¬D k)->S W' acc D
 told:∀W acc D i,S W acc D->i<R.length->acc++[i] <+: FL->
  aK F (#[iZ (bS R i).1 (bS R i).2.1 (bS R i).2.2]++cb) W fun e w'=>e=.returned (.bool more)/\∃D',S w' (acc++[i]) D'/\(∀k,D' k->D k\/W.heap.size<=k)/\ay D W w'
def Mv (S:World->List Nat->(Nat->Prop)->Prop) (W:World) (D:Nat->Prop) (ab fr ub:Nat) (y:Int) (F:Nat) (cb:Array Value) (c:Nat) (acc:List Nat) (r:List Nat×Nat×Bool) (e:Ending) (w':World):Prop:=
 e=.returned (.bool r.2.2)/\∃D',S w' (acc++r.1) D'/\(∀k,D' k->D k\/W.heap.size<=k)/\ay (fun k=>D k\/k=ab) W w'/\w'.heap[ab]? =some (y8 fr ub y F cb (c+r.2.1))
theorem JC {P:Program} {ops:Array Oper} {o:Oper} {a:Act} {K:Act->World->Prop} {Q:Exit->Act->World->Prop} {E0:Prop} {f:FuncId} {w:World} {vals:Array Value} {R:Ending->World->Prop} (i:∀args w,(callFunc f args).run P w=.ok (.enter f args) w) (n:Region.wanted o (yielded ops a.tmps)=true) (g:Operand) (args:Array Operand) (p:Array TypeId) (l:o.op=.call {callee:=.value g,args:=args,argTypes:=p})
  (cb:Array Value) (j:a.eval g=.func (.func f) #[] cb) (c:vals=(args.toList.map a.eval).toArray++cb)
  (C:Calls P f vals w R) (h:∀e w',R e w'->∃v,e=.returned v/\K (a.put o.dst v) w'):
  if Region.wanted o (yielded ops a.tmps)=true then Oper.wp P o a w K Q else E0:=by
 rw[aO n];unfold Oper.wp;have b:args.map a.eval++cb=vals:=by rw[c,<-Ez]
 have d:(execOp a.eval o).run P w=.ok (.enter f vals) w:=by
  simp[execOp,l,resolve,invoke,j,b,Deferred.ofValue,i]
 rw[d,Oper.upon_enter];refine C.mono fun e w' m=>?_;obtain⟨v,rfl,k⟩:=h e w' m;exact k
theorem Ci (F:Nat) (cb:Array Value) (more:Bool) (R:List Pt) (h:iI) (cnt:Int) (V:mh) (lo hi tb fb b:Nat) (w0:World) (S:World->List Nat->(Nat->Prop)->Prop) (y:Int) (fr ub:Nat) (N:List Nat)
  (ap:O1 F cb more R w0 N S) (br:cZ w0 lo hi tb fb R h cnt V) (dZ:R.length<=20000) (d0:w0.heap.size<=b)
  (t:FT) (s:Nat) (W:World) (f:List Nat) (D:Nat->Prop) (c:Nat) (bt:FT.At (aW R.length) t s) (a0:t.wf) (c3:t.hi<=R.length) (cc:gT (zS R) h t s) (hS:S W f D) (b1:¬D b) (aV:W.heap[b]? =some (y8 fr ub y F cb c)) (cX:c+t.size<=1000000)
  (b3:f++(downG more h (lG R) y fr ub t s).1 <+: N)
  (c9:∀l r,t=.node l r->(∀W f D c,S W f D->¬D b->W.heap[b]? =some (y8 fr ub y F cb c)->c+l.size<=1000000->f++(downG more h (lG R) y fr ub l s).1 <+: N->
    aK 174 #[aj tb,ae (l.root s:Nat),aj b] W (Mv S W D b fr ub y F cb c f (downG more h (lG R) y fr ub l s)))/\
    ∀W f D c,S W f D->¬D b->W.heap[b]? =some (y8 fr ub y F cb c)->c+r.size<=1000000->f++(downG more h (lG R) y fr ub r (s+l.size)).1 <+: N->
    aK 174 #[aj tb,ae (r.root (s+l.size):Nat),aj b] W (Mv S W D b fr ub y F cb c f (downG more h (lG R) y fr ub r (s+l.size)))):
  aK 174 #[aj tb,ae (t.root s:Nat),aj b] W (Mv S W D b fr ub y F cb c f (downG more h (lG R) y fr ub t s)):=by
 have b0:0<R.length:=by have:=t.eZ a0;omega
 have eb:=t.size_pos;have d3:=ap.base W f D hS;have cQ:=ap.lt W f D hS;have cl:=af cQ;clear cQ;have eq:b<W.heap.size:=(aZ.1 aV).1;have df:W.cell? (ag b 4)=some (ae c):=aF aV;have eo:W.frozen? (ag b 4)=false:=aF aV;have er:c+1<=1000000:=aa;obtain⟨w1,aT⟩:∃w1,w1=W.setCell (ag b 4) (.int .i64 ((c+1:Nat):Int)):=⟨_,rfl⟩;have bP:ay (fun k=>k=b) W w1:=by rw[aT];exact(ay.refl (fun k=>k=b) W).set (a:=(ag b 4)) _ (.inl rfl)
 have aq:w1.heap[b]? =some (y8 fr ub y F cb (c+1)):=by rw[aT];exact di W b 4 _ _ _ aV
 have b6:S w1 f D:=ap.jT W w1 f D _ hS bP (fun k Q=>by subst Q;exact⟨d0,b1⟩);have cW:=ap.base w1 f D b6;have an:=br.below cW br.fA.2.2.2.2;obtain⟨dW,off,cn,env,dm⟩:=an.nodes b0;obtain⟨dV,ch,cF,-,-,-,-,es,cY,-⟩:=an.holds b0;obtain⟨dk,dl,cH,-,-,dn⟩:=bW.aD bg ai an.row;have aU:=an.blk;rw[env,cF,cH]at aU;have c2:=bt.get;have b7:=bt.lt;obtain⟨et,n0,bx,bz,a2,a3,ca,bA⟩:=mX dm c2;rw[FT.EI]at a2;rw[FT.vF]at a3;have bm:=(cY _ b7).1;have ec:tb<w1.heap.size:=an.FV;have bT:w1.cell? (ag tb 0)=some (.slice dk R.length dl):=aF aU;have bU:w1.cell? (ag tb 3)=some (.slice (some (ag dW off)) (aW R.length).length cn):=aF aU;have bX:w1.cell? (ag tb 4)=some (az dV (aW R.length).length ch):=aF aU;have dp:w1.cell? (ag b 0)=some (ae fr):=aF aq;have dq:w1.cell? (ag b 1)=some (ae ub):=aF aq;have dr:w1.cell? (ag b 2)=some (ae y):=aF aq;have ds:w1.cell? (ag b 3)=some (.func (.func F) #[] cb):=aF aq;have c4:=t.eZ a0;have dX:(aW R.length).length<=40000:=by rw[dh];omega
 have d9:=t.size_pos;obtain⟨m,bY⟩:∃m,m=t.hi:=⟨_,rfl⟩;obtain⟨tl,bZ⟩:∃tl,tl=t.lo:=⟨_,rfl⟩;rw[<-bY]at a3 c3 c4;rw[<-bZ]at a2 c4;obtain⟨K,u⟩:∃K,K=t.root s:=⟨_,rfl⟩;obtain⟨d,hd⟩:∃d,d=t.top s:=⟨_,rfl⟩;obtain⟨o,bv⟩:∃o,o=h (t.root s):=⟨_,rfl⟩;rw[<-hd]at n0 bx bz bA;rw[<-bv]at bm;rw[<-u]at n0 bx bz a2 a3 ca bA b7 bm;obtain⟨r,H⟩:∃r,r=downG more h (lG R) y fr ub t s:=⟨_,rfl⟩;have aL:Hid (m=t.hi/\tl=t.lo/\K=t.root s/\d=t.top s/\o=h (t.root s)/\r=downG more h (lG R) y fr ub t s):=⟨bY,bZ,u,hd,bv,H⟩;rw[<-H]at b3 |-;rw[<-u];have cm:=af b3;have P:=af ap;have cv:=af b6;have ep:=af br;have cu:=af dn;have cs:=af c9;have dC:=af cc;have co:=af bP;have cf:=af aq;have dJ:=af a0;have dx:=af bt;have dy:=af cX;have bH:=af b1;have dd:w1.heap.size=W.heap.size:=by rw[aT];simp
 have cx:=af dd;obtain⟨M,b5⟩:∃M,M=(aW R.length).length:=⟨_,rfl⟩;obtain⟨a4,b8⟩:∃a4,a4=R.length:=⟨_,rfl⟩;rw[<-b5]at bU bX b7 dX;rw[<-b8]at bT dZ c3 b0;have dB:Hid (M=(aW R.length).length/\a4=R.length):=⟨b5,b8⟩;have X:b<w1.heap.size:=aa;have da:∀i,o=some i->i<a4/\tl<=i/\i<m:=fun i cG=>by
  rw[bv]at cG;obtain⟨L,dR⟩:=o9 cG;have:=cc.span a0 i (by rw[dR];simp);omega
 have ct:=af da;clear da bY bZ u hd bv H b3 ap b6 br dn c9 cc bP aq a0 bt cX b1 dd b5 b8 aU c2 env cF cH cY dm hS d3 an cW d9 eb aV;go_enter func174,ntmps174
 go_upto_region 2 with fail
 rw[show W.setCell (ag b 4) (.int .i64 ((c:Int)+1))=w1 by rw[aT];rfl];clear aT df eo;obtain⟨w2,bn⟩:∃w2,w2=(w1.alloc (.cells #[.int .u8 d.kind,ae d.l,ae d.r,ae tl,ae m,ae 0,ae d.item] 163)).drew:=⟨_,rfl⟩;have v:Below w1.heap.size w1 w2:=by rw[bn];exact((aJ _ _).alloc (aB _) _).drew
 have I:w2.heap[w1.heap.size]? =some (.cells #[.int .u8 d.kind,ae d.l,ae d.r,ae tl,ae m,ae 0,ae d.item] 163 (0,0)):=by rw[bn];exact bV w1 _
 have cg:=af v;have bj:=af I;have bL:Hid (S w2 f D):=P.o.jT w1 w2 f D (fun _=>False) cv.o ((ay.refl _ w1).below v) (fun k h=>h.elim);clear v I;have bo:=ah bU;have bp:=ah bX;have ed:=ah n0;have ee:=ah bx;have ef:=ah bz;have eg:=ah a2;have eh:=ah a3;have ei:=ah ca;have ej:=ah bA;have ek:=ah bm;refine ax (fun W=>∃p:aS w1,W=p.W) [16] [(0,false),(1,false),(2,false),(3,true),(4,false),(5,false),(6,true),(7,false),(8,false),(9,false),(10,true),(11,false),(12,false),(13,true)] ⟨⟨_,(aJ _ _).drew⟩,rfl⟩ 3 ?_;refine aH 14 rfl fun K u=>?_;go_simp;refine u _ _ (fun _ _=>⟨⟨_,(aJ _ w1).alloc (aB _) _|>.drew⟩,rfl⟩) ?_;clear u K;refine aH 15 rfl fun K u=>?_;go_simp;refine u _ _ (fun _ _=>⟨⟨_,(aJ _ w1).alloc (aB _) _|>.drew⟩,rfl⟩) ?_;clear u K;refine aI [16] ?_;rw[<-bn];clear bo bp ed ee ef eg eh ei ej ek bn
 go_upto_region 3 with fail
 have v:=cg.o;have a1:w1.heap.size<w2.heap.size:=(aZ.1 bj.o).1;have I:=bj.o;have bk:=(v.cell (p:=(ag tb 0)) ec).trans bT;have t0:=(v.cell (p:=(ag b 0)) X).trans dp;have t1:=(v.cell (p:=(ag b 1)) X).trans dq;have t2:=(v.cell (p:=(ag b 2)) X).trans dr;have t3:=(v.cell (p:=(ag b 3)) X).trans ds;have C:w2.cell? (ag w1.heap.size 0)=some (.int .u8 d.kind):=aF I;have x1:w2.cell? (ag w1.heap.size 1)=some (ae d.l):=aF I;have x2:w2.cell? (ag w1.heap.size 2)=some (ae d.r):=aF I;have eF:w2.cell? (ag w1.heap.size 3)=some (ae tl):=aF I;have eG:w2.cell? (ag w1.heap.size 4)=some (ae m):=aF I;have bE:Hid (w2.heap[b]? =some (y8 fr ub y F cb (c+1))):=(v.block b X).trans cf.o;have bJ:Hid (ay (fun k=>D k\/k=b) W w2):=(co.o.mono fun k h=>.inr h).below v;have aR:Hid (bW dw 3 w2 dk R):=cu.o.below v;have bD:Hid (∀(a5:World) (n:Nat),Below w2.heap.size w2 a5->r=([],1,true)->Mv S W D b fr ub y F cb c f r (.returned (.bool true)) a5):=fun a5 n G e=>by
  rw[e];show Mv S W D b fr ub y F cb c f ([],1,true) _ _;refine⟨rfl,D,?_,fun k h=>.inl h,bJ.o.below G,(G.block b (vw X a1)).trans bE.o⟩;show S a5 (f++[]) D;rw[iO];exact P.o.jT w2 a5 f D (fun _=>False) bL.o ((ay.refl _ w2).below G) (fun k h=>h.elim)
 clear v I bT bU bX dp dq dr ds n0 bx bz a2 a3 ca bA bm;cases o with
 |none=>
  have H:r=([],1,true):=by
   obtain⟨-,-,-,-,w,x⟩:=aL.o;rw[x];exact ny w.symm
  have aE:Hid (∀n,Mv S W D b fr ub y F cb c f r (.returned (.bool true)) (w2.drewN n)):=fun n=>bD.o _ n (Below.bu _ _) H;clear H;simp only[oq]
  go_quiet (fail)
  go_wp2;go_ret;exact aE.o _
 |some i=>
  obtain⟨d6,eu,ev⟩:=ct.o i rfl;have aX:i<R.length:=by rw[<-dB.o.2];exact d6
  obtain⟨bB,bC,dS,ew,bw⟩:=aR.o.get aa;have ab:=bw i aX 0 aa;have ac:=bw i aX 1 aa;have ad:=bw i aX 2 aa;simp only[dw,fI,dz,dI]at ab ac ad;rw[<-dE aX]at ab ac ad;subst dS;have de:lG R i=(bS R i).2.1:=rfl;have cA:Hid (∀W f D,S W f D->f++[i] <+: N->aK F (#[iZ (bS R i).1 (bS R i).2.1 (bS R i).2.2]++cb) W fun e w'=>e=.returned (.bool more)/\∃ce,S w' (f++[i]) ce/\(∀k,ce k->D k\/W.heap.size<=k)/\ay D W w'):=fun W f D J cJ=>P.o.told W f D i J aX cJ;have bO:=af de;clear bw de;generalize bS R i=p at*;obtain⟨dj,A,dg⟩:=p;simp only at ab ac ad;simp only[O0];have dO:((i:Int)==-1)=false:=by first|(simp;done)|(simp;omega)
  have dP:decide ((i:Int)=-1)=false:=by first|(simp;done)|(simp;omega)
  by_cases hp:y<A\/m<=fr\/ub<=tl
  .have H:r=([],1,true):=by
    obtain⟨av,aw,-,-,w,x⟩:=aL.o;rw[x];refine mG w.symm ?_;have:=bO.o;simp only at this;rw[this,<-av,<-aw];exact hp
   have aE:Hid (∀n,Mv S W D b fr ub y F cb c f r (.returned (.bool true)) (w2.drewN n)):=fun n=>bD.o _ n (Below.bu _ _) H;clear H;by_cases J:y<A
   .have d1:decide (A>y)=true:=aG;have d2:decide (y<A)=true:=aG;clear hp
    go_quiet (fail)
    go_wp2;go_ret;exact aE.o _
   .have d1:decide (A>y)=false:=aG;have d2:decide (y<A)=false:=aG;by_cases cJ:m<=fr
    .have f1:decide ((m:Int)<=(fr:Int))=true:=aG;have f2:decide (m<=fr)=true:=aG;clear hp
     go_quiet (fail)
     go_wp2;go_ret;exact aE.o _
    .have f1:decide ((m:Int)<=(fr:Int))=false:=aG;have f2:decide (m<=fr)=false:=aG;have f3:decide ((tl:Int)>=(ub:Int))=true:=aG;have f4:decide ((ub:Int)<=(tl:Int))=true:=aG;have f5:decide (ub<=tl)=true:=aG;clear hp
     go_quiet (fail)
     go_wp2;go_ret;exact aE.o _
  .have d1:decide (A>y)=false:=aG;have d2:decide (y<A)=false:=aG;have f1:decide ((m:Int)<=(fr:Int))=false:=aG;have f2:decide (m<=fr)=false:=aG;have f3:decide ((tl:Int)>=(ub:Int))=false:=aG;have f4:decide ((ub:Int)<=(tl:Int))=false:=aG;have f5:decide (ub<=tl)=false:=aG;have bK:=af hp;clear hp bD
   go_quiet (fail)
   obtain⟨w3,q⟩:∃w3,w3=w2.drewN nq:=⟨_,rfl⟩;have a7:Hid (Below w2.heap.size w2 w3):=by rw[q];exact Below.bu _ _
   have bk:w3.cell? (ag tb 0)=some (.slice (some (ag bB bC)) a4 dl):=by rw[q];exact bk
   have t0:w3.cell? (ag b 0)=some (ae fr):=by rw[q];exact t0
   have t1:w3.cell? (ag b 1)=some (ae ub):=by rw[q];exact t1
   have t3:w3.cell? (ag b 3)=some (.func (.func F) #[] cb):=by rw[q];exact t3
   have C:w3.cell? (ag w1.heap.size 0)=some (.int .u8 d.kind):=by rw[q];exact C
   have x1:w3.cell? (ag w1.heap.size 1)=some (ae d.l):=by rw[q];exact x1
   have x2:w3.cell? (ag w1.heap.size 2)=some (ae d.r):=by rw[q];exact x2
   have ab:w3.cell? (ag bB (bC+i*3))=some (ae dj):=by rw[q];exact ab
   have ac:w3.cell? (ag bB (bC+i*3+1))=some (ae A):=by rw[q];exact ac
   have ad:w3.cell? (ag bB (bC+i*3+2))=some (au dg):=by rw[q];exact ad
   have bM:Hid (S w3 f D):=P.o.jT w2 w3 f D (fun _=>False) bL.o ((ay.refl _ w2).below a7.o) (fun k h=>h.elim);have ba:Hid (ay (fun k=>D k\/k=b) W w3):=bJ.o.below a7.o;have bF:Hid (w3.heap[b]? =some (y8 fr ub y F cb (c+1))):=(a7.o.block b (vw X a1)).trans bE.o;have Y:w1.heap.size<w3.heap.size:=by rw[q];exact a1
   go_upto_region 5 with fail
   rw[<-q];clear q;obtain⟨T,cE⟩:∃T:List Nat,T=(if fr<=i/\i<ub then[i]else[]):=⟨_,rfl⟩;have aM:=af cE;clear cE;obtain⟨g,b9⟩:∃g,g=w1.heap.size:=⟨_,rfl⟩;have bc:=af b9;rw[<-b9]at C x1 x2 Y a1 bj |-;clear b9
   go_cut [93]from 65 (fun em ak=>∃(bl:Bool) (E:Nat->Prop),em=.bool bl/\Hid (bl=(decide (fr<=i/\i<ub)&&!more))/\Hid (S ak (f++T) E)/\Hid (∀k,E k->D k\/W.heap.size<=k)/\Hid (ay (fun k=>D k\/k=b) W ak)/\Hid (ak.heap[b]? =some (y8 fr ub y F cb (c+1)))/\Hid (¬E b)/\
    ak.cell? (ag g 0)=some (.int .u8 d.kind)/\ak.cell? (ag g 1)=some (ae d.l)/\ak.cell? (ag g 2)=some (ae d.r)/\Hid (¬E g/\g<ak.heap.size))
   case first=>
    by_cases ar:fr<=i/\i<ub
    .have g1:decide ((i:Int)>=(fr:Int))=true:=aG;have cI:decide ((fr:Int)<=(i:Int))=true:=aG;have bo:decide (fr<=i)=true:=aG;have bp:decide ((i:Int)<(ub:Int))=true:=aG;have dU:decide (i<ub)=true:=aG;have ez:=ah bk;have eA:=ah t0;have eB:=ah t1;have eC:=ah t3;have df:=ah ab;have eD:=ah ac;have eE:=ah ad;refine ax (fun W=>∃p:aS w3,W=p.W) [26,27,28] [(0,false),(1,false),(2,false),(3,false),(4,true),(5,false),(6,false),(7,false),(8,false),(9,false),(10,false),(11,true),(12,false),(13,false),(14,false),(15,false),(16,false),(17,false),(18,true),(19,false),(20,false),(21,false),(22,true),(23,false),(24,false),(25,true)] ⟨⟨_,(aJ _ _).drew⟩,rfl⟩ 3 ?_;refine aH 26 rfl fun K u=>?_;have cy:S w3.drew f D:=P.o.jT w3 w3.drew f D (fun _=>False) bM.o (ay.refl _ w3).drew (fun k h=>h.elim);have cr:f++[i] <+: N:=by
      obtain⟨av,aw,-,-,w,x⟩:=aL.o;have J:=OV (more:=more) (yv:=lG R) (y:=y) (fr:=fr) (ub:=ub) w.symm (by rw[bO.o,<-av,<-aw];exact bK.o) ar;rw[<-x]at J;exact((List.prefix_append_right_inj f).2 J).trans cm.o
     refine JC P.o.enters (by first|rfl|(go_simp;done)) (.tmp 83) _ _ rfl cb rfl (vals:=#[iZ dj A dg]++cb) rfl (cA.o w3.drew f D cy cr) ?_;rintro e w4 ⟨rfl,aC,cT,bs,cR⟩;refine⟨_,rfl,u _ _ (fun _ h=>absurd aA h) ?_⟩;clear u K;refine aI [27,28] ?_;have cP:¬D b:=bH.o;have ao:¬D g:=fun j=>by have:=cl.o g j;have:=cx.o;have:=bc.o;omega
     have ex:b<w3.heap.size:=vw (by have:=bc.o;omega) Y;have U:ay D w3 w4:=(ay.refl D w3).drew.trans cR;have en:=((cz U Y ao).1 0).trans C;have y1:=((cz U Y ao).1 1).trans x1;have y2:=((cz U Y ao).1 2).trans x2;have ey:=U.size;have be:Hid (S w4 (f++T) aC):=by rw[aM.o,aO ar];exact cT
     have dF:Hid (∀k,aC k->D k\/W.heap.size<=k):=fun k j=>(bs k j).imp id fun h8=>by
      have cK:w3.heap.size<=k:=h8;have:=ba.o.size;omega
     have bf:Hid (ay (fun k=>D k\/k=b) W w4):=ba.o.trans (U.mono fun k h=>.inl h);have bh:Hid (w4.heap[b]? =some (y8 fr ub y F cb (c+1))):=bq U bF.o cP;have aP:Hid (¬aC b/\¬aC g/\g<w4.heap.size):=⟨fun j=>by
      rcases bs b j with h8|h8
      .exact cP h8
      .have cK:w3.heap.size<=b:=h8;omega,fun j=>by
      rcases bs g j with h8|h8
      .exact ao h8
      .have cK:w3.heap.size<=g:=h8;omega,aa⟩
     have bi:Hid ((!more)=(decide (fr<=i/\i<ub)&&!more)):=by show _=_;simp[ar]
     clear cR cT bs U cy cr;go_wp2;go_meet;exact⟨_,aC,rfl,bi,be,dF,bf,bh,aP.o.1,en,y1,y2,aP.o.2⟩
    .have dT:(decide ((i:Int)>=(fr:Int))=true/\decide ((i:Int)<(ub:Int))=false)\/decide ((i:Int)>=(fr:Int))=false:=aG;have ao:¬D g:=fun j=>by have:=cl.o g j;have:=cx.o;have:=bc.o;omega
     have be:Hid (∀n,S (w3.drewN n) (f++T) D):=fun n=>by
      rw[aM.o,aN ar,iO];exact P.o.jT w3 _ f D (fun _=>False) bM.o ((ay.refl _ w3).below (Below.bu _ _)) (fun k h=>h.elim)
     have bf:Hid (∀n,ay (fun k=>D k\/k=b) W (w3.drewN n)):=fun n=>ba.o.below (Below.bu _ _);have bh:Hid (∀n,(w3.drewN n).heap[b]? =some (y8 fr ub y F cb (c+1))):=fun n=>bF.o;have aP:Hid (¬D g/\g<w3.heap.size):=⟨ao,Y⟩;have bi:Hid (false=(decide (fr<=i/\i<ub)&&!more)):=by show _=_;simp[ar]
     have al:Hid (∀n o,(w3.drewN n).cell? (ag g o)=w3.cell? (ag g o)):=fun n o=>rfl;clear ar;rcases dT with⟨g1,cI⟩|g1
     .have bo:decide ((fr:Int)<=(i:Int))=true:=aQ g1;have bp:decide (fr<=i)=true:=aQ g1;have dU:decide (i<ub)=false:=aQ cI
      go_quiet (fail)
      go_wp2;go_meet;exact⟨_,D,rfl,bi,be.o _,fun k h=>.inl h,bf.o _,bh.o _,bH.o,(al.o _ _).trans C,(al.o _ _).trans x1,(al.o _ _).trans x2,aP.o⟩
     .have bo:decide ((fr:Int)<=(i:Int))=false:=aQ g1;have bp:decide (fr<=i)=false:=aQ g1
      go_quiet (fail)
      go_wp2;go_meet;exact⟨_,D,rfl,bi,be.o _,fun k h=>.inl h,bf.o _,bh.o _,bH.o,(al.o _ _).trans C,(al.o _ _).trans x1,(al.o _ _).trans x2,aP.o⟩
   case rest=>
    obtain⟨bl,E,rfl,cj,bN,a9,bb,a8,cq,C,x1,x2,cp⟩:=hcut;have c6:=bK.o;obtain⟨av,aw,el,Z,w,x⟩:=aL.o;have c8:¬(y<lG R i\/t.hi<=fr\/ub<=t.lo):=by rw[bO.o,<-av,<-aw];exact c6
    have bd:=af c8;have d8:=cp.o.2;have d7:g≠b:=by have:=bc.o;omega
    clear c6 av aw el c8 bK ba bF bM a7 cg bj bL aR bJ bE cA cf co cv cu dO dP d1 d2 f1 f2 f3 f4 f5 bk t0 t1 t3 ab ac ad Y a1;cases bl with
    |true=>
     have G:=cj.o;simp only[Bool.true_eq,oH,dH,oG]at G;have z:r=([i],1,false):=by rw[x,G.2];exact BX w.symm bd.o G.1
     have O:Hid (Mv S W D b fr ub y F cb c f r (.returned (.bool false)) wc):=by
      rw[z];have J:=bN.o;rw[aM.o,aO G.1]at J;exact⟨rfl,E,J,a9.o,bb.o,a8.o⟩
     clear z G Z w x;go_wp2;go_ret;exact O.o
    |false=>
     have ck:=af cj.o.symm;cases t with
     |leaf a=>
      have Q:d.kind=1:=by rw[Z];rfl
      have z:r=(T,1,true):=by
       have dQ:h s=some i:=w.symm;rw[x,vO dQ bd.o,ck.o,aM.o];rfl
      have O:Hid (Mv S W D b fr ub y F cb c f r (.returned (.bool true)) wc):=by
       rw[z];exact⟨rfl,E,bN.o,a9.o,bb.o,a8.o⟩
      rw[Q]at C;clear z Q Z w x x1 x2;go_wp2;go_ret;exact O.o
     |node l B=>
      have Q:d.kind=2:=by rw[Z];rfl
      have c0:d.l=((l.root s:Nat):Int):=by rw[Z];show((s+l.size:Nat):Int)-1=_;unfold FT.root;have:=l.size_pos;omega
      have c1:d.r=((B.root (s+l.size):Nat):Int):=by rw[Z];show((s+l.size+B.size:Nat):Int)-1=_;unfold FT.root;have:=B.size_pos;omega
      have z:=BZ (more:=more) (yv:=lG R) (y:=y) (fr:=fr) (ub:=ub) w.symm bd.o ck.o;rw[<-x,<-aM.o]at z;have db:=qI (h:=h) (yv:=lG R) (y:=y) (fr:=fr) (ub:=ub) more l s;have dc:=qI (h:=h) (yv:=lG R) (y:=y) (fr:=fr) (ub:=ub) more B (s+l.size);have d5:=dy.o;have ea:(FT.node l B).size=l.size+B.size+1:=rfl;obtain⟨bQ,bR⟩:=cs.o l B rfl;rw[Q]at C;rw[c0]at x1;rw[c1]at x2;have aY:=cm.o;rw[z]at aY;generalize downG more h (lG R) y fr ub l s=dM at*;generalize downG more h (lG R) y fr ub B (s+l.size)=dN at*;obtain⟨cB,am,cC⟩:=dM;obtain⟨dK,cD,dL⟩:=dN;simp only at z db dc aY bQ bR;have c7:(f++T)++cB <+: N:=by
       refine List.IsPrefix.trans ?_ aY;exact⟨if cC then dK else[],by simp only[dY]⟩
      have dt:=af (bQ wc (f++T) E (c+1) bN.o cq.o a8.o aa c7);have dG:=af bR;have aR:=af z;have dD:=af aY;have d4:c+1+l.size<=1000000/\c+1+am+B.size<=1000000:=aa;clear bQ bR z aY c7 Q c0 c1 Z w x db dc d5 ea cs aL dC dJ dx bd ct;generalize l.root s=kl at*;generalize B.root (s+l.size)=kr at*
      go_wp2_with fail
      refine dt.o.mono ?_;rintro e cd ⟨rfl,a6,cU,b2,b4,cL⟩;have cN:¬a6 b:=fun j=>by
       rcases b2 b j with h8|h8
       .exact cq.o h8
       .have:=(aZ.1 a8.o).1;omega
      have c5:¬(E g\/g=b):=fun j=>j.elim cp.o.1 d7;have x2:=((cz b4 d8 c5).1 2).trans x2;have cw:=af cU;have bG:Hid (∀k,a6 k->D k\/W.heap.size<=k):=fun k j=>by
       rcases b2 k j with h8|h8
       .exact a9.o k h8
       .have:=bb.o.size;exact .inr aa
      have bI:Hid (ay (fun k=>D k\/k=b) W cd):=((bb.o.mono (S':=fun k=>(D k\/k=b)\/W.heap.size<=k) (fun k h=>.inl h)).trans (b4.mono fun k j=>by
       rcases j with h8|h8
       .exact(a9.o k h8).imp .inl id
       .exact .inl (.inr h8))).strip
      have ci:=af cL;have dA:=af cN;clear cU b2 b4 cL cN c5 C x1;cases cC with
      |false=>
       have O:Hid (Mv S W D b fr ub y F cb c f r (.returned (.bool false)) cd):=by
        rw[aR.o];simp only[qV,jw,iO,Bool.false_and,dI];refine⟨rfl,a6,?_,bG.o,bI.o,?_⟩
        .have:=cw.o;rwa [dY]at this
        .have:=ci.o;rw[show c+(1+am)=c+1+am by omega];exact this
       go_wp2;go_ret;exact O.o
      |true=>
       have du:=af (dG.o cd (f++T++cB) a6 (c+1+am) cw.o dA.o ci.o d4.2 (by
        have:=dD.o;simp only[gG]at this;simpa only[dY]using this))
       go_wp2_with fail
       refine du.o.mono ?_;rintro e w6 ⟨rfl,dv,cV,cO,cS,cM⟩;have O:Hid (Mv S W D b fr ub y F cb c f r (.returned (.bool dL)) w6):=by
        rw[aR.o];simp only[gG,Bool.true_and];refine⟨rfl,dv,?_,fun k j=>?_,?_,?_⟩
        .simpa only[dY]using cV
        .rcases cO k j with h8|h8
         .exact bG.o k h8
         .have:=bI.o.size;exact .inr aa
        .exact((bI.o.mono (S':=fun k=>(D k\/k=b)\/W.heap.size<=k) (fun k h=>.inl h)).trans (cS.mono fun k j=>by
          rcases j with h8|h8
          .exact(bG.o k h8).imp .inl id
          .exact .inl (.inr h8))).strip
        .rw[show c+(1+am+cD)=c+1+am+cD by omega];exact cM
       clear cV cO cS cM;go_wp2;go_ret;exact O.o
theorem Mw (F:Nat) (cb:Array Value) (more:Bool) (R:List Pt) (h:iI) (cnt:Int) (V:mh) (lo hi tb fb d:Nat) (w0:World) (S:World->List Nat->(Nat->Prop)->Prop) (y:Int) (fr ub:Nat) (n:List Nat)
  (u:O1 F cb more R w0 n S) (p:cZ w0 lo hi tb fb R h cnt V) (q:R.length<=20000) (v:w0.heap.size<=d):
  ∀(t:FT) (s:Nat) (W:World) (b:List Nat) (D:Nat->Prop) (c:Nat),FT.At (aW R.length) t s->t.wf->t.hi<=R.length->gT (zS R) h t s->S W b D->¬D d->W.heap[d]? =some (y8 fr ub y F cb c)->c+t.size<=1000000->
  b++(downG more h (lG R) y fr ub t s).1 <+: n->
  aK 174 #[aj tb,ae (t.root s:Nat),aj d] W (Mv S W D d fr ub y F cb c b (downG more h (lG R) y fr ub t s)):=by
 intro t
 induction t with
 |leaf a=>exact fun s W b D c k j o m hS f g i hF=>Ci F cb more R h cnt V lo hi tb fb d w0 S y fr ub n u p q v _ s W b D c k j o m hS f g i hF (fun l r e=>by cases e)
 |node l r w x=>
  intro s W b D c k j o m hS f g i hF;refine Ci F cb more R h cnt V lo hi tb fb d w0 S y fr ub n u p q v _ s W b D c k j o m hS f g i hF fun l' C e=>?_;cases e;have z:=FT.eZ r j.2.1;have A:=j.2.2;have B:(FT.node l r).hi=r.hi:=rfl;exact⟨fun W b D c hS f g i hF=>w s W b D c k.left j.1 aa m.2.2.1 hS f g i hF,fun W b D c hS f g i hF=>x _ W b D c k.right j.2.1 aa m.2.2.2 hS f g i hF⟩
def AnyS (ob:Nat) (w0:World) (W:World) (acc:List Nat) (D:Nat->Prop):Prop:=
 Below w0.heap.size w0 W/\W.heap[ob]? =some (.cells #[.bool (decide (0<acc.length))] 4 (0,0))/\D=fun k=>k=ob
def TD (ob:Nat) (R:List Pt) (w0:World) (W:World) (acc:List Nat) (D:Nat->Prop):Prop:=
 Below w0.heap.size w0 W/\∃v,W.heap[ob]? =some (.cells #[v] 35 (0,0))/\W.ownsRow w0.heap.size 27 1 v acc.length ((acc.map (jJ R)).map (Value.int .u32))/\D=fun k=>k=ob\/v.ownBlock=some k
theorem O3:fV 154:=bY func154 aM rfl
theorem JD:fV 109:=bY func109 aM rfl
theorem O4 (R:List Pt) (ob:Nat) (w0:World) (n:List Nat) (t:w0.heap.size<=ob):
  O1 154 #[aj ob] false R w0 n (AnyS ob w0) where
 enters:=O3
 base:=fun W c D h=>h.1
 lt:=fun W c D h k f=>by
  obtain⟨d,b,rfl⟩:=h;have:=(aZ.1 b).1;subst f;exact⟨t,this⟩
 jT:=fun W W' c D z h m l=>by
  obtain⟨d,b,rfl⟩:=h;exact⟨d.trans (m.toBelow d.size (fun k f=>(l k f).1)),(m.block ob (aZ.1 b).1 (fun s=>(l ob s).2 rfl)).trans b,rfl⟩
 told:=fun W c D i h hi hF=>by
  obtain⟨d,b,rfl⟩:=h;have q:=af b;have g:=af d;have B:W.frozen? (ag ob 0)=false:=aF b;have A:W.cell? (ag ob 0)=some (.bool (decide (0<c.length))):=aF b;have u:ob<W.heap.size:=(aZ.1 b).1;have j:Hid (∀o v,ay (fun k=>k=ob) W ((W.setCell (ag ob 0) v).alloc o)):=fun o v=>((ay.refl (fun k=>k=ob) W).set (a:=(ag ob 0)) _ (.inl rfl)).alloc _;have r:Hid (∀o,((W.setCell (ag ob 0) (.bool true)).alloc o).heap[ob]? =some (.cells #[.bool (decide (0<(c++[i]).length))] 4 (0,0))):=fun o=>by
   have e:decide (0<(c++[i]).length)=true:=aA;rw[e];exact(bR _ _ _ (aQ u)).trans (di _ ob 0 _ _ _ q.o)
  generalize bS R i=p;have⟨x,y,w⟩:=p;show aK 154 #[iZ x y w,aj ob] W _;go_enter func154,ntmps154;go_wp2;go_ret;exact⟨rfl,_,⟨g.o.trans ((j.o _ _).toBelow g.o.size (fun k h=>aa)),r.o _,rfl⟩,fun k h=>.inl h,j.o _ _⟩
theorem JE (R:List Pt) (ob:Nat) (w0:World) (G:List Nat) (aA:G.length<=1000000) (U:w0.heap.size<=ob):
  O1 109 #[aj ob] true R w0 G (TD ob R w0) where
 enters:=JD
 base:=fun W d D h=>h.1
 lt:=fun W d D h k hk=>by
  obtain⟨m,v,b,c,rfl⟩:=h;rcases hk with rfl|hk
  .exact⟨U,(aZ.1 b).1⟩
  .exact c.lt k hk
 jT:=fun W W' d D av h y x=>by
  obtain⟨m,v,b,c,rfl⟩:=h;exact⟨m.trans (y.toBelow m.size (fun k hk=>(x k hk).1)),v,(y.block ob (aZ.1 b).1 (fun h9=>(x ob h9).2 (.inl rfl))).trans b,aR c y (fun g e h9=>(x g h9).2 (.inr e)),rfl⟩
 told:=fun W d D i h hi hF=>by
  obtain⟨m,v,b,c,rfl⟩:=h;have Q:=hF.length_le;rw[bQ,Ao]at Q;have aq:(bS R i).2.2=jJ R i:=rfl;have ab:Hid ((((d++[i]).map (jJ R)).map (Value.int .u32))=((d.map (jJ R)).map (Value.int .u32))++[.int .u32 (bS R i).2.2]):=by
   show _=_;rw[bL,bL];rfl
  have K:Hid ((d++[i]).length=d.length+1):=by show _=_;simp
  generalize bS R i=p at*;obtain⟨C,E,r⟩:=p;obtain⟨f,j,rfl⟩:=fH c;have V:ob<W.heap.size:=(aZ.1 b).1;obtain⟨n,T⟩:∃n,n=d.length:=⟨_,rfl⟩;rw[<-T]at b c Q K |-;obtain⟨w1,s⟩:∃w1,w1=W.alloc (.cells #[ae C,ae E,au r] 29):=⟨_,rfl⟩;have q:Below W.heap.size W w1:=by rw[s];exact(aJ _ _).alloc (aB _) _
  have Y:w1.heap[W.heap.size]? =some (.cells #[ae C,ae E,au r] 29 (0,0)):=by rw[s];exact bV W _
  have z:=(q.block ob V).trans b;have aw:w1.cell? (ag ob 0)=some (.slice f n j):=aF z;have ax:w1.cell? (ag W.heap.size 2)=some (au r):=aF Y;have ah:Hid (w1.ownsRow w0.heap.size 27 1 (.slice f n j) n ((d.map (jJ R)).map (Value.int .u32))):=ak c q;have ac:=af z;have I:=af q;have H:=af m;have ao:w0.heap.size<=w1.heap.size:=bB m.size q.size;have ar:ob<w1.heap.size:=bX V q.size;have am:=af c.lt;have X:∀l,(Value.slice f n j).ownBlock=some l->ob≠l:=bn c b ai;have L:=af X;clear hF m b c Y z q X T aq;show aK 109 #[iZ C E r,aj ob] W _;go_enter func109,ntmps109
  go_upto_region 1 with fail
  rw[<-s];clear s
  go_upto_region 1 with fail
  have an:Hid (∀(F:Value) (w2:World),w1.grownBy w2 (Value.slice f n j).ownBlock->w2.heap[ob]? =some (.cells #[.slice f n j] 35 (0,0))/\ay (fun k=>k=ob\/(Value.slice f n j).ownBlock=some k) W w2):=fun F w2 t=>by
   have N:ay (fun k=>(Value.slice f n j).ownBlock=some k) w1 w2:=(ay.refl _ _).grown t (fun k hk=>.inl hk);exact⟨(N.block ob ar (fun h=>L.o ob h rfl)).trans ac.o,((ay.refl _ W).below I.o).trans (N.mono fun k h=>.inr h)⟩
  go_wp2_with (at_builtin;refine cu um w0.heap.size ah.o [.int .u32 r] rfl (by simp[Value.oneCell']) rfl _ _ rfl rfl _ rfl dJ aa ao ?_;intro F w2 B t P;have h9:=an.o F w2 t;have ad:=af h9.1;have Z:=af h9.2;have A:=h9.1;have aC:(w2.frozen? (ag ob 0)=false):=(aF A);have az:(w2.cell? (ag ob 0)=some (.slice f n j)):=(aF A);have J:=af P;have al:=af B;obtain⟨u,w,rfl⟩:=fH B;clear h9 A B P t)
  go_ret;have M:=(Z.o.set (a:=(ag ob 0)) (.slice u (n+1) w) (.inl (.inl rfl)));have ap:∀l,(Value.slice u (n+1) w).ownBlock=some l->l≠ob:=fun l e=>by
   rcases J.o with h9|h9
   .exact fun O=>L.o l (h9▸e) O.symm
   .rw[h9]at e;injection e with e;intro O;simp at e;omega
  refine⟨rfl,_,⟨H.o.trans (M.toBelow H.o.size (fun k h=>?_)),.slice u (n+1) w,di _ ob 0 _ _ _ ad.o,?_,rfl⟩,fun k h=>?_,M⟩
  .rcases h with rfl|h
   .exact U
   .exact(am.o k h).1
  .have h9:=aR (S:=fun k=>k=ob) al.o ((ay.refl (fun k=>k=ob) w2).set (a:=(ag ob 0)) (.slice u (n+1) w) (.inl rfl)) ap;rw[K.o,ab.o];exact h9
  .rcases h with rfl|h
   .exact .inl (.inl rfl)
   .rcases J.o with h9|h9
    .exact .inl (.inr (h9▸h))
    .rw[h9]at h;injection h with h;have:=I.o.size;simp at h;right;omega
theorem Rl {more:Bool} {R:List Pt} {h:iI} {x1 x2 y:Int} (a:R.length=0\/x2<x1):kP more R h x1 x2 y=([],0):=by unfold kP;rw[aO a]
theorem Cj (F:Nat) (cb:Array Value) (more:Bool) (R:List Pt) (h:iI) (cnt:Int) (V:mh) (lo hi tb fb:Nat) (w0 W:World) (S:World->List Nat->(Nat->Prop)->Prop) (D:Nat->Prop) (x1 x2 y:Int)
  (z:cZ w0 lo hi tb fb R h cnt V) (I:lS R h) (ao:R.length<=20000) (s:O1 F cb more R w0 (kP more R h x1 x2 y).1 S) (hS:S W [] D):
  aK 108 #[aj tb,ae x1,ae x2,ae y,.func (.func F) #[] cb] W (EZ S W D (kP more R h x1 x2 y)):=by
 have J:=s.base W [] D hS;have l:=z.below J z.fA.2.2.2.2;have aw:=l.FV;have q:=l.blk;obtain⟨a5,a6,U⟩:=fH l.row;obtain⟨ab,ac,X,-,-,K⟩:=Rd.aD l.xs;rw[U,X]at q;have w:(bT R).length=R.length:=by unfold bT;rw[bU]
 rw[w]at q;have aL:W.cell? (ag tb 0)=some (.slice a5 R.length a6):=aF q;have Q:W.cell? (ag tb 1)=some (.slice ab R.length ac):=aF q;have T:W.cell? (ag tb 2)=some (aj fb):=aF q;have P:Hid (∀W',Below W.heap.size W W'->S W' [] D):=fun W' A=>s.jT W W' [] D (fun _=>False) hS ((ay.refl _ W).below A) (fun k h=>h.elim);by_cases v:R.length=0\/x2<x1
 .rw[Rl v];have ak:Hid (EZ S W D ([],0) (.returned (ae 0)) W):=⟨rfl,D,hS,fun k h=>.inl h,ay.refl _ _⟩;clear z I s hS l q J P K U X Q T;generalize R.length=n at*;by_cases b:n=0
  .have d0:((n:Int)==0)=true:=by simp[b]
   have d1:(n==0)=true:=by simp[b]
   have d2:decide (n=0)=true:=by simp[b]
   clear b v w;go_enter func108,ntmps108;go_wp2;go_ret;exact ak.o
  .have d0:((n:Int)==0)=false:=by simp[b]
   have d1:(n==0)=false:=by simp[b]
   have d2:decide (n=0)=false:=by simp[b]
   have f1:decide (x1>x2)=true:=aG;have f2:decide (x2<x1)=true:=aG;clear b v w;go_enter func108,ntmps108;go_wp2;go_ret;exact ak.o
 .have b:0<R.length:=aa;have L:=af (fun W' (A:Below W.heap.size W W')=>EX ab (bT R) ac x1 W' (K.below A) aa);have M:=af (fun W' (A:Below W.heap.size W W')=>EY ab (bT R) ac x2 W' (K.below A) aa);have a3:=gy (fun i=>decide (x1<=(bT R).getD i 0)) (bT R).length;have a4:=gy (fun i=>decide (x2<(bT R).getD i 0)) (bT R).length;have bf:(aV (bT R) x1).2<=20000:=by unfold aV;omega
  have bg:(aT (bT R) x2).2<=20000:=by unfold aT;omega
  obtain⟨ax,a7,a8⟩:=bJ 0 R.length b;have aX:=fu 0 R.length b;have B:Hid (∀a W' c,S W' [] D->¬D a->w0.heap.size<=a->W'.heap[a]? =some (y8 (ji R x1) (l7 R x2) y F cb c)->c<=40000->ji R x1<l7 R x2->
    aK 174 #[aj tb,ae ((2*R.length-2:Nat):Int),aj a] W' (Mv S W' D a (ji R x1) (l7 R x2) y F cb c [] (downG more h (lG R) y (ji R x1) (l7 R x2) (dP 0 R.length) 0))):=fun a W' c aW aU u aY bc r=>by
   have d:=Mw F cb more R h cnt V lo hi tb fb a w0 S y (ji R x1) (l7 R x2) _ s z ao u (dP 0 R.length) 0 W' [] D c (jU _ b) ax aa (I.ok b) aW aU aY aa (by
    unfold kP;rw[aN v,aO r];exact List.prefix_rfl)
   rw[show(dP 0 R.length).root 0=2*R.length-2 by unfold FT.root;omega]at d;exact d
  have bd:=(GV I ao more x1 x2 y).2;have x:Hid (kP more R h x1 x2 y=if ji R x1<l7 R x2 then((downG more h (lG R) y (ji R x1) (l7 R x2) (dP 0 R.length) 0).1,(aV (bT R) x1).2+(aT (bT R) x2).2+(downG more h (lG R) y (ji R x1) (l7 R x2) (dP 0 R.length) 0).2.1)else([],(aV (bT R) x1).2+(aT (bT R) x2).2)):=by
   show kP more R h x1 x2 y=_
   conv=>lhs;unfold kP
   rw[aN v]
  have O:Hid (ji R x1=(aV (bT R) x1).1/\l7 R x2=(aT (bT R) x2).1):=⟨rfl,rfl⟩;rw[<-O.o.1,w]at L;rw[<-O.o.2,w]at M;have C:=af l;have aE:=af (s.lt W [] D hS);have bb:=J.size;have f1:decide (x1>x2)=false:=aG;have f2:decide (x2<x1)=false:=aG;obtain⟨dg,au⟩:∃dg,dg=downG more h (lG R) y (ji R x1) (l7 R x2) (dP 0 R.length) 0:=⟨_,rfl⟩;rw[<-au]at B x;clear z I s hS l q J K U X v a3 a4 ax a7 a8 aX w au;generalize ji R x1=fr at*;generalize l7 R x2=tu at*;generalize a0:(aV (bT R) x1).2=f at*;generalize a1:(aT (bT R) x2).2=g at*;generalize kP more R h x1 x2 y=ask at*;clear a0 a1 O;have aH:Hid (nN W lo fb R.length V.fv):=C.o.iH;have aI:Hid (fb<W.heap.size):=bX C.o.fA.2.2.2.1 C.o.fA.2.2.2.2;clear C;generalize R.length=n at*;have d0:((n:Int)==0)=false:=aG;have d1:(n==0)=false:=aG;have d2:decide (n=0)=false:=aG;go_enter func108,ntmps108
  go_wp2_with fail
  refine(L.o W (aJ _ _)).mono ?_;rintro e w1 ⟨rfl,Y⟩;have aM:=(Y.cell (p:=(ag tb 1)) aw).trans Q;have E:=af Y;clear Y
  go_wp2_with fail
  refine(M.o w1 E.o).mono ?_;rintro e w2 ⟨rfl,aq⟩;have G:Hid (Below W.heap.size W w2):=E.o.trans (aq.mono E.o.size);clear aq aM L M E
  go_upto_region 6 with fail
  obtain⟨w3,H⟩:∃w3,w3=w2.alloc (.cells #[ae fr,ae tu,ae y,.func (.func F) #[] cb,ae ((f+g:Nat):Int)] 250):=⟨_,rfl⟩;have ar:Below w2.heap.size w2 w3:=by rw[H];exact(aJ _ _).alloc (aB _) _
  obtain⟨a,u⟩:∃a,a=w2.heap.size:=⟨_,rfl⟩;have t:w3.heap[a]? =some (y8 fr tu y F cb (f+g)):=by rw[H,u];exact bV w2 _
  have j:Hid (Below W.heap.size W w3):=G.o.trans (ar.mono G.o.size);have a9:W.heap.size<=a:=by rw[u];exact G.o.size
  rw[show w2.alloc (.cells #[ae fr,ae tu,ae y,.func (.func F) #[] cb,ae ((f:Int)+(g:Int))] 250)=w3 by rw[H];rfl,<-u];have ai:=af t;have be:=(j.o.cell (p:=(ag tb 2)) aw).trans T;have ba:a<w3.heap.size:=(aZ.1 t).1;have aC:Hid (¬D a):=fun d=>by have:=(aE.o a d).2;omega
  clear H ar t u G aL Q T;by_cases r:fr<tu
  .have aQ:decide ((fr:Int)<(tu:Int))=true:=aG;have aR:decide (fr<tu)=true:=aG;have m:=x.o;rw[aO r]at m;have aA:=af m;have av:=aH.o.blk;have Z:=(j.o.block fb aI.o).trans av;have ah:=af (jA fb n b aa w3 (aF Z) (aF Z));have ad:=af (B.o a w3 (f+g) (P.o w3 j.o) aC.o aa ai.o aa r);clear m r Z av B x
   go_wp2_with fail
   refine ah.o.mono ?_;rintro e w' ⟨rfl,aP⟩;subst aP
   go_wp2_with fail
   refine ad.o.mono ?_;rintro e w4 ⟨rfl,az,ap,am,an,al⟩;have a2:w4.cell? (ag a 4)=some (ae ((f+g+dg.2.1:Nat):Int)):=aF al;have N:Hid (EZ S W D ask (.returned (ae ((f+g+dg.2.1:Nat):Int))) w4):=by
    rw[aA.o];refine⟨rfl,az,ap,fun k d=>(am k d).imp id fun aS=>by have:=j.o.size;omega,?_⟩;exact(((ay.refl (fun k=>D k\/W.heap.size<=k) W).below j.o).trans (an.mono fun k d=>d.imp id fun aS=>aa)).strip
   clear ap am an al ad ah;go_wp2;go_ret;exact N.o
  .have aQ:decide ((fr:Int)<(tu:Int))=false:=aG;have aR:decide (fr<tu)=false:=aG;have m:=x.o;rw[aN r]at m;have N:Hid (EZ S W D ask (.returned (ae ((f+g:Nat):Int))) w3):=by
    rw[m];exact⟨rfl,D,P.o w3 j.o,fun k h=>.inl h,(ay.refl _ W).below j.o⟩
   have t:=ai.o;have a2:w3.cell? (ag a 4)=some (ae ((f+g:Nat):Int)):=aF t;clear m r t B x;go_wp2;go_ret;exact N.o
def VL (w:World) (R:List Pt) (r:List Nat×Nat) (e:Ending) (w':World):Prop:=
 ∃v,e=.returned (.tuple #[v,ae (r.2:Nat)])/\w'.ownsRow w.heap.size 27 1 v r.1.length ((eu (r.1.map (jJ R))).map (Value.int .u32))/\Below w.heap.size w w'
theorem JF {w:World} {lo hi tb fb:Nat} {R:List Pt} {h:iI} {cnt:Int} {V:mh} (x:cZ w lo hi tb fb R h cnt V) (j:lS R h) (i:R.length<=20000) (x1 x2 y:Int):
  aK 41 #[aj tb,ae x1,ae x2,ae y] w (VL w R (kP true R h x1 x2 y)):=by
 obtain⟨w1,c⟩:∃w1,w1=w.alloc (.cells #[aL] 35):=⟨_,rfl⟩;have z:Below w.heap.size w w1:=by rw[c];exact(aJ _ _).alloc (aB _) _
 have B:w1.heap[w.heap.size]? =some (.cells #[aL] 35 (0,0)):=by rw[c];exact bV w _
 have hS:TD w.heap.size R w w1 [] (fun k=>k=w.heap.size\/(aL).ownBlock=some k):=⟨z,aL,B,dA _ _ _ _,rfl⟩;have⟨N,M⟩:=GV j i true x1 x2 y;have m:=Cj 109 #[aj w.heap.size] true R h cnt V lo hi tb fb w w1 (TD w.heap.size R w) _ x1 x2 y x j i
  (JE R w.heap.size w _ aa (aB _)) hS
 generalize kP true R h x1 x2 y=r at*;have p:=af m;have O:r.1.length<=40000:=aa;go_enter func41,ntmps41
 go_wp2_with fail
 rw[<-c];refine p.o.mono ?_;rintro e w2 ⟨rfl,I,⟨A,v,a,b,rfl⟩,K,L⟩;have s:=af b;have d:=af A;have J:=af a;have F:w2.cell? (ag w.heap.size 0)=some v:=aF a;have E:∀f,v.ownBlock=some f->w.heap.size≠f:=bn b a ai;have u:=af E;have C:=(aZ.1 a).1;have n:=af (zW (l:=r.1.map (jJ R)) b aa);obtain⟨G,H,rfl⟩:=fH b
 go_wp2_with fail
 refine n.o.mono ?_;rintro e w3 ⟨rfl,D,g⟩;have t:=af D;have P:w3.cell? (ag w.heap.size 0)=some (.slice G r.1.length H):=((cz g C (fun h=>u.o _ h rfl)).1 0).trans F;have q:Hid (Below w.heap.size w w3):=d.o.trans (g.toBelow d.o.size (fun k h=>(s.o.lt k h).1));go_wp2;go_ret2;exact⟨_,rfl,t.o,q.o⟩
theorem O5 {w:World} {lo hi tb fb:Nat} {R:List Pt} {h:iI} {cnt:Int} {V:mh} (l:cZ w lo hi tb fb R h cnt V) (n:lS R h) (m:R.length<=20000) (x1 x2 y:Int):
  aK 75 #[aj tb,ae x1,ae x2,ae y] w fun e w'=>
   e=.returned (.tuple #[.bool (decide (0<(kP false R h x1 x2 y).1.length)),ae (kP false R h x1 x2 y).2])/\Below w.heap.size w w':=by
 obtain⟨w1,b⟩:∃w1,w1=w.alloc (.cells #[.bool false] 4):=⟨_,rfl⟩;have p:Below w.heap.size w w1:=by rw[b];exact(aJ _ _).alloc (aB _) _
 have s:w1.heap[w.heap.size]? =some (.cells #[.bool false] 4 (0,0)):=by rw[b];exact bV w _
 have hS:AnyS w.heap.size w w1 [] (fun k=>k=w.heap.size):=⟨p,s,rfl⟩;have f:=Cj 154 #[aj w.heap.size] false R h cnt V lo hi tb fb w w1 (AnyS w.heap.size w) _ x1 x2 y l n m
  (O4 R w.heap.size w _ (aB _)) hS
 generalize kP false R h x1 x2 y=r at*;have j:=af f;go_enter func75,ntmps75
 go_wp2_with fail
 rw[<-b];refine j.o.mono ?_;rintro e w2 ⟨rfl,t,⟨q,d,rfl⟩,u,v⟩;have g:=af q;obtain⟨a,c⟩:∃a,a=decide (0<r.1.length):=⟨_,rfl⟩;rw[<-c]at d;have i:=af c;have x:w2.cell? (ag w.heap.size 0)=some (.bool a):=aF d;go_wp2;go_ret2;rw[<-i.o];exact⟨rfl,g.o⟩
theorem O6 (p q:Pt) (w:World):aK 71 #[iZ p.1 p.2.1 p.2.2,iZ q.1 q.2.1 q.2.2] w (gm w (ae (og p q))):=
 (Tf p q w).mono fun e w' ⟨a,b⟩=>⟨a,b.below (aB _)⟩
def Dg (lb:Nat->Nat->Bool) (h:iI):FT->Nat->Int
 |.leaf _,_=>-1
 |.node l r,s=>match h (l.root s),h (r.root (s+l.size))with
  |none,none=>-1
  |some _,none=>(l.root s:Nat)
  |none,some _=>(r.root (s+l.size):Nat)
  |some i,some j=>if lb i j then(l.root s:Nat)else(r.root (s+l.size):Nat)
theorem G8 {w:World} {lo hi tb fb:Nat} {cnt:Int} {R:List Pt} {h:iI} {V:mh} (H:cZ w lo hi tb fb R h cnt V) (be:R.length<=20000) {t:FT} {s:Nat} (D:FT.At (aW R.length) t s) (F:∀k i,k<(aW R.length).length->h k=some i->i<R.length):
  aK 195 #[aj tb,ae (t.root s:Nat)] w (gm w (ae (Dg (De R) h t s))):=by
 have aU:=D.lt;have bd:(aW R.length).length<=40000:=by rw[dh];omega
 have an:0<R.length:=by have:=dh R.length;omega
 obtain⟨ba,off,cn,env,a3⟩:=H.nodes an;obtain⟨J,ch,aH,-,-,-,-,ap,aQ,-⟩:=H.holds an;obtain⟨a1,a2,aL,-,-,a4⟩:=bW.aD bg ai H.row;have E:=H.blk;rw[env,aH,aL]at E;have av:=H.FV;obtain⟨bJ,n0,bn,bo,bp,bq,br,bs⟩:=mX a3 D.get;have al:w.cell? (ag tb 0)=some (.slice a1 R.length a2):=aF E;have a8:w.cell? (ag tb 3)=some (.slice (some (ag ba off)) (aW R.length).length cn):=aF E;have am:w.cell? (ag tb 4)=some (az J (aW R.length).length ch):=aF E;have ac:=af aQ;have a7:=af a4;have ad:=af F;obtain⟨M,ao⟩:∃M,M=(aW R.length).length:=⟨_,rfl⟩;obtain⟨z,ar⟩:∃z,z=R.length:=⟨_,rfl⟩;obtain⟨K,aP⟩:∃K,K=t.root s:=⟨_,rfl⟩;rw[<-ao]at a8 am bd aU;rw[<-ar]at al be an;rw[<-aP]at n0 bn bo bp bq br bs aU |-;have ak:Hid (M=(aW R.length).length/\z=R.length):=⟨ao,ar⟩;obtain⟨w1,v⟩:∃w1,w1=w.alloc (.cells #[.int .u8 (t.top s).kind,ae (t.top s).l,ae (t.top s).r,ae (t.top s).fr,ae (t.top s).Kj,ae 0,ae (t.top s).item] 163):=⟨_,rfl⟩;have L:Below w.heap.size w w1:=by rw[v];exact(aJ _ _).alloc (aB _) _
 have G:w1.heap[w.heap.size]? =some (.cells #[.int .u8 (t.top s).kind,ae (t.top s).l,ae (t.top s).r,ae (t.top s).fr,ae (t.top s).Kj,ae 0,ae (t.top s).item] 163 (0,0)):=by rw[v];exact bV w _
 have bP:w1.cell? (ag w.heap.size 0)=some (.int .u8 (t.top s).kind):=aF G;have x1:w1.cell? (ag w.heap.size 1)=some (ae (t.top s).l):=aF G;have x2:w1.cell? (ag w.heap.size 2)=some (ae (t.top s).r):=aF G;have A:=af L;have S:=(L.cell (p:=(ag tb 0)) av).trans al;have aw:=(L.cell (p:=(ag tb 4)) av).trans am;have y:w.heap.size<w1.heap.size:=(aZ.1 G).1;have aY:tb<w1.heap.size:=vw av y;have bI:J<w1.heap.size:=vw ap y;clear aQ a4 F ao ar E env aH aL a3 L G aP;cases t with
 |leaf a=>
  have d1:(((FT.leaf a).top s).kind !=(2:Int))=true:=rfl;clear x1 x2 S aw al am;generalize(FT.leaf a).top s=d at*;go_enter func195,ntmps195
  go_upto_region 2 with fail
  rw[<-v];clear v;go_wp2;go_ret;exact⟨rfl,A.o⟩
 |node l r=>
  have d1:(((FT.node l r).top s).kind !=(2:Int))=false:=rfl;have aq:=D.left.lt;have au:=D.right.lt;have aR:((FT.node l r).top s).l=((l.root s:Nat):Int):=by show((s+l.size:Nat):Int)-1=_;unfold FT.root;have:=l.size_pos;omega
  have aT:((FT.node l r).top s).r=((r.root (s+l.size):Nat):Int):=by show((s+l.size+r.size:Nat):Int)-1=_;unfold FT.root;have:=r.size_pos;omega
  rw[aR]at x1;rw[aT]at x2;have B:=(A.o.cell (p:=(ag J (l.root s))) ap).trans (ac.o _ aq).1;have C:=(A.o.cell (p:=(ag J (r.root (s+l.size)))) ap).trans (ac.o _ au).1;have aG:Hid (∀g f,h (l.root s)=g->h (r.root (s+l.size))=f->Dg (De R) h (.node l r) s=match g,f with|none,none=>-1|some _,none=>(l.root s:Nat)|none,some _=>(r.root (s+l.size):Nat)|some i,some j=>if De R i j then(l.root s:Nat)else(r.root (s+l.size):Nat)):=fun g f bb bc=>by subst bb bc;rfl
  have aV:=aq;have aX:=au;rw[<-ak.o.1]at aq au;obtain⟨g,O⟩:∃g,g=h (l.root s):=⟨_,rfl⟩;obtain⟨f,P⟩:∃f,f=h (r.root (s+l.size)):=⟨_,rfl⟩;have I:=af (aG.o g f O.symm P.symm);have aA:Hid (∀i,g=some i->i<R.length):=fun i e=>ad.o _ i aV (O▸e);have aC:Hid (∀i,f=some i->i<R.length):=fun i e=>ad.o _ i aX (P▸e);rw[<-O]at B;rw[<-P]at C;clear aR aT aG O P ad ac D aV aX;generalize Dg (De R) h (.node l r) s=res at*;generalize(FT.node l r).top s=d at*;generalize l.root s=kl at*;generalize r.root (s+l.size)=kr at*;have bB:=ah aw;have bC:=ah x1;have bD:=ah x2;have bE:=ah B;have bF:=ah C;go_enter func195,ntmps195
  go_upto_region 2 with fail
  rw[<-v];clear v
  go_upto_region 4 with fail
  refine ax (fun W=>∃p:aS w1,W=p.W) [17] [(0,false),(1,false),(2,false),(3,true),(4,false),(5,true),(6,false),(7,true),(8,false),(9,false),(10,false),(11,true),(12,false),(13,true),(14,false),(15,true),(16,false)] ⟨⟨_,(aJ _ _).drew⟩,rfl⟩ 1 ?_;refine aI [17] ?_;have m:Hid (Below w.heap.size w w1.drew):=A.o.drew;have S:w1.drew.cell? (ag tb 0)=some (.slice a1 z a2):=S;have x1:w1.drew.cell? (ag w.heap.size 1)=some (ae kl):=x1;have x2:w1.drew.cell? (ag w.heap.size 2)=some (ae kr):=x2;have y:w.heap.size<w1.drew.heap.size:=y;have aY:tb<w1.drew.heap.size:=aY;clear bB bC bD bE bF aw B C A;generalize w1.drew=w2 at*;cases g with
  |none=>
   cases f with
   |none=>
    simp only[oq];have c:=I.o;simp only at c;subst c;go_wp2;go_ret;exact⟨rfl,m.o⟩
   |some j=>
    simp only[oq];have c:=I.o;simp only at c;subst c;have B:((j:Int)==-1)=false:=by first|(simp;done)|(simp;omega)
    have C:decide ((j:Int)=-1)=false:=by first|(simp;done)|(simp;omega)
    have ab:Hid (∀n,Below w.heap.size w (w2.drewN n)):=fun n=>m.o.trans ((Below.bu _ n).mono m.o.size)
    go_upto_region 7 with fail
    go_quiet (fail)
    go_wp2;go_ret;exact⟨rfl,ab.o _⟩
  |some i=>
   have B:((i:Int)==-1)=false:=by first|(simp;done)|(simp;omega)
   have C:decide ((i:Int)=-1)=false:=by first|(simp;done)|(simp;omega)
   have bG:((i:Int)!=-1)=true:=by first|(simp;done)|(simp;omega)
   cases f with
   |none=>
    simp only[oq];have c:=I.o;simp only at c;subst c;have ab:Hid (∀n,Below w.heap.size w (w2.drewN n)):=fun n=>m.o.trans ((Below.bu _ n).mono m.o.size)
    go_upto_region 7 with fail
    go_quiet (fail)
    go_wp2;go_ret;exact⟨rfl,ab.o _⟩
   |some j=>
    have f1:((j:Int)==-1)=false:=by first|(simp;done)|(simp;omega)
    have f2:decide ((j:Int)=-1)=false:=by first|(simp;done)|(simp;omega)
    simp only[oq];have hi:=aA.o i rfl;have x:=aC.o j rfl;obtain⟨bN,bO,a9,bM,u⟩:=(a7.o.below m.o).get aa;have T:=u i hi 0 aa;have U:=u i hi 1 aa;have X:=u i hi 2 aa;have Y:=u j x 0 aa;have v1:=u j x 1 aa;have Z:=u j x 2 aa;simp only[dw,fI,dz,dI]at T U X Y v1 Z;rw[<-dE hi]at T U X;rw[<-dE x]at Y v1 Z;subst a9;have aE:Hid (De R i j=decide (og (bS R i) (bS R j)<0)):=by
     show _=_;unfold De;rw[mP,qC]
    have bK:i<z:=by rw[ak.o.2];exact hi
    have bL:j<z:=by rw[ak.o.2];exact x
    have c:=I.o;simp only at c;rw[aE.o]at c;clear u hi x aE aA aC;generalize bS R i=p at*;generalize bS R j=q at*;have a5:=af (fun W=>O6 p q W);generalize og p q=Q at*;obtain⟨bv,bw,bt⟩:=p;obtain⟨bz,bA,bx⟩:=q;simp only at T U X Y v1 Z;have a6:Hid (∀b:aS w2,aK 71 #[iZ bv bw bt,iZ bz bA bx] b.W fun e w'=>e=.returned (ae Q)/\Below b.W.heap.size b.W w'):=fun b=>a5.o b.W;have bf:=ah S;have bh:=ah T;have bi:=ah U;have bj:=ah X;have bk:=ah Y;have bl:=ah v1;have bm:=ah Z
    go_upto_region 7 with fail
    refine bH aM aM ?_
    repeat(quiet_step ((go_at_call 71;exact dM (a6.o _))))
    refine jN ?_;intro w4 a0;have N:Below w2.heap.size w2 w4:=by obtain⟨b,rfl⟩:=a0;exact b.h
    have x1:=(N.cell (p:=(ag w.heap.size 1)) y).trans x1;have x2:=(N.cell (p:=(ag w.heap.size 2)) y).trans x2;have ay:Hid (Below w.heap.size w w4):=m.o.trans (N.mono m.o.size);clear a0 N bf bh bi bj bk bl bm;by_cases F:Q<0
    .have d1:decide (Q<0)=true:=by simp[F]
     rw[d1,aO rfl]at c;subst c;go_wp2;go_ret;exact⟨rfl,ay.o⟩
    .have d1:decide (Q<0)=false:=by simp[F]
     rw[d1,aN ai]at c;subst c;go_wp2;go_ret;exact⟨rfl,ay.o⟩
theorem Mx {lb:Nat->Nat->Bool} {N:List Nd} {t:FT} {s:Nat} {h:iI} (d:FT.At N t s):
  (Dg lb h t s=-1/\pullH lb t s h=gB h (t.root s) none)\/
  ∃t2 e i,Dg lb h t s=((t2.root e:Nat):Int)/\FT.At N t2 e/\t2.size<t.size/\h (t2.root e)=some i/\pullH lb t s h=pullH lb t2 e (gB h (t.root s) (some i)):=by
 cases t with
 |leaf a=>exact .inl ⟨rfl,rfl⟩
 |node l r=>
  have g:(FT.node l r).size=l.size+r.size+1:=rfl;have pl:=l.size_pos;have k:=r.size_pos;cases c:h (l.root s)with
  |none=>
   cases b:h (r.root (s+l.size))with
   |none=>left;simp only[Dg,pullH];rw[c,b];exact⟨rfl,rfl⟩
   |some j=>right;refine⟨r,s+l.size,j,?_,d.right,aa,b,?_⟩<;>simp only[Dg,pullH]<;>rw[c,b]
  |some i=>
   cases b:h (r.root (s+l.size))with
   |none=>right;refine⟨l,s,i,?_,d.left,aa,c,?_⟩<;>simp only[Dg,pullH]<;>rw[c,b]
   |some j=>
    right;cases f:lb i j with
    |true=>refine⟨l,s,i,?_,d.left,aa,c,?_⟩<;>simp only[Dg,pullH]<;>rw[c,b]<;>simp[f]
    |false=>refine⟨r,s+l.size,j,?_,d.right,aa,b,?_⟩<;>simp only[Dg,pullH]<;>rw[c,b]<;>simp[f]
theorem JG:fV 194:=bY func194 aM rfl
theorem JH {w:World} {lo hi tb fb:Nat} {R:List Pt} {h:iI} {cnt:Int} {V:mh} (H:cZ w lo hi tb fb R h cnt V) (tc ac x k:Nat) (t:w.cell? (ag tc 0)=some (aj tb)) (r:w.cell? (ag ac 0)=some (ae x)) (j:k<(aW R.length).length) (q:R.length<=20000):
  aK 194 #[ae k,aj tc,aj ac] w (gm w (.bool (decide (h k=some x)))):=by
 have i:0<R.length:=by have:=dh R.length;omega
 have p:(aW R.length).length<=40000:=by rw[dh];omega
 obtain⟨g,ch,d,-,-,-,-,s,e,-⟩:=H.holds i;have b:=H.blk;rw[d]at b;have l:w.cell? (ag tb 4)=some (az g (aW R.length).length ch):=aF b;have m:=(e k j).1;have f:decide (h k=some x)=decide (oq (h k)=(x:Int)):=by rw[mP,Rk]
 rw[f];have c:Hid (∀n,Below w.heap.size w (w.drewN n)):=fun n=>Below.bu _ _;clear e b d H f;generalize(aW R.length).length=M at*;generalize oq (h k)=v at*;go_enter func194,ntmps194
 go_upto_region 1 with fail
 by_cases a:v=x
 .have d1:(v==(x:Int))=true:=by simp[a]
  have d2:decide (v=(x:Int))=true:=by simp[a]
  clear a
  go_quiet (fail)
  go_wp2;go_ret;rw[d2];exact⟨rfl,c.o _⟩
 .have d1:(v==(x:Int))=false:=by simp[a]
  have d2:decide (v=(x:Int))=false:=by simp[a]
  clear a
  go_quiet (fail)
  go_wp2;go_ret;rw[d2];exact⟨rfl,c.o _⟩
def UT (w:World) (h:iI) (x:Nat) (P:List Nat) (e:Ending) (w':World):Prop:=
 ∃r:Int,e=.returned (ae r)/\Below w.heap.size w w'/\((r=-1/\∀k∈P,h k≠some x)\/∃j k:Nat,r=j/\P[j]? =some k/\h k=some x/\∀i<j,∀k',P[i]? =some k'->h k'≠some x)
theorem O7 {w:World} {lo hi tb fb:Nat} {R:List Pt} {h:iI} {cnt:Int} {V:mh} (H:cZ w lo hi tb fb R h cnt V) (K:R.length<=20000) (tc ac x:Nat) (u:w.cell? (ag tc 0)=some (aj tb)) (m:w.cell? (ag ac 0)=some (ae x))
  (P:List Nat) (hP:∀k∈P,k<(aW R.length).length) (F:Option Addr) (N:Nat) (hp:Rd fE w F P) (L:P.length<=40000):
  aK 193 #[.slice F P.length N,.func (.func 194) #[] #[aj tc,aj ac]] w (UT w h x P):=by
 have E:=gX w _ u;have B:=gX w _ m;simp only at E B;have G:Hid (∀W k,Below w.heap.size w W->k∈P->aK 194 #[ae k,aj tc,aj ac] W (gm W (.bool (decide (h k=some x))))):=fun W k q s=>
  JH (H.below q H.fA.2.2.2.2) tc ac x k ((q.cell (p:=(ag tc 0)) E).trans u) ((q.cell (p:=(ag ac 0)) B).trans m) (hP k s) K
 have J:=af hp;have S:=JG;clear H hp hP u m;unfold UT;obtain⟨n,t⟩:∃n,n=P.length:=⟨_,rfl⟩;have z:=af t;rw[<-t]at L |-;clear t;go_enter func193,ntmps193;go_wp2
 go_loopg [8] n (fun M O wr=>∃j:Nat,O=.int .i64 j/\j<=n/\n-j<=M/\Hid (Below w.heap.size w wr)/\Hid (∀i<j,∀k',P[i]? =some k'->h k'≠some x))
 case atStart=>exact⟨0,rfl,aY _,aa,aJ _ _,fun i hi=>absurd hi (kC _)⟩
 case round=>
  obtain⟨j,rfl,U,X,a,g⟩:=hrel;by_cases Y:j<n
  .have f:j<P.length:=by have:=z.o;omega
   obtain⟨b,off,A,T,C⟩:=(J.o.below a.o).get aa;have Q:=C j f;simp only[fE]at Q;have d:=af (G.o wr P[j] a.o (bF f));have y:Hid (P[j]? =some P[j]):=bZ f;have v:=af A;clear C A;generalize P[j]=k at*;obtain rfl:=v.o;clear v f;by_cases c:h k=some x
   .have hd:decide (h k=some x)=true:=by simp[c]
    rw[hd]at d;have l:=af c;clear hd c
    go_wp2_with (go_at_fn 194;refine d.o.mono ?_;rintro e w' ⟨rfl,r⟩)
    go_ret;exact⟨_,rfl,a.o.trans (r.mono a.o.size),.inr ⟨j,k,rfl,y.o,l.o,g.o⟩⟩
   .have hd:decide (h k=some x)=false:=by simp[c]
    rw[hd]at d;have l:=af c;clear hd c
    go_wp2_with (go_at_fn 194;refine d.o.mono ?_;rintro e w' ⟨rfl,r⟩)
    go_roundg (n-(j+1))
    case measure=>omega
    case rel=>
     refine⟨j+1,by go_num,aa,aB _,a.o.trans (r.mono a.o.size),fun i hi k' D=>?_⟩;by_cases e:i=j
     .subst e;have:=y.o;rw[D]at this;injection this with this;rw[this];exact l.o
     .exact g.o i aa k' D
  .obtain rfl:j=n:=aa;have I:Hid (∀k∈P,h k≠some x):=fun k s=>by
    obtain⟨i,hi,rfl⟩:=jk s;exact g.o i (by have:=z.o;omega) _ (bZ hi)
   go_wp2;go_ret;exact⟨_,rfl,a.o,.inl ⟨rfl,I.o⟩⟩
theorem G9:fV 191:=bY func191 aM rfl
theorem O8:fV 192:=bY func192 aM rfl
def Ck (w:World) (tb:Nat) (px py pi:Int):World:=(w.alloc (.cells #[aj tb] 87)).alloc (.cells #[ae px,ae py,au pi] 29)
theorem Ha (w:World) (tb:Nat) (b c a:Int):Below w.heap.size w (Ck w tb b c a)/\(Ck w tb b c a).heap[w.heap.size]? =some (.cells #[aj tb] 87 (0,0))/\(Ck w tb b c a).heap[w.heap.size+1]? =some (.cells #[ae b,ae c,au a] 29 (0,0))/\(Ck w tb b c a).heap.size=w.heap.size+2:=
 ⟨((aJ _ _).alloc (aB _) _).alloc aA _,F4 w _ _,CV w _ _,by simp[Ck]⟩
theorem Cm {h:iI}:∀{t:FT} {s:Nat},∀p∈t.subs s,∀i∈held h p.1 p.2,i∈held h t s
 |.leaf a,s,p,hp,i,hi=>by
  have:p=(.leaf a,s):=by simpa[FT.subs]using hp
  subst this;exact hi
 |.node l r,s,p,hp,i,hi=>by
  simp only[FT.subs,bP,lY]at hp;simp only[held,bP];rcases hp with(hp|hp)|hp
  .exact .inr (.inl (Cm p hp i hi))
  .exact .inr (.inr (Cm p hp i hi))
  .subst hp;simpa only[held,bP]using hi
def JI (w:World) (lo hi tb fb:Nat) (R:List Pt) (h:iI) (cnt:Int) (V:mh) (x:Nat) (e:Ending) (w':World):Prop:=
 (x∉oo R h/\e=.returned (.bool false)/\Below w.heap.size w w')\/(x∈oo R h/\e=.returned (.bool true)/\cZ w' lo hi tb fb R (Df R x h) (cnt-1) V/\ay (fun k=>lo<=k/\k<hi) w w')
theorem FC {w:World} {lo hi tb fb:Nat} {R:List Pt} {h:iI} {cnt:Int} {V:mh} (Y:cZ w lo hi tb fb R h cnt V) (bs:lS R h) (dh:R.length<=20000) (dR:0<=cnt) (dS:cnt<=20000) {x:Nat} (aY:x<R.length) (p:Pt) (hp:R[x]=p):
  aK 126 #[aj tb,iZ p.1 p.2.1 p.2.2] w (JI w lo hi tb fb R h cnt V x):=by
 have O:=Y.blk;have dx:=Y.FV;have b8:=Y.fA;obtain⟨a5,a6,bP,-,-,b5⟩:=bW.aD bg ai Y.row;rw[bP]at O;have CB:=af (fun W (O:Below w.heap.size w W)=>OG a5 R R.length a6 p W rfl aa (b5.below O) bs.Bj);have bv:=Fq bs.Bj aY;rw[hp]at bv;rw[bv.1,bv.2]at CB;have c6:=af b5;have cJ:bS R x=p:=by rw[dE aY];exact hp
 have c4:=af cJ;have bi:=af aY;have dH:=af bP;obtain⟨an,ao,am⟩:=p;obtain⟨bt,b7,aV,cK⟩:=Ha w tb an ao am;obtain⟨w1,bl⟩:∃w1,w1=Ck w tb an ao am:=⟨_,rfl⟩;rw[<-bl]at bt b7 aV cK;unfold Ck at bl;have cG:=(bt.block tb dx).trans O;have aL:w1.cell? (ag tb 0)=some (.slice a5 R.length a6):=aF cG;have t0:w1.cell? (ag w.heap.size 0)=some (aj tb):=aF b7;have a0:w1.cell? (ag (w.heap.size+1) 0)=some (ae an):=aF aV;have a1:w1.cell? (ag (w.heap.size+1) 1)=some (ae ao):=aF aV;have a2:w1.cell? (ag (w.heap.size+1) 2)=some (au am):=aF aV;have al:0<R.length:=aa;have cM:=aY;obtain⟨n,b4⟩:∃n,n=R.length:=⟨_,rfl⟩;rw[<-b4]at dh aL CB al cM;have l:=af b4;have a9:=af bt;have ck:=af Y;have cs:=af bs;have cL:tb<w1.heap.size:=aa;have ca:w.heap.size<w1.heap.size:=aa;have bA:w.heap.size+1<w1.heap.size:=aa;clear Y b5 O bP b4 bt b7 aV cG cK bv hp aY bs cJ;have d0:((n:Int)==0)=false:=aG;have d1:(n==0)=false:=aG;have d2:decide (n=0)=false:=aG;obtain⟨tc,b9⟩:∃tc,tc=w.heap.size:=⟨_,rfl⟩;have cr:=af b9;go_enter func126,ntmps126
 go_upto_region 1 with fail
 rw[<-bl];clear bl;rw[<-b9]at t0 a0 a1 a2 ca bA |-;clear b9
 go_upto_region 3 with fail
 have cl:Hid (∀b:aS w1,aK 191 #[.slice a5 n a6,iZ an ao am,.func (.func 94) #[] #[]] b.W fun e w'=>e=.returned (.tuple #[ae (x:Nat),.bool true])/\Below b.W.heap.size b.W w'):=fun b=>CB.o b.W (a9.o.trans (b.h.mono a9.o.size));clear CB
 go_cut [5,6]from 5 (fun dD dF cR=>∃z:Nat,dD=aj z/\dF=.bool true/\Hid (Below w1.heap.size w1 cR)/\Hid (cR.heap[z]? =some (.cells #[ae (x:Nat)] 3 (0,0))))
 case first=>
  have bo:=ah aL;have bp:=ah t0;have bq:=ah a0;have dM:=ah a1;have dN:=ah a2;refine ax (fun W=>∃p:aS w1,W=p.W) [11] [(0,true),(1,false),(2,false),(3,true),(4,true)] ⟨⟨_,(aJ _ _).drew⟩,rfl⟩ 7 ?_;have C:Below w1.heap.size w1 w1.drew:=(aJ _ _).drew;refine iU 5 9 rfl rfl (fun K c=>?_) (fun K c=>?_)
  .refine bf G9 rfl _ _ rfl (vals:=#[.slice a5 n a6,iZ an ao am,.func (.func 94) #[] #[]]) rfl (cl.o ⟨w1.drew,C⟩) ?_;rintro e w3 ⟨rfl,A⟩;have f:Below w1.heap.size w1 w3:=C.trans A;refine⟨_,rfl,c _ _ (fun _ _=>⟨⟨_,f⟩,rfl⟩) ?_⟩;clear c K;refine bz [(6,false),(7,false),(8,false)] ⟨⟨_,f⟩,rfl⟩ rfl ?_;have av:Hid (Below w1.heap.size w1 (w3.alloc (.cells #[ae (x:Nat)] 3))):=f.alloc f.size _;have bM:=af (bV w3 (.cells #[ae (x:Nat)] 3));refine aH 9 rfl fun K c=>?_;go_simp;refine c _ _ (fun _ _=>⟨⟨_,f.alloc f.size _⟩,rfl⟩) ?_;clear c K;refine aH 10 rfl fun K c=>?_;go_simp;refine c _ _ (fun _ _=>⟨⟨_,av.o⟩,rfl⟩) ?_;clear c K;refine aI [11] ?_;clear f A;go_wp2;go_meet;exact⟨_,rfl,rfl,av.o,bM.o⟩
  .obtain⟨w2,bm⟩:∃w2,w2=(w1.alloc (.cells #[ae 0] 3)).drew:=⟨_,rfl⟩;have aO:Below w1.heap.size w1 w2:=by rw[bm];exact((aJ _ _).alloc (aB _) _).drew
   have cc:w2.heap[w1.heap.size]? =some (.cells #[ae 0] 3 (0,0)):=by rw[bm];exact bV w1 _
   go_simp;rw[<-bm];clear bm;refine c _ _ (fun _ _=>⟨⟨_,aO⟩,rfl⟩) ?_;clear c K;refine aH 5 rfl fun K c=>?_;refine bf G9 rfl _ _ rfl (vals:=#[.slice a5 n a6,iZ an ao am,.func (.func 94) #[] #[]]) rfl (cl.o ⟨w2,aO⟩) ?_;rintro e w3 ⟨rfl,A⟩;have f:Below w1.heap.size w1 w3:=aO.trans (A.mono aO.size);have bE:=(A.block _ (aZ.1 cc).1).trans cc;refine⟨_,rfl,c _ _ (fun _ _=>⟨⟨_,f⟩,rfl⟩) ?_⟩;clear c K;refine bz [(6,false),(7,false),(8,false)] ⟨⟨_,f⟩,rfl⟩ rfl ?_;have ap:w3.cell? (ag w1.heap.size 0)=some (ae 0):=aF bE;have aq:w3.frozen? (ag w1.heap.size 0)=false:=aF bE;have av:Hid (Below w1.heap.size w1 (w3.setCell (ag w1.heap.size 0) (.int .i64 (x:Nat)))):=⟨f.os,f.tape,f.output,aQ f.size,fun b O=>(aC (show w1.heap.size≠b by omega)).trans (f.block b O)⟩;have bM:Hid ((w3.setCell (ag w1.heap.size 0) (.int .i64 (x:Nat))).heap[w1.heap.size]? =some (.cells #[ae (x:Nat)] 3 (0,0))):=di w3 _ 0 _ _ _ bE;refine aH 10 rfl fun K c=>?_;go_simp;refine c _ _ (fun _ _=>⟨⟨_,av.o⟩,rfl⟩) ?_;clear c K;refine aI [11] ?_;clear f A aO cc bE ap aq;go_wp2;go_meet;exact⟨_,rfl,rfl,av.o,bM.o⟩
 case rest=>
  obtain⟨z,rfl,rfl,cW,cV⟩:=hcut;have bR:=cV.o;have D:=cW.o;have ar:Hid (Below w.heap.size w wc):=a9.o.trans (D.mono a9.o.size);have J:wc.cell? (ag z 0)=some (ae (x:Nat)):=aF bR;have Z:z<wc.heap.size:=(aZ.1 bR).1;have aL:=(D.cell (p:=(ag tb 0)) cL).trans aL;have t0:=(D.cell (p:=(ag tc 0)) ca).trans t0;have a0:=(D.cell (p:=(ag (tc+1) 0)) bA).trans a0;have a1:=(D.cell (p:=(ag (tc+1) 1)) bA).trans a1;have a2:=(D.cell (p:=(ag (tc+1) 2)) bA).trans a2;have y:tc<wc.heap.size:=bX ca D.size;have be:Hid (cZ wc lo hi tb fb R h cnt V):=ck.o.below ar.o b8.2.2.2.2;have cE:=be.o.blk;have bj:wc.cell? (ag tb 2)=some (aj fb):=aF cE;obtain⟨b,off,db,dk,v⟩:=(c6.o.below ar.o).get (by have:=l.o;omega);have cd:=v x bi.o 0 aa;have ce:=v x bi.o 1 aa;have cf:=v x bi.o 2 aa;rw[<-dE bi.o,c4.o]at cd ce cf;simp only[dw,fI,dz,dI]at cd ce cf;subst db;have dW:tb<wc.heap.size:=bX cL D.size;clear v bR D cE ck
  go_upto_region 4 with fail
  go_quiet (fail)
  obtain⟨w3,G⟩:∃w3,w3=wc.drewN nq:=⟨_,rfl⟩;have A:Below wc.heap.size wc w3:=by rw[G];exact Below.bu _ _
  have J:w3.cell? (ag z 0)=some (ae (x:Nat)):=by rw[G];exact J
  have t0:w3.cell? (ag tc 0)=some (aj tb):=by rw[G];exact t0
  have bj:w3.cell? (ag tb 2)=some (aj fb):=by rw[G];exact bj
  have aE:Hid (cZ w3 lo hi tb fb R h cnt V):=be.o.below A be.o.fA.2.2.2.2;have ba:Hid (Below w.heap.size w w3):=ar.o.trans (A.mono ar.o.size);have Z:z<w3.heap.size:=by rw[G];exact Z
  have y:tc<w3.heap.size:=by rw[G];exact y
  go_upto_region 6 with fail
  rw[<-G];clear G A be ar cd ce cf a0 a1 a2 aL dk;have C:Below w3.heap.size w3 w3.drew:=(aJ _ _).drew;have cj:=af (vI lo fb n x V.fv aa cM w3.drew (by rw[l.o];exact(aE.o.below C aE.o.fA.2.2.2.2).iH));have bo:=ah t0;have bp:=ah bj;have bq:=ah J;refine ax (fun W=>∃p:aS w3,W=p.W) [5,6,7,8,9,10] [(0,true),(1,false),(2,false),(3,true),(4,true)] ⟨⟨_,(aJ _ _).drew⟩,rfl⟩ 6 ?_;refine aH 5 rfl fun K c=>?_;refine bf O8 rfl _ _ rfl (vals:=#[aj fb,ae (x:Nat)]) rfl cj.o ?_;rintro e w4 ⟨pv,rfl,bC,cD⟩;have H:Below w3.heap.size w3 w4:=C.trans cD;refine⟨_,rfl,c _ _ (fun _ h=>absurd aA h) ?_⟩;clear c K;refine bz [(6,false),(7,false),(8,false)] ⟨⟨_,H⟩,rfl⟩ rfl ?_;refine aI [9,10] ?_;have bc:Hid (cZ w4 lo hi tb fb R h cnt V):=aE.o.below H aE.o.fA.2.2.2.2;have bH:Hid (Below w.heap.size w w4):=ba.o.trans (H.mono ba.o.size);have t0:=(H.cell (p:=(ag tc 0)) y).trans t0;have J:=(H.cell (p:=(ag z 0)) Z).trans J;have y:tc<w4.heap.size:=bX y H.size;have Z:z<w4.heap.size:=bX Z H.size;obtain⟨P,aN⟩:∃P,P=(dP 0 n).path 0 x:=⟨_,rfl⟩;rw[<-aN]at bC;have dQ:P.length<=n+1:=by
   have cx:=FT.oI (dP 0 n) 0 x;have bQ:=vE 0 n n (vv (Es));rw[aN];omega
  obtain⟨cb,dr,dn⟩:=bJ 0 n al;have br:=jU n al;rw[fK al]at br;have cC:∀k∈P,k<(aW R.length).length:=fun k ac=>by
   rw[aN]at ac;obtain⟨⟨t,s⟩,dA,dy,-,-⟩:=FT.ng (dP 0 n) 0 x cb aa aa k ac;have dj:FT.At (aW n) t s:=by rw[fK al];exact FT.kR _ 0 br _ dA
   have:=dj.lt;simp only at dy;rw[<-l.o];omega
  have bB:=yV (lt:=zS R) (lb:=De R) (dP 0 n) 0 h x cb (by have:=cs.o.ok (by have:=l.o;omega);rw[<-l.o]at this;exact this) aa aa;rw[<-aN]at bB;have b0:oo R h=held h (dP 0 n) 0:=by rw[nP (by have:=l.o;omega),l.o]
  have co:Hid (((∀k∈P,h k≠some x)->x∉oo R h)/\∀m k:Nat,P[m]? =some k->h k=some x->(∀i<m,∀k',P[i]? =some k'->h k'≠some x)->∃E I,FT.At (aW R.length) E I/\k=E.root I/\Df R x h=pullH (De R) E I h/\x∈oo R h):=by
   refine⟨fun cy=>by rw[b0];exact bB.1 cy,fun m k cx bQ dg=>?_⟩;obtain⟨E,I,a3,a4,bF⟩:=bB.2 m k cx bQ dg;refine⟨E,I,?_,a4,?_,?_⟩
   .rw[<-l.o,fK al];exact FT.kR _ 0 br _ a3
   .unfold Df;rw[<-l.o];exact bF
   .rw[b0];refine Cm _ a3 x ?_;obtain⟨L,da⟩:=o9 (t:=E) (s:=I) (h:=h) (by rw[<-a4];exact bQ);rw[da];simp
  obtain⟨cO,cP,rfl,-,-,b6⟩:=Rd.aD (enc:=fE) bC;have cq:Hid (w4.ownsRow w3.heap.size 3 1 (.slice cO P.length cP) P.length (P.map fE)):=bI bC (aB _);have dU:w.heap.size<=w3.heap.size:=ba.o.size;have c7:=af b6;have ci:=af (O7 bc.o (by have:=l.o;omega) tc z x t0 J P cC cO cP b6 aa);clear bB b0 cC aN cb dr dn br bC b6 H cD C bo bp bq cj aE ba bj
  go_wp2_with fail
  refine ci.o.mono ?_;rintro e F ⟨dZ,rfl,ab,dl⟩;have bd:Hid (cZ F lo hi tb fb R h cnt V):=bc.o.below ab bc.o.fA.2.2.2.2;have bK:Hid (Below w.heap.size w F):=bH.o.trans (ab.mono bH.o.size);have t0:=(ab.cell (p:=(ag tc 0)) y).trans t0;have y:tc<F.heap.size:=bX y ab.size;have bN:=af (ak cq.o ab);clear ab ci bc bH c7 J Z;rcases dl with⟨rfl,cI⟩|⟨j,k,rfl,bw,b3,cF⟩
  .have T:Hid (JI w lo hi tb fb R h cnt V x (.returned (.bool false)) F):=.inl ⟨co.o.1 cI,rfl,bK.o⟩;clear cI;go_wp2;go_ret;exact T.o
  .obtain⟨E,I,a3,a4,bF,cQ⟩:=co.o.2 j k bw b3 cF;have dp:j<P.length:=(fq.1 bw).1;have cB:P[j]=k:=(fq.1 bw).2;have cU:=af a3;have c1:=af a4;have c3:=af bF;have cX:=af cQ;have bT:=bd.o.blk;have c9:F.cell? (ag tb 5)=some (ae cnt):=aF bT;have dG:F.frozen? (ag tb 5)=false:=aF bT;have dL:decide ((j:Int)<0)=false:=aA;have dV:=bd.o.FV;have cH:j<P.length:=dp;have c5:=af cB;clear cB bT a3 a4 bF cQ bw b3 cF
   go_upto_region 11 with fail
   obtain⟨w6,bn⟩:∃w6,w6=F.setCell (ag tb 5) (.int .i64 (cnt-1)):=⟨_,rfl⟩;have c2:Hid (cZ w6 lo hi tb fb R h (cnt-1) V):=by rw[bn];exact bd.o.BR (cnt-1)
   have aT:ay (fun k=>k=tb) F w6:=by rw[bn];exact(ay.refl (fun k=>k=tb) F).set (a:=(ag tb 5)) _ (.inl rfl)
   have c0:Hid (ay (fun k=>lo<=k/\k<hi) w w6):=((ay.refl _ w).below bK.o).trans (aT.mono fun k h=>by subst h;exact⟨b8.1,b8.2.1⟩);have dv:tc≠tb:=by have:=cr.o;omega
   have t0:=((cz aT y dv).1 0).trans t0;have y:tc<w6.heap.size:=bX y aT.size;have bD:=aR bN.o aT (fun g e cy=>by have:=(bN.o.lt g e).1;omega);obtain⟨dO,dK,cw,-,-⟩:=aU bD aa;rw[cw]at bD;injection cw with dc dd de;have cS:=bD.cellAt j aa;rw[iB,bZ cH,c5.o]at cS;simp only[fQ,fE]at cS;rw[<-bn];subst dc;clear bn c9 dG aT bD dd de bd bK bN cq cH
   go_wp2_with fail
   go_loopg [10] E.size (fun dB dC wr=>∃(t:FT) (s:Nat) (u:iI),dC=.int .i64 (t.root s:Nat)/\t.size<=dB/\Hid (FT.At (aW R.length) t s)/\Hid (cZ wr lo hi tb fb R u (cnt-1) V)/\Hid (pullH (De R) t s u=Df R x h)/\Hid (∀k i,k<(aW R.length).length->u k=some i->i<R.length)/\Hid (ay (fun k=>lo<=k/\k<hi) w wr)/\wr.cell? (ag tc 0)=some (aj tb))
   case atStart=>exact⟨E,I,h,by rw[c1.o],aB _,cU,c2,c3.o.symm,fun k i ac e=>cs.o.pl ac e,c0,t0⟩
   case round=>
    obtain⟨t,s,u,rfl,b3,bG,U,bO,bb,cm,a7⟩:=hrel;have S:=af (G8 U.o (by have:=l.o;omega) bG.o bb.o);have dt:=Mx (lb:=De R) (h:=u) bG.o;have ad:=bG.o.lt;have dY:=U.o.FV;have aX:tc<wr.heap.size:=gX wr _ a7;rcases dt with⟨aM,X⟩|⟨t2,cg,i,aM,X,ct,cu,cv⟩
    .rw[aM]at S;have bh:=af X;clear aM X
     go_wp2_with fail
     refine S.o.mono ?_;rintro e d ⟨rfl,B⟩;have r:Hid (cZ d lo hi tb fb R u (cnt-1) V):=U.o.below B U.o.fA.2.2.2.2;have aw:Hid (ay (fun k=>lo<=k/\k<hi) w d):=cm.o.below B;have t7:=(B.cell (p:=(ag tc 0)) aX).trans a7;obtain⟨q,ch,N,bU,bY,-,-,dm,v,-⟩:=r.o.holds (by have:=l.o;omega);obtain⟨ap,aq⟩:=v _ ad;have Q:=r.o.blk;rw[N]at Q;have bk:d.cell? (ag tb 4)=some (az q (aW R.length).length ch):=aF Q;have T:Hid (JI w lo hi tb fb R h cnt V x (.returned (.bool true)) (d.setCell (ag q (t.root s)) (.int .i64 (-1)))):=by
      refine .inr ⟨cX.o,rfl,?_,aw.o.set (a:=(ag q (t.root s))) _ (.inl ⟨bU,bY⟩)⟩;have:=r.o.nQ N ad none;rw[<-bh.o,bO.o]at this;exact this
     clear B Q v N r aw S a7 aX;generalize t.root s=kr at*;generalize(aW R.length).length=M at*;go_wp2;go_ret;exact T.o
    .rw[aM]at S;have bh:=af cv;have cT:=af X;have c8:=af ct;have bL:=af cu;have bx:=X.lt;clear aM X ct cu cv
     go_wp2_with fail
     refine S.o.mono ?_;rintro e d ⟨rfl,B⟩;have r:Hid (cZ d lo hi tb fb R u (cnt-1) V):=U.o.below B U.o.fA.2.2.2.2;have aw:Hid (ay (fun k=>lo<=k/\k<hi) w d):=cm.o.below B;have t7:=(B.cell (p:=(ag tc 0)) aX).trans a7;have du:tc<d.heap.size:=bX aX B.size;obtain⟨q,ch,N,bU,bY,-,-,dm,v,-⟩:=r.o.holds (by have:=l.o;omega);obtain⟨ap,aq⟩:=v _ ad;obtain⟨y1,-⟩:=v _ bx;rw[bL.o]at y1;simp only[oq]at y1;have Q:=r.o.blk;rw[N]at Q;have bk:d.cell? (ag tb 4)=some (az q (aW R.length).length ch):=aF Q;have dX:=r.o.FV;have dT:=bb.o _ i bx bL.o;have T:Hid (∀a8,a8=d.drew.setCell (ag q (t.root s)) (.int .i64 (i:Nat))->cZ a8 lo hi tb fb R (gB u (t.root s) (some i)) (cnt-1) V/\ay (fun k=>lo<=k/\k<hi) w a8/\a8.cell? (ag tc 0)=some (aj tb)):=fun a8 df=>by
      subst df;have C:Below d.heap.size d d.drew:=(aJ _ _).drew;have ds:=r.o.below C r.o.fA.2.2.2.2;refine⟨ds.nQ N ad (some i),(aw.o.below C).set (a:=(ag q (t.root s))) _ (.inl ⟨bU,bY⟩),?_⟩;have dq:ay (fun k=>k=q) d.drew (d.drew.setCell (ag q (t.root s)) (.int .i64 (i:Nat))):=(ay.refl (fun k=>k=q) _).set (a:=(ag q (t.root s))) _ (.inl rfl);exact((cz dq (show tc<d.drew.heap.size from du) (by have:=cr.o;omega)).1 0).trans t7
     have cn:Hid (∀k j,k<(aW R.length).length->gB u (t.root s) (some i) k=some j->j<R.length):=fun k j ac aP=>by
      by_cases e:k=t.root s
      .subst e;rw[fZ]at aP;injection aP with aP;omega
      .rw[iw e]at aP;exact bb.o k j ac aP
     have cp:Hid (pullH (De R) t2 cg (gB u (t.root s) (some i))=Df R x h):=by
      show _=_;rw[<-bh.o];exact bO.o
     clear B Q v N r aw S a7 aX bh bL bb bO;obtain⟨kr,b2⟩:∃kr,kr=t.root s:=⟨_,rfl⟩;obtain⟨cN,b1⟩:∃cN,cN=t2.root cg:=⟨_,rfl⟩;obtain⟨M,cA⟩:∃M,M=(aW R.length).length:=⟨_,rfl⟩;rw[<-b2]at ap aq ad T cp cn |-;rw[<-b1]at y1 bx |-;rw[<-cA]at bk ad bx;have cY:=af b1;have dJ:=af b2;clear b2 b1 cA;have bo:=ah t7;have bp:=ah bk;have bq:=ah y1
     go_upto_region 16 with fail
     refine ax (fun W=>∃p:aS d,W=p.W) [12,13] [(0,true),(1,false),(2,false),(3,true),(4,false),(5,true),(6,false),(7,false),(8,true),(9,false),(10,false),(11,true)] ⟨⟨_,(aJ _ _).drew⟩,rfl⟩ 2 ?_;refine aI [12,13] ?_;have ap:d.drew.cell? (ag q kr)=some (ae (oq (u kr))):=ap;have aq:d.drew.frozen? (ag q kr)=false:=aq;clear bo bp bq y1 t7 bk;generalize d.drew=d3 at*;go_wp2
     go_roundg (t2.size)
     case measure=>have:=c8.o;omega
     case rel=>
      obtain⟨f1,f2,f3⟩:=T.o _ rfl;exact⟨t2,cg,_,by rw[cY.o],aB _,cT,f1,cp,cn,f2,f3⟩
theorem MB {P:Program} {ops:Array Oper} {rest:List Oper} {op:Oper} {a:Act} {Q:Exit->Act->World->Prop} {α:Type} {enc:α->Value} {t e:TypeId} {bytes:Nat} (g:eH P t e 1 bytes) {W:World} {ad:Option Addr} {l:List α} {c n:Nat} (p:Rd enc W ad l) (r:l.length=n) (k:n<=c) (lo hi:Nat) (i:lo<=hi) (j:hi<=n)
  (m:op.guard=none) (x:Operand) (d b:Option Operand) (s:op.op=.slice t x d b none) (u:a.eval x=.slice ad n c)
  (q:(d.map a.eval).getD (.int .i64 0)=.int .i64 lo) (o:(b.map a.eval).getD (.int .i64 n)=.int .i64 hi)
  (h:∀f,bW (fun x=>[enc x]) 1 W f ((l.take hi).drop lo)->wpList P ops Q rest (a.put op.dst (.slice f (hi-lo) (c-lo))) W):wpList P ops Q (op::rest) a W:=by
 subst r;exact LB g p.Vx k lo hi i j m x d b s u q o h
theorem Rd.Wq {α:Type} {enc:α->Value} {w:World} {a:Option Addr} {l:List α} (h:bW (fun x=>[enc x]) 1 w a l):Rd enc w a l:=by
 rcases h with h|⟨b,off,rfl,c,d⟩
 .exact .inl h
 .exact .inr ⟨b,off,rfl,c,fun i hi=>by simpa using d i hi 0 aa⟩
def Um (a:Option Addr) (v:Value):Prop:=∀ad,a=some ad->v.ownBlock≠some ad.block
def Cn (W:World) (lo hi tb fb:Nat) (R:List Pt) (h':iI) (cnt:Int) (V:mh) (e:Ending) (w':World):Prop:=
 e=.returned (.tuple #[])/\cZ w' lo hi tb fb R h' cnt V/\ay (fun k=>V.hv.ownBlock=some k) W w'
theorem q8 (p:Nat->Bool) (L:List Nat) {i:Nat} (h:i<L.length):(L.take (i+1)).filter p=(L.take i).filter p++(if p L[i]then[L[i]]else[]):=by
 rw[ik h,mI];congr 1;rw[l5];split<;>rfl
theorem Co {lo hi tb fb:Nat} {R:List Pt} {cnt:Int} {V:mh} (dx:R.length<=20000) (t:FT) (s:Nat) (bn:FT.At (aW R.length) t s) (bD:t.wf) (dE:t.hi<=R.length) (L:List Nat) (W:World) (h:iI) (x:Option Addr) (P:Nat)
  (H:cZ W lo hi tb fb R h cnt V) (hp:Rd fE W x L) (cp:L.length<=20000) (br:L.length<=P) (cw:Um x V.hv) (cd:∀i∈L,i<=1000000)
  (bC:∀l r,t=.node l r->(∀(L:List Nat) (W:World) (h:iI) (x:Option Addr) (P:Nat),cZ W lo hi tb fb R h cnt V->Rd fE W x L->L.length<=20000->L.length<=P->Um x V.hv->(∀i∈L,i<=1000000)->
    aK 101 #[aj tb,ae (l.root s:Nat),.slice x L.length P] W (Cn W lo hi tb fb R (fillH l s L h) cnt V))/\
    ∀(L:List Nat) (W:World) (h:iI) (x:Option Addr) (P:Nat),cZ W lo hi tb fb R h cnt V->Rd fE W x L->L.length<=20000->L.length<=P->Um x V.hv->(∀i∈L,i<=1000000)->
    aK 101 #[aj tb,ae (r.root (s+l.size):Nat),.slice x L.length P] W (Cn W lo hi tb fb R (fillH r (s+l.size) L h) cnt V)):
  aK 101 #[aj tb,ae (t.root s:Nat),.slice x L.length P] W (Cn W lo hi tb fb R (fillH t s L h) cnt V):=by
 have a5:=bn.lt;have bk:0<R.length:=by have:=t.eZ bD;omega
 cases L with
 |nil=>
  rw[yT];have cP:Hid (Cn W lo hi tb fb R h cnt V (.returned (.tuple #[])) W):=⟨rfl,H,ay.refl _ _⟩;clear H hp bC;simp only[fF];go_enter func101,ntmps101;go_wp2
  go_end0
  exact cP.o
 |cons i L=>
  obtain⟨a2,off,cn,env,aN⟩:=H.nodes bk;obtain⟨f,ch,Z,dz,dC,-,-,c6,aC,-⟩:=H.holds bk;obtain⟨a9,ba⟩:=aC _ a5;have bo:=H.blk;rw[env,Z]at bo;have bi:W.cell? (ag tb 4)=some (az f (aW R.length).length ch):=aF bo;obtain⟨b,o,ar,ce,bz⟩:=hp.get aA;have aO:=bz 0 aA;simp only[nE,fE,dI]at aO;have dc:b≠f:=fun e=>by
   have:=cw _ ar;rw[Z]at this;exact this (by rw[e];rfl)
  obtain⟨w1,au⟩:∃w1,w1=W.drew.setCell (ag f (t.root s)) (.int .i64 (i:Nat)):=⟨_,rfl⟩;have a4:ay (fun k=>k=f) W w1:=by rw[au];exact((ay.refl (fun k=>k=f) W).drew).set (a:=(ag f (t.root s))) _ (.inl rfl)
  have am:Hid (cZ w1 lo hi tb fb R (gB h (t.root s) (some i)) cnt V):=by
   rw[au];exact(H.below (aJ W.heap.size W).drew H.fA.2.2.2.2).nQ Z a5 (some i)
  have bS:Hid (ay (fun k=>V.hv.ownBlock=some k) W w1):=a4.mono fun k e=>by subst e;rw[Z];rfl
  have cx:Rd fE w1 (some (ag b o)) (i::L):=.inr ⟨b,o,rfl,bX ce a4.size,fun j cl=>((cz a4 ce dc).1 _).trans (bz j cl)⟩;have cN:=af cx;have bc:=af cd;have bh:=af bC;have aP:=af bn;have be:=af Z;have cQ:=af bD;have c5:(aW R.length).length<=40000:=by rw[dh];omega
  simp only[ed]at cp br |-;have d0:(((L.length+1:Nat):Int)==0)=false:=by first|(simp;done)|(simp;omega)
  subst ar;clear aC bo env Z H hp bz cw cd bC a4 cx bn aN bD;obtain⟨n,bw⟩:∃n,n=L.length:=⟨_,rfl⟩;have an:=af bw;rw[<-bw]at cp br d0 |-;obtain⟨K,bl⟩:∃K,K=t.root s:=⟨_,rfl⟩;have cG:=af bl;obtain⟨M,bm⟩:∃M,M=(aW R.length).length:=⟨_,rfl⟩;have bU:=af bm;rw[<-bl]at a9 ba a5 au |-;rw[<-bm]at bi a5 c5;clear bw bl bm;have c2:=ah bi;have c3:=ah aO;go_enter func101,ntmps101
  go_upto_region 1 with fail
  refine ax (fun W'=>∃p:aS W,W'=p.W) [8,9] [(0,false),(1,false),(2,false),(3,true),(4,false),(5,false),(6,false),(7,true)] ⟨⟨_,(aJ _ _).drew⟩,rfl⟩ 2 ?_;refine aI [8,9] ?_;have a9:W.drew.cell? (ag f K)=some (ae (oq (h K))):=a9;have ba:W.drew.frozen? (ag f K)=false:=ba;clear c2 c3 bi aO
  go_upto_region 2 with fail
  rw[show(W.setCell (ag f K) (.int .i64 (i:Nat))).drew=w1 by rw[au];rfl];clear au a9 ba;obtain⟨a2,off,cn,env,aN⟩:=am.o.nodes bk;have bp:=am.o.blk;rw[env]at bp;have b3:w1.cell? (ag tb 3)=some (.slice (some (ag a2 off)) M cn):=by simp[World.cell?,bp];exact bU.o.symm
  obtain⟨c7,n0,bE,bH,bI,bJ,cE,bK⟩:=mX aN aP.o.get;rw[<-cG.o]at n0 bE bH bI bJ cE bK;have de:=am.o.FV;have bZ:=af aN;obtain⟨d,hd⟩:∃d,d=t.top s:=⟨_,rfl⟩;rw[<-hd]at n0 bE bH bI bJ bK;have aQ:=af hd;clear hd;obtain⟨w2,a1⟩:∃w2,w2=w1.alloc (.cells #[.int .u8 d.kind,ae d.l,ae d.r,ae d.fr,ae d.Kj,ae 0,ae d.item] 163):=⟨_,rfl⟩;have ab:Below w1.heap.size w1 w2:=by rw[a1];exact(aJ _ _).alloc (aB _) _
  have aL:w2.heap[w1.heap.size]? =some (.cells #[.int .u8 d.kind,ae d.l,ae d.r,ae d.fr,ae d.Kj,ae 0,ae d.item] 163 (0,0)):=by rw[a1];exact bV w1 _
  have aO:w2.cell? (ag w1.heap.size 0)=some (.int .u8 d.kind):=aF aL;have x1:w2.cell? (ag w1.heap.size 1)=some (ae d.l):=aF aL;have x2:w2.cell? (ag w1.heap.size 2)=some (ae d.r):=aF aL;have aM:=(ab.cell (p:=(ag tb 3)) de).trans b3;have al:w1.heap.size<w2.heap.size:=(aZ.1 aL).1;have bR:=af ab;have aU:Hid (cZ w2 lo hi tb fb R (gB h (t.root s) (some i)) cnt V):=am.o.below ab am.o.fA.2.2.2.2;have bT:Hid (ay (fun k=>V.hv.ownBlock=some k) W w2):=bS.o.below ab;have cO:Hid (Rd fE w2 (some (ag b o)) (i::L)):=cN.o.below ab;clear env aN bp ab aL
  go_upto_region 3 with fail
  rw[<-a1];clear a1 n0 bE bH bI bJ cE bK b3;cases t with
  |leaf a=>
   have d1:(d.kind !=(2:Int))=true:=by rw[aQ.o];rfl
   have bd:Hid (Cn W lo hi tb fb R (fillH (.leaf a) s (i::L) h) cnt V (.returned (.tuple #[])) w2):=⟨rfl,aU.o,bT.o⟩;clear x1 x2 bh;go_wp2
   go_end0
   exact bd.o
  |node l r=>
   have d1:(d.kind !=(2:Int))=false:=by rw[aQ.o];rfl
   have cq:=aP.o.left.lt;have cC:=aP.o.right.lt;have ci:d.l=((l.root s:Nat):Int):=by rw[aQ.o];show((s+l.size:Nat):Int)-1=_;unfold FT.root;have:=l.size_pos;omega
   have cj:d.r=((r.root (s+l.size):Nat):Int):=by rw[aQ.o];show((s+l.size+r.size:Nat):Int)-1=_;unfold FT.root;have:=r.size_pos;omega
   rw[ci]at x1;rw[cj]at x2;obtain⟨b0,b1⟩:=bh.o l r rfl;have bf:=af b0;have bg:=af b1;obtain⟨m0,m1,m2,m3,m4,N,di,dj⟩:=mX (bZ.o.below bR.o) aP.o.left.get;rw[FT.vF]at N;have bv:=cQ.o;have db:l.hi<=20000:=by
    have:=FT.eZ r bv.2.1;have aw:(FT.node l r).hi=r.hi:=rfl;have:=bv.2.2;omega
   have cJ:Hid (∃c,c=l.hi):=⟨_,rfl⟩;rw[<-bU.o]at cq cC;clear ci cj b0 b1 bh m1 m2 m3 m4 di dj bv bZ;have bY:Hid (fillH (.node l r) s (i::L) h=fillH r (s+l.size) (L.filter fun j=>!decide (j<l.hi)) (fillH l s (L.filter fun j=>decide (j<l.hi)) (gB h ((FT.node l r).root s) (some i)))):=rfl;obtain⟨c,cr⟩:∃c,c=l.hi:=⟨_,rfl⟩;obtain⟨kl,cm⟩:∃kl,kl=l.root s:=⟨_,rfl⟩;obtain⟨kr,co⟩:∃kr,kr=r.root (s+l.size):=⟨_,rfl⟩;rw[<-cr]at N db bY;rw[<-cm]at N x1 bf cq;rw[<-co]at x2 bg cC;clear cr cm co cJ
   go_upto_region 5 with fail
   have cs:(i::L).length=n+1:=by simp[an.o]
   have bW:=af cs;clear cs
   go_wp2_with (refine MB nI cO.o bW.o br 1 (n+1) aa (aB _) rfl _ _ _ rfl rfl rfl rfl ?_;intro cR cy;simp only[Nat.add_sub_cancel])
   have b5:Rd fE w2 cR L:=by
    have y:=Rd.Wq cy;rw[<-bW.o,jL]at y;exact y
   have cK:=af b5;clear cy b5;obtain⟨O,cv⟩:∃O,O=w1.heap.size:=⟨_,rfl⟩;have ck:f<w1.heap.size:=bX c6 bS.o.size;rw[<-cv]at aO x1 x2 al ck |-;clear cv;have df:tb<w2.heap.size:=aU.o.FV;have c8:a2<w2.heap.size:=bX c7 bR.o.size;have c9:hi<=w2.heap.size:=aU.o.fA.2.2.2.2
   go_loopg [7,8,36] n (fun dg dl dm dk wr=>∃(j:Nat) (a6 a7:Value),dk=.int .i64 j/\dl=a6/\dm=a7/\j<=n/\n-j<=dg/\Hid (Below w2.heap.size w2 wr)/\
    Hid (wr.ownsRow w2.heap.size 3 1 a6 ((L.take j).filter fun k=>decide (k<c)).length (((L.take j).filter fun k=>decide (k<c)).map fE))/\
    Hid (wr.ownsRow w2.heap.size 3 1 a7 ((L.take j).filter fun k=>!decide (k<c)).length (((L.take j).filter fun k=>!decide (k<c)).map fE))/\Hid (∀g,a6.ownBlock=some g->a7.ownBlock≠some g))
   case atStart=>exact⟨0,_,_,rfl,rfl,rfl,aY _,aa,aJ _ _,dA _ _ _ _,dA _ _ _ _,fun g h=>by cases h⟩
   case round=>
    obtain⟨j,a6,a7,rfl,rfl,rfl,cl,dG,u,J,D,I⟩:=hrel;obtain⟨aX,a0,rfl⟩:=fH J.o;obtain⟨aq,cb,rfl⟩:=fH D.o;by_cases dH:j<n
    .have aH:j<L.length:=by have:=an.o;omega
     obtain⟨dr,dK,ar,dy,aC⟩:=(cK.o.below u.o).get aa;have a8:=aC j aH;simp only[fE]at a8;have ao:=af (q8 (fun k=>decide (k<c)) L aH);have ap:=af (q8 (fun k=>!decide (k<c)) L aH);have da:=bc.o L[j] (kW _ (bF aH));obtain⟨k,ac⟩:∃k,k=L[j]:=⟨_,rfl⟩;rw[<-ac]at a8 ao ap da;have bs:((L.take j).filter fun k=>decide (k<c)).length<=n:=bB (gD _ _) (by rw[eQ];omega);have bt:((L.take j).filter fun k=>!decide (k<c)).length<=n:=bB (gD _ _) (by rw[eQ];omega);generalize(L.take j).filter (fun k=>decide (k<c))=A at*;generalize(L.take j).filter (fun k=>!decide (k<c))=B at*;have aM:=(u.o.cell (p:=(ag tb 3)) df).trans aM;have x1:=(u.o.cell (p:=(ag O 1)) al).trans x1;have N:=(u.o.cell (p:=(ag a2 (off+kl*7+4))) c8).trans N;have bP:=af ar;clear aC ac ar;obtain⟨z,ai⟩:∃z,z=A.length:=⟨_,rfl⟩;obtain⟨C,ak⟩:∃C,C=B.length:=⟨_,rfl⟩;rw[<-ai]at bs J I |-;rw[<-ak]at bt D I |-;have aV:Hid (z=A.length/\C=B.length):=⟨ai,ak⟩;clear ai ak;have F:∀q,Below w2.heap.size w2 (wr.drewN q)/\(wr.drewN q).ownsRow w2.heap.size 3 1 (.slice aX z a0) z (A.map fE)/\(wr.drewN q).ownsRow w2.heap.size 3 1 (.slice aq C cb) C (B.map fE)/\w2.heap.size<=(wr.drewN q).heap.size:=fun q=>
      ⟨u.o.trans ((Below.bu _ q).mono u.o.size),J.o.bu q,D.o.bu q,u.o.size⟩
     have aT:=af F;clear F;obtain rfl:=bP.o;clear bP J D aH;by_cases dF:k<c
     .have cS:decide ((k:Int)<(c:Int))=true:=aG;have bj:decide (k<c)=true:=aG;rw[bj]at ao ap
      go_upto_region 8 with fail
      go_quiet (fail)
      obtain⟨f1,f2,f3,f4⟩:=aT.o nq;have Q:=af f1;have S:=af f2;have T:=af f3;obtain⟨G,av⟩:∃G,G=wr.drewN nq:=⟨_,rfl⟩;rw[<-av]at Q S T f4 |-;clear av f1 f2 f3 aT aM x1 N a8
      go_wp2_with (at_builtin;refine cu nI w2.heap.size S.o [.int .i64 k] rfl (by simp[Value.oneCell']) rfl _ _ rfl rfl _ rfl dJ aa f4 ?_;intro bN w6 bx aE bq)
      go_roundg (n-(j+1))
      case measure=>omega
      case rel=>
       have cD:∀g,(Value.slice aq C cb).ownBlock=some g->(Value.slice aX z a0).ownBlock≠some g:=fun g E w=>I.o g w E;have K:ay (fun q=>(Value.slice aX z a0).ownBlock=some q) G w6:=(ay.refl _ G).grown aE (fun q bA=>.inl bA);refine⟨j+1,bN,_,by go_num,rfl,rfl,aa,aB _,dB Q.o S.o aE Q.o.size (aB _),?_,?_,?_⟩
       .show World.ownsRow _ _ _ _ _ _ _;rw[ao.o];simp only[gG];rw[bL,bQ,<-aV.o.1];exact bx
       .show World.ownsRow _ _ _ _ _ _ _;rw[ap.o];simp only[Bc,qV,jw,iO];rw[<-aV.o.2];exact aR T.o K (fun g E w=>cD g E w)
       .intro g e y;rcases gJ bq with Y|⟨q,Y,c4⟩
        .exact cD g y (Y▸e)
        .rw[Y]at e;injection e with e;have:=(T.o.lt g y).2;omega
     .have cS:decide ((k:Int)<(c:Int))=false:=aG;have bj:decide (k<c)=false:=aG;rw[bj]at ao ap
      go_upto_region 8 with fail
      go_quiet (fail)
      obtain⟨f1,f2,f3,f4⟩:=aT.o nq;have Q:=af f1;have S:=af f2;have T:=af f3;obtain⟨G,av⟩:∃G,G=wr.drewN nq:=⟨_,rfl⟩;rw[<-av]at Q S T f4 |-;clear av f1 f2 f3 aT aM x1 N a8
      go_wp2_with (at_builtin;refine cu nI w2.heap.size T.o [.int .i64 k] rfl (by simp[Value.oneCell']) rfl _ _ rfl rfl _ rfl dJ aa f4 ?_;intro bN w6 bx aE bq)
      go_roundg (n-(j+1))
      case measure=>omega
      case rel=>
       have K:ay (fun q=>(Value.slice aq C cb).ownBlock=some q) G w6:=(ay.refl _ G).grown aE (fun q bA=>.inl bA);refine⟨j+1,_,bN,by go_num,rfl,rfl,aa,aB _,dB Q.o T.o aE Q.o.size (aB _),?_,?_,?_⟩
       .show World.ownsRow _ _ _ _ _ _ _;rw[ao.o];simp only[qV,jw,iO];rw[<-aV.o.1];exact aR S.o K (fun g E w=>I.o g E w)
       .show World.ownsRow _ _ _ _ _ _ _;rw[ap.o];simp only[Bool.not_false,gG];rw[bL,bQ,<-aV.o.2];exact bx
       .intro g e y;rcases gJ bq with Y|⟨q,Y,c4⟩
        .exact I.o g e (Y▸y)
        .rw[Y]at y;injection y with y;have:=(S.o.lt g e).2;omega
    .obtain rfl:j=n:=aa;have b9:L.take j=L:=by rw[an.o,jL]
     rw[b9]at J D I |-;have cL:Hid (cZ wr lo hi tb fb R (gB h ((FT.node l r).root s) (some i)) cnt V):=aU.o.below u.o c9;have cH:Hid (ay (fun k=>V.hv.ownBlock=some k) W wr):=bT.o.below u.o;have ca:∀k∈L.filter (fun k=>decide (k<c)),k<=1000000:=fun k ac=>bc.o k (kW _ (bG.1 ac).1);have cc:∀k∈L.filter (fun k=>!decide (k<c)),k<=1000000:=fun k ac=>bc.o k (kW _ (bG.1 ac).1);have bs:(L.filter fun k=>decide (k<c)).length<=j:=bB (gD _ _) (by rw[an.o];exact aB _);have bt:(L.filter fun k=>!decide (k<c)).length<=j:=bB (gD _ _) (by rw[an.o];exact aB _);generalize L.filter (fun k=>decide (k<c))=A at*;generalize L.filter (fun k=>!decide (k<c))=B at*;have x1:=(u.o.cell (p:=(ag O 1)) al).trans x1;have x2:=(u.o.cell (p:=(ag O 2)) al).trans x2;have dd:O<wr.heap.size:=bX al u.o.size;obtain⟨dp,ds,cT,-,cf,cA⟩:=Rd.aD (enc:=fE) J.o;injection cT with cU cV cW;subst cU cW;have dD:f<w2.heap.size:=vw ck al;have bM:∀{v:Value} {m:Nat} {X:List Value} {a:Option Addr} {n' b2:Nat} {w':World},w'.ownsRow w2.heap.size 3 1 v m X->v=.slice a n' b2->Um a V.hv:=fun{v m X a n' b2 w'} E w ad e aw=>by
      subst w e;rcases E.2 with⟨U,-⟩|⟨g,du,dv,U,dw,-⟩
      .cases U
      .injection U with U;injection U with U;subst U;rw[be.o]at aw;injection aw with aw;simp only at aw;omega
     have bb:=af (bf.o A wr _ aX a0 cL.o cA aa cf (bM J.o rfl) ca);have cF:=af cc;have cM:Hid (Um aq V.hv):=bM D.o rfl;clear b9 cA J bM ca cc bf N aM cV;obtain⟨z,ai⟩:∃z,z=A.length:=⟨_,rfl⟩;rw[<-ai]at bb cf bs I |-;clear ai
     go_wp2_with fail
     refine bb.o.mono ?_;rintro e w6 ⟨rfl,b6,a3⟩;have ct:¬V.hv.ownBlock=some O:=fun e=>by
      rw[be.o]at e;have e:f=O:=EC e;omega
     have x2:=((cz a3 dd ct).1 2).trans x2;have b8:=aR D.o a3 (fun g E w=>by
      rw[be.o]at w;have w:f=g:=EC w;have:=(D.o.lt g E).1;omega)
     obtain⟨dq,dt,cX,-,cg,cB⟩:=Rd.aD (enc:=fE) b8;injection cX with cY c0 c1;subst cY c1;have bO:=af (bg.o B w6 _ aq cb b6 cB aa cg cM.o cF.o);have cI:Hid (ay (fun k=>V.hv.ownBlock=some k) W w6):=cH.o.trans a3;clear b8 cB b6 a3 ct bb bg D c0;obtain⟨C,ak⟩:∃C,C=B.length:=⟨_,rfl⟩;rw[<-ak]at bO cg bt I |-;clear ak
     go_wp2_with fail
     refine bO.o.mono ?_;rintro e dn ⟨rfl,b7,b4⟩;have bd:Hid (Cn W lo hi tb fb R (fillH (.node l r) s (i::L) h) cnt V (.returned (.tuple #[])) dn):=by
      rw[bY.o];exact⟨rfl,b7,cI.o.trans b4⟩
     clear b7 b4;go_wp2
     go_end0
     exact bd.o
theorem MC {lo hi tb fb:Nat} {R:List Pt} {cnt:Int} {V:mh} (o:R.length<=20000):∀(t:FT) (s:Nat),FT.At (aW R.length) t s->t.wf->t.hi<=R.length->∀(L:List Nat) (W:World) (h:iI) (b:Option Addr) (c:Nat),
  cZ W lo hi tb fb R h cnt V->Rd fE W b L->L.length<=20000->L.length<=c->Um b V.hv->(∀i∈L,i<=1000000)->
  aK 101 #[aj tb,ae (t.root s:Nat),.slice b L.length c] W (Cn W lo hi tb fb R (fillH t s L h) cnt V):=by
 intro t
 induction t with
 |leaf a=>exact fun s m k n L W h b c H hp d f g j=>Co o _ s m k n L W h b c H hp d f g j (fun l r e=>by cases e)
 |node l r p q=>
  intro s m k n L W h b c H hp d f g j;refine Co o _ s m k n L W h b c H hp d f g j fun l' x e=>?_;cases e;have u:=FT.eZ r k.2.1;have v:=k.2.2;have w:(FT.node l r).hi=r.hi:=rfl;exact⟨fun L W h b c H hp d f g j=>p s m.left k.1 aa L W h b c H hp d f g j,fun L W h b c H hp d f g j=>q _ m.right k.2.1 aa L W h b c H hp d f g j⟩
theorem Hd:∃i,Tryz.prog.info? 3=some i/\i.zero=some (.int .i64 0)/\i.size=1/\i.bytes=8:=by
 have h:(Tryz.prog.info? 3).map (fun i=>(i.zero,i.size,i.bytes))=some (some (.int .i64 0),1,8):=aM;cases hi:Tryz.prog.info? 3 with
 |none=>rw[hi]at h;cases h
 |some i=>rw[hi]at h;injection h with h;injection h with b a;injection a with a c;exact⟨i,rfl,b,a,c⟩
theorem He:(Tryz.prog.info? 3).map (·.size)=some 1:=by
 have⟨i,a,c,b,d⟩:=Hd;rw[a];simp[b]
theorem KS (n:Nat) (d:n<=1000000) (W:World):(Instr.makeSlice 148 (.int .i64 n) (.int .i64 n)).run prog W=.ok (az W.heap.size n n) (W.alloc (.cells (madeCells #[ae 0] n) 3)):=by
 have⟨i,hi,c,b,a⟩:=Hd;have h:=run_make (P:=prog) W 148 3 i (.int .i64 0) underlying148 hi c .i64 .i64 n n aa (vC _) (by rw[a];omega) aa;rw[h,ib,b,iQ];rfl
theorem Cq (W:World) (n:Nat):(W.alloc (.cells (madeCells #[ae 0] n) 3)).heap[W.heap.size]? =some (.cells (List.replicate n (ae 0)).toArray 3 (0,0)):=by
 rw[bV];congr 2;apply Array.ext';rw[toList_madeCells_one]
theorem DZ {w:World} {base g n:Nat} {xs:List Value} (c:w.heap[g]? =some (.cells xs.toArray 3 (0,0))) (b:base<=g) (a:xs.length=n) (d:n<=maxLen):w.ownsRow base 3 1 (az g n n) n xs:=
 ⟨aQ a,.inr ⟨g,n,xs.toArray,rfl,b,c,aB _,d,aQ a,by rw[iQ];exact jK aG⟩⟩
theorem uB {P:Program} {ops:Array Oper} {o:Oper} {a:Act} {C:World->Prop} {b:Bool} {K:Act->Prop} {E0:Prop} {sz:Nat} {t e:TypeId} {bytes:Nat} (r:eH P t e sz bytes) (ad:Option Addr) (n c lo hi:Nat) (p:lo<=hi) (q:hi<=c)
  (s:o.guard=none) (x:Operand) (m f:Option Operand) (j:o.op=.slice t x m f none) (l:a.eval x=.slice ad n c) (g:(m.map a.eval).getD (.int .i64 0)=.int .i64 lo) (d:(f.map a.eval).getD (.int .i64 n)=.int .i64 hi)
  (h:K (a.put o.dst (.slice (if c=lo then ad else ad.map (·.add (lo*sz))) (hi-lo) (c-lo)))):
  if Region.wanted o (yielded ops a.tmps)=true then Oper.fw P o a C b K else E0:=by
 have y:Region.wanted o (yielded ops a.tmps)=true:=by simp[Region.wanted,s]
 rw[aO y];obtain⟨ht,⟨i,z,u,D,v,A,E⟩,B⟩:=r;have hu:∀W',(underlying t).run P W'=.ok (.slice e) W':=fun W'=>pQ ht W';have k:∀W',(sizeOf e).run P W'=.ok sz W':=fun W'=>by simp[sizeOf,typeInfo,u,v]
 refine⟨_,fun w _=>?_,h⟩;unfold execOp;rcases m with _|lw
 .simp only[lK,mR,pM,qd]at g;obtain rfl:lo=0:=aa;rcases f with _|hg
  .simp only[lK,mR,pM,qd]at d;obtain rfl:hi=n:=aa;simp[j,l,Instr.sliceAt,Instr.slice,Instr.sliceBounds,hu,k]
  .simp only[fQ,gI]at d;simp[j,l,d,Instr.sliceAt,Instr.slice,Instr.sliceBounds,Instr.sliceBound,hu,k,asIntOf,q]
 .simp only[fQ,gI]at g;rcases f with _|hg
  .simp only[lK,mR,pM,qd]at d;obtain rfl:hi=n:=aa;simp[j,l,g,Instr.sliceAt,Instr.slice,Instr.sliceBounds,Instr.sliceBound,hu,k,asIntOf,p]
  .simp only[fQ,gI]at d;simp[j,l,g,d,Instr.sliceAt,Instr.slice,Instr.sliceBounds,Instr.sliceBound,hu,k,asIntOf,p,q]
def sM (M k:Nat):List Value:=List.replicate k (.int .i64 (-1))++List.replicate (M-k) (.int .i64 0)
theorem Hf {M k:Nat} (h:k<=M):(sM M k).length=M:=by simp[sM];omega
theorem ME (M:Nat):sM M 0=List.replicate M (.int .i64 0):=by simp[sM]
theorem MF (M:Nat):sM M M=List.replicate M (.int .i64 (-1)):=by simp[sM]
theorem zF {M k m:Nat} (h:k+m<=M):splice (sM M k) k (List.replicate m (.int .i64 (-1)))=sM M (k+m):=by
 unfold splice sM;rw[Ee aA,jK aA,iA,List.drop_append];rw[oC aA,fP,List.drop_replicate,iA,<-dY,List.replicate_append_replicate];congr 2;omega
theorem O9 {M k j:Nat} (h:j<k):(sM M k)[j]? =some (.int .i64 (-1)):=by
 unfold sM;rw[lT (aQ h),rz,aO h]
theorem Pd (w:World) (b M:Nat) (r:w.heap[b]? =some (.cells #[ae (-1)] 3 (0,0))) (ac:M<=1000000):
  aK 100 #[az b 1 1,ae M] w fun e w'=>∃v,e=.returned v/\w'.ownsRow w.heap.size 3 1 v M (List.replicate M (.int .i64 (-1)))/\Below w.heap.size w w':=by
 have am:=KS M ac;have n:=af (fun W=>Tryz.bits_Mul 1 M aa aa W);have p:1*M/18446744073709551616=0:=aa;have q:1*M%18446744073709551616=M:=aa;rw[p,q]at n;have z:=af (Cq w M);have ai:b<w.heap.size:=(aZ.1 r).1;have L:(w.alloc (.cells (madeCells #[ae 0] M) 3)).cell? (ag b 0)=some (ae (-1)):=by
  have d:=(bR w (.cells (madeCells #[ae 0] M) 3) _ ai).trans r;simp[World.cell?,d]
 have A:=af L;have d0:decide ((M:Int)<0)=false:=aA;have d3:decide ((M:Int)>9223372036854775807)=false:=aG;have d4:decide ((9223372036854775807:Int)<(M:Int))=false:=aG;have d5:decide (9223372036854775807<M)=false:=aG;clear p q r L;go_enter func100,ntmps100
 go_wp2_with fail
 refine(n.o w).mono ?_;rintro e w' ⟨rfl,ab⟩;subst ab
 go_upto_region 7 with fail
 obtain⟨w1,c⟩:∃w1,w1=w'.alloc (.cells (madeCells #[ae 0] M) 3):=⟨_,rfl⟩;obtain⟨g,f⟩:∃g,g=w'.heap.size:=⟨_,rfl⟩;have G:Below w'.heap.size w' w1:=by rw[c];exact(aJ _ _).alloc (aB _) _
 have t:w'.heap.size<=g:=Bf f.symm;have Q:w1.heap[g]? =some (.cells (sM M 0).toArray 3 (0,0)):=by rw[c,f,ME];exact z.o
 have B:Hid (w1.cell? (ag b 0)=some (ae (-1))):=by rw[c];exact A.o
 have ay:b≠g:=aa;rw[<-c,<-f];have F:=af Q;have y:=af G;clear c am z A n Q G f d0 d3 d4 d5;obtain⟨m,i⟩:∃m,m=Nat.min 1 M:=⟨_,rfl⟩;have D:=af i;have al:m<=M:=by rw[i];exact Nat.min_le_right _ _
 have P:0<M->0<m:=fun h=>by rw[i];exact Nat.lt_min.2 ⟨aa,h⟩
 have X:=af P;clear i P;have ht:∀j v,(List.replicate m (ae (-1)))[j]? =some v->w1.cell? (((ag b 0):Addr).add j)=some v:=fun j v h=>by
  rw[rz]at h;split at h
  .rename_i aj;injection h with h;have:j=0:=by have ap:=D.o;have d:Nat.min 1 M<=1:=Nat.min_le_left _ _;omega
   subst this;rw[<-h];simpa[Addr.add]using B.o
  .cases h
 have E:=af ht;clear ht
 go_wp2_with (refine wpList_copy_splice rfl _ _ _ _ rfl 3 underlying148 He _ _ _ _ _ _ rfl rfl g 0 (sM M 0) 3 F.o (List.replicate m (.int .i64 (-1))) (by rw[iA];exact D.o) (fun _=>⟨rfl,_,rfl,E.o⟩) (by rw[iA,Hf aa];omega) (fun v u=>by rw[List.eq_of_mem_replicate u];rfl) w'.heap.size w' y.o t ?_;intro w2 N H;simp only[iA,goInt];rw[zF (M:=M) (k:=0) (m:=m) aa,kF]at N;have R:=af H;clear H)
 clear F y E B
 go_loopg [8] M (fun an ao wr=>∃k:Nat,ao=.int .i64 k/\k<=M/\M-k<=an/\Hid (0<M->0<k)/\Hid (wr.heap[g]? =some (.cells (sM M k).toArray 3 (0,0)))/\Hid (Below w'.heap.size w' wr))
 case atStart=>exact⟨m,rfl,al,aa,X,N,R⟩
 case round=>
  obtain⟨k,rfl,aq,ar,Y,C,x⟩:=hrel;by_cases au:k<M
  .have ak:=Y.o aa;obtain⟨m2,l⟩:∃m2,m2=Nat.min k (M-k):=⟨_,rfl⟩;have av:k+m2<=M:=by have d:Nat.min k (M-k)<=M-k:=Nat.min_le_right _ _;omega
   have aw:0<m2:=by rw[l];exact Nat.lt_min.2 ⟨ak,aa⟩
   have ax:m2<=k:=by rw[l];exact Nat.min_le_left _ _
   have V:=af l;have Z:Hid (∀W:World,W.heap[g]? =some (.cells (sM M k).toArray 3 (0,0))->∀j v,(List.replicate m2 (ae (-1)))[j]? =some v->W.cell? (((ag g 0):Addr).add j)=some v):=fun W ad j v h=>by
    rw[rz]at h;split at h
    .rename_i aj;have d:=O9 (M:=M) (k:=k) (j:=j) aa;rw[<-h];have ah:((ag g 0):Addr).add j=(ag g j):=by unfold Addr.add;split<;>simp_all
     rw[ah];simp[World.cell?,ad,d]
    .cases h
   clear l;have p:decide ((k:Int)<(M:Int))=true:=aG;have q:decide (k<M)=true:=aG
   go_upto_region 9 with fail
   refine lQ (fun _=>True) [7,8,9] [(0,false),(1,false),(2,false),(3,false),(4,false),(5,false),(6,false)] trivial 3 ?_;simp only[jQ,uM,uO,uI,dz,fI,fQ]
   iterate 3 (refine iY (fun K a=>?_);go_simp;first|(refine a _ ?_;clear a K)|(apply Exists.intro;refine⟨fun _=>?_,a _ ?_⟩;rfl;clear a K))
   refine iY (fun K a=>?_);refine uB nI (some (ag g 0)) M M k M aa (aB _) rfl _ _ _ rfl rfl rfl rfl (a _ ?_);clear a K;rw[aN aa]
   iterate 2 (refine iY (fun K a=>?_);go_simp;first|(refine a _ ?_;clear a K)|(apply Exists.intro;refine⟨fun _=>?_,a _ ?_⟩;rfl;clear a K))
   refine iY (fun K a=>?_);refine uB nI (some (ag g 0)) M M 0 k aa aa rfl _ _ _ rfl rfl rfl rfl (a _ ?_);clear a K;rw[aN aa];refine oO ?_;refine aH 7 rfl fun K a=>?_;have s:wr.drew.heap[g]? =some (.cells (sM M k).toArray 3 (0,0)):=C.o;have J:Below w'.heap.size w' wr.drew:=x.o.drew;refine step_copy_splice rfl _ _ _ _ rfl 3 underlying148 He (some (ag g k)) (some (ag g 0)) (M-k) (M-k) k M (by simp[Act.eval,Act.put,Addr.add]) (by simp[Act.eval,Act.put,Addr.add]) g k (sM M k) 3 s (List.replicate m2 (.int .i64 (-1))) (by rw[iA];exact V.o) (fun _=>⟨rfl,_,rfl,Z.o _ s⟩) (by rw[iA,Hf aa];omega) (fun v u=>by rw[List.eq_of_mem_replicate u];rfl) w'.heap.size w' J t ?_;intro w3 O I;simp only[iA,goInt];rw[zF (M:=M) (k:=k) (m:=m2) aa]at O;have U:=O;have S:=af I;clear I s J;refine a _ _ (fun _ h=>absurd aA h) ?_;clear a K;refine aI [8,9] ?_;go_wp2
   go_roundg (M-(k+m2))
   case measure=>omega
   case rel=>exact⟨k+m2,by go_num,aa,aB _,fun _=>aa,U,S⟩
  .obtain rfl:k=M:=aa;have T:Hid (wr.ownsRow w'.heap.size 3 1 (az g k k) k (List.replicate k (.int .i64 (-1)))):=by
    have:=C.o;rw[MF]at this;exact DZ this t aA dJ
   go_wp2;go_ret;exact⟨_,rfl,T.o,x.o⟩
theorem JJ:fV 99:=bY func99 aM rfl
theorem Rm {W:World} {tb tc:Nat} {t:Option Addr} {G n:Nat} {R:List Pt} (z:W.cell? (ag tc 0)=some (aj tb)) (w:W.cell? (ag tb 0)=some (.slice t n G)) (s:bW dw 3 W t R) (y:R.length=n) (i j:Nat) (hi:i<n) (J:j<n) (L:n<=1000000):
  aK 99 #[ae i,ae j,aj tc] W fun e w'=>e=.returned (ae (og (bS R i) (bS R j)))/\xI W w':=by
 have b:i<R.length:=aa;have c:j<R.length:=aa;obtain⟨V,X,x,M,a⟩:=s.get aa;have d:=a i b 0 aa;have f:=a i b 1 aa;have g:=a i b 2 aa;have k:=a j c 0 aa;have v1:=a j c 1 aa;have l:=a j c 2 aa;simp only[dw,fI,dz,dI]at d f g k v1 l;rw[<-dE b]at d f g;rw[<-dE c]at k v1 l;subst x;clear a b c s y;generalize bS R i=p at*;generalize bS R j=q at*;have u:=af (fun W=>Tf p q W);generalize og p q=U at*;obtain⟨B,C,A⟩:=p;obtain⟨E,F,D⟩:=q;simp only at d f g k v1 l;have H:=ah z;have I:=ah w;have N:=ah d;have O:=ah f;have P:=ah g;have Q:=ah k;have S:=ah v1;have T:=ah l;go_enter func99,ntmps99
 go_upto_region 1 with fail
 refine ax (fun W'=>∃p:aS W,W'=p.W) [14,15] [(0,true),(1,false),(2,false),(3,true),(4,false),(5,false),(6,true),(7,true),(8,false),(9,false),(10,true),(11,false),(12,false),(13,true)] ⟨⟨_,(aJ _ _).drew⟩,rfl⟩ 2 ?_;refine aH 14 rfl fun K m=>?_;refine bf BI rfl _ _ rfl (vals:=#[iZ B C A,iZ E F D]) rfl (u.o W.drew) ?_;rintro e w2 ⟨rfl,r⟩;refine⟨_,rfl,m _ _ (fun _ h=>absurd aA h) ?_⟩;clear m K;refine aI [15] ?_;have v:Hid (xI W w2):=((xI.refl W).drew).trans r;clear r;go_wp2;go_ret;exact⟨rfl,v.o⟩
theorem VM (R:List Pt) (n:Nat):SWO (ltOf fun i j:Fin n=>og (bS R i) (bS R j)):=
 ⟨fun x=>QQ.irrefl (bS R x),fun x y z=>QQ.trans (bS R x) (bS R y) (bS R z),fun x y z=>QQ.ntrans (bS R x) (bS R y) (bS R z)⟩
theorem Rn {w:World} {base g c n tb tc:Nat} {G:Option Addr} {aD:Nat} {R:List Pt} (hu:(ids R).Nodup) (av:R.Pairwise kG) (ai:R.length=n) (T:0<n) (ak:n<=1000000) (am:w.ownsRow base 3 1 (az g n c) n ((List.range n).map fE))
  (Q:w.cell? (ag tc 0)=some (aj tb)) (H:w.cell? (ag tb 0)=some (.slice G n aD)) (D:bW dw 3 w G R) (I:tc≠g) (J:tb≠g) (o:∀ad,G=some ad->ad.block≠g):
  aK 98 #[az g n c,.func (.func 99) #[] #[aj tc]] w fun e w'=>
   e=.returned (.tuple #[])/\w'.ownsRow base 3 1 (az g n c) n ((dS R).map fE)/\ay (fun k=>k=g) w w':=by
 haveI:Inhabited (Fin n):=⟨⟨0,T⟩⟩
 obtain⟨a,ab,z,aJ,ah,an,ht⟩:∃a:Array Value,base<=g/\w.heap[g]? =some (.cells a 3 (0,0))/\n<=c/\c<=maxLen/\a.size=c/\a.toList.take n=(List.range n).map fE:=by
  rcases am.2 with⟨e,-⟩|⟨aI,aE,a,e,E,F,ax,aB,aP,aC⟩
  .cases e
  .injection e with f aH S;injection f with f;injection f with f _ _;subst f S;exact⟨a,E,F,ax,aB,aa,by rwa [iQ]at aC⟩
 obtain⟨l,A⟩:∃l:List (Fin n),l=List.finRange n:=⟨_,rfl⟩;have r:l.length=n:=by rw[A];simp
 have P:l.map (fun i:Fin n=>(i:Nat))=List.range n:=by rw[A];exact rG aA (fun i I J=>aA)
 obtain⟨enc,s⟩:∃enc:Fin n->Value,enc=fun i=>fE i.val:=⟨_,rfl⟩;have ae:l.map enc=(List.range n).map fE:=by rw[<-P,vz,s];rfl
 have U:Holds enc w g 0 l.toArray:=holds_of_block z (by rw[r,ht,ae]);have af:g<w.heap.size:=(aZ.1 z).1;have O:∀(m:Nat) (os:Array Obj) (dk:Array (Fin n)),ay (fun k=>k=g) w (sortWorld enc w g 0 m dk os):=fun m os dk=>by
  refine⟨rfl,rfl,rfl,?_,fun k aL B=>?_⟩
  .show w.heap.size<=((w.heap.modify g _)++os).size;simp
  .show((w.heap.modify g _)++os)[k]? =_;rw[xK aG,xN,aN (fun e=>B e.symm)]
 have ar:=gX w _ Q;have aq:=gX w _ H;have V:CmpLays1 prog 99 #[aj tc] enc (fun i j:Fin n=>og (bS R i) (bS R j)) g 0 l.toArray.size w:=fun m os dk _ x y=>by
  have K:=O m os dk;rw[s]at K |-;refine(Rm (((cz K ar I).1 0).trans Q) (((cz K aq J).1 0).trans H) ?_ ai x y x.2 y.2 ak).mono fun e w' ⟨v,q,aw,au⟩=>⟨v,q,aw,au⟩;rcases D with D|⟨b,off,rfl,M,W⟩
  .exact .inl D
  .exact .inr ⟨b,off,rfl,bX M K.size,fun i hi j t=>((cz K M (o _ rfl)).1 _).trans (W i hi j t)⟩
 have u:=Any.slices_SortFunc Tryz.GR enc (fun x=>by rw[s];rfl) (fun i j:Fin n=>og (bS R i) (bS R j)) (VM R n) 99 #[aj tc] g 0 c l.toArray w JJ V U af (by simp[r];omega);change aK 98 _ _ _ at u;rw[show l.toArray.size=n by simpa using r]at u;refine u.mono ?_;rintro e w' ⟨v,d',m,os,hp,ao,rfl⟩;have C:=si (d:=l.toArray) (d':=d') (by rw[show l.toArray.size=n by simpa using r];exact hp);have N:d'.toList.length=n:=by rw[C.length_eq];simpa using r
 have L:=qD av hu;have X:(d'.toList.map fun i:Fin n=>(i:Nat)).Pairwise (zS R):=by
  refine dx.2 ?_;have al:d'.toList.Nodup:=C.nodup_iff.2 (by rw[A];simpa using List.nodup_finRange n);have ap:d'.toList.Pairwise fun i j:Fin n=>¬og (bS R j) (bS R i)<0:=by
   rw[gU];intro i j hi t ac;have aM:d'.size=n:=aQ N;have o:=ao i j (aY _) ac (by simp at t |-;omega);simp at hi t;rw[rR d' j aa,rR d' i aa]at o;unfold ltOf at o;simpa using o
  refine List.Pairwise.imp (fun{i j} h=>?_) (ap.and al);have⟨E,F⟩:=h;rw[qC]at E;have B:(i:Nat)≠(j:Nat):=fun e=>F (Fin.ext e);have:=Jw hu (i:=i) (k:=j) aa aa B;unfold jJ at this;unfold zS;unfold sW at*;omega
 have Y:d'.toList.map (fun i:Fin n=>(i:Nat))=dS R:=by
  refine ql (R:=zS R) (fun i=>wE _) (fun h h'=>Dx h h') X L.Uk fun i=>?_;rw[(C.map _).mem_iff,L.live,rz];show i∈l.map _↔_;rw[P,uX];constructor
  .intro h;rw[aO aa]
  .intro h;by_cases p:i<R.length
   .omega
   .rw[aN p]at h;cases h
 obtain⟨aF,-,-,-,p⟩:=rV (enc:=enc) (l:=l) (l':=d'.toList) ab z aa ah an aa m os;rw[N]at p;have Z:d'.toList.map enc=(dS R).map fE:=by rw[<-Y,vz,s];rfl
 rw[Z]at p;refine⟨v,?_,O m os d'⟩;simpa[sortWorld]using p
theorem Hg (a:Option Addr) (c:Nat) (l:List Pt) (w:World) (s:bW dw 3 w a l) (O:l.length<=1000000) (x:Il l):
  aK 97 #[.slice a l.length c] w (gm w (.bool (lF l))):=by
 have B:=af s;have E:=af x;clear s x;have N:=@run_makeMap prog;go_enter func97,ntmps97;go_wp2
 go_loopw [9] (fun k wr=>∃i:Nat,k=.int .i64 i/\i<=l.length/\Below w.heap.size w wr/\Hid (∃(D:DataW Unit),wr.ownsMap prog 27 (plainElem prog 3) w.heap.size i D/\nO D l i)) (fun k _=>l.length-(intOf k).toNat)
 case atStart=>exact⟨0,rfl,aY _,(aJ _ _).alloc (aB _) _,⟨.map [],xU _ _ _ _,[],IsM.empty _ _⟩⟩
 case round=>
  obtain⟨i,rfl,hi,e,HO⟩:=hrel;by_cases g:i<l.length
  .obtain⟨b,off,q,M,f⟩:=(B.o.below e).get aa;have K:=f i g 0 aa;have x1:=f i g 1 aa;have x2:=f i g 2 aa;simp only[dw,fI,dz,dI]at K x1 x2;have G:Hid (keyOf prog 27 (.int .u32 l[i].2.2)=some (.int .u32 l[i].2.2)):=yn underlying27 (E.o _ (bF _));obtain⟨D,t,d⟩:=HO.o;have n:=af (d.put g);have L:=e.size;have m:=af q;clear HO f d q;generalize l[i]=p at*;obtain⟨I,J,H⟩:=p;obtain rfl:=m.o;clear m;have h:=t.kept (qR wr (.cells #[ae I,ae J,au H] 29) none) aA
   go_wp2_with (at_mapUpdate;refine xO _ rfl _ _ _ 26 rfl 27 3 (int_keyed underlying27) underlying26 _ w.heap.size i _ rfl h dJ _ _ _ rfl rfl G.o _ [] (ve underlying3 (by simp[Lit.wf,IntKind.min,IntKind.max,IntKind.bits,IntKind.signed];omega)) ?_;intro w3 u r)
   have y:Below w.heap.size wr w3:=(((aJ _ wr).alloc aa _)).grown r aG (fun j F=>by cases F;omega);have A:Hid (∃(D:DataW Unit),w3.ownsMap prog 27 (plainElem prog 3) w.heap.size (i+1) D/\nO D l (i+1)):=⟨_,u,n.o⟩;have z:=e.trans y;clear u r h t n;go_wp2;go_roundw
   case rel=>exact⟨i+1,by go_num,aa,z,A⟩
   case measure=>exact eO
  .obtain rfl:i=l.length:=aa;obtain⟨D,h,d⟩:=HO.o;have v:=d.size;have C:=af v;clear v d HO
   go_wp2_with (at_len;refine wpList_len_own _ rfl _ 26 rfl 27 3 underlying26 _ w.heap.size _ _ rfl h ?_)
   go_ret;exact⟨by rw[C.o];rfl,e⟩
theorem cZ.grow {w:World} {lo hi a tb fb:Nat} {R:List Pt} {h:iI} {cnt:Int} {V:mh} (H:cZ w lo hi tb fb R h cnt V) (b:hi<=a) (c:a<=w.heap.size):cZ w lo a tb fb R h cnt V:=
 ⟨H.blk,⟨H.fA.1,by have:=H.fA.2.1;omega,H.fA.2.2.1,by have:=H.fA.2.2.2.1;omega,c⟩,H.row,H.xs,H.iH,H.je,H.oo,fun v d g e=>bX (H.top v d g e) b⟩
theorem Pe (n:Nat):Im (fun _=>none) n=List.replicate n (.int .i64 (-1)):=by
 apply rG (by simp[Im]);intro i a b;simp[Im,oq]
theorem Pf {w:World} {base n tb tc:Nat} {av:Value} {f:Option Addr} {z:Nat} {R:List Pt} (hu:(ids R).Nodup) (u:R.Pairwise kG) (i:R.length=n) (q:n<=1000000) (b:w.ownsRow base 3 1 av n ((List.range n).map fE))
  (t:w.cell? (ag tc 0)=some (aj tb)) (j:w.cell? (ag tb 0)=some (.slice f n z)) (s:bW dw 3 w f R) (m:∀g,av.ownBlock=some g->tc≠g/\tb≠g/\∀ad,f=some ad->ad.block≠g):
  aK 98 #[av,.func (.func 99) #[] #[aj tc]] w fun e w'=>
   e=.returned (.tuple #[])/\w'.ownsRow base 3 1 av n ((dS R).map fE)/\ay (fun k=>av.ownBlock=some k) w w':=by
 by_cases l:n=0
 .subst l;have o:R=[]:=gV i;subst o;obtain⟨a,c,rfl⟩:=fH b;have h:=Iq ({Tryz.GR with}) a c (.func (.func 99) #[] #[aj tc]) w;change aK 98 _ _ _ at h;refine h.mono ?_;rintro e w' ⟨d,rfl⟩;exact⟨d,by simpa[dS,kz]using b,ay.refl _ _⟩
 .obtain⟨g,c,rfl,-,-,-,-⟩:=aU b aa;have⟨v,x,y⟩:=m g rfl;refine(Rn hu u i aa q b t j s v x y).mono ?_;rintro e w' ⟨d,r,p⟩;exact⟨d,r,p.mono fun k e=>by subst e;rfl⟩
theorem JK:fV 100:=bY func100 aM rfl
theorem Pg {w:World} {base:Nat} {e:TypeId} {sz:Nat} {a:Option Addr} {n c m:Nat} {xs:List Value} (h:w.ownsRow base e sz (.slice a n c) m xs):∀ad,a=some ad->(Value.slice a n c).ownBlock=some ad.block:=fun ad d=>by
 subst d;rcases h.2 with⟨b,-⟩|⟨g,f,i,b,-⟩
 .cases b
 .injection b with b;injection b with b;subst b;rfl
def FD (w:World) (R:List Pt) (e:Ending) (w':World):Prop:=
 ∃tb fb V,e=.returned (.tuple #[aj tb,ae 0])/\cZ w' w.heap.size w'.heap.size tb fb R (Ca R) R.length V/\Below w.heap.size w w'
structure Ro (w:World) (lo fb tb tc n:Nat) (rv nv fv:Value) (l:List Pt):Prop where
 row:w.ownsRow lo 29 3 rv n (l.flatMap dw)
 je:w.ownsRow lo 163 7 nv (aW n).length ((aW n).flatMap oN)
 iH:nN w lo fb n fv
 KT:w.heap[tc]? =some (.cells #[aj tb] 87 (0,0))
 Qp:lo<=fb
theorem Ro.kept {S:Nat->Prop} {w w':World} {lo fb tb tc n:Nat} {s r p:Value} {l:List Pt} (h:Ro w lo fb tb tc n s r p l) (K:ay S w w') (hS:∀k,k<w.heap.size->S k->∃cs t fr,w.heap[k]? =some (.cells cs t fr)/\t≠29/\t≠163/\t≠236/\t≠87):Ro w' lo fb tb tc n s r p l:=by
 have blk:∀{b:Nat} {m:Array Value} {j:TypeId} {o:Nat×Nat},w.heap[b]? =some (.cells m j o)->(∀cs t fr,w.heap[b]? =some (.cells cs t fr)->S b->t≠j)->w'.heap[b]? =some (.cells m j o):=fun q v=>bq K q fun u=>v _ _ _ q u rfl;refine⟨oZ h.row K fun k g f=>?_,oZ h.je K fun k g f=>?_,⟨bq K h.iH.blk fun f=>?_,oZ h.iH.row K fun k g f=>?_⟩,bq K h.KT fun f=>?_,h.Qp⟩
 .obtain⟨cs,t,fr,a,b,c,d,e⟩:=hS k g f;exact⟨cs,t,fr,a,b⟩
 .obtain⟨cs,t,fr,a,b,c,d,e⟩:=hS k g f;exact⟨cs,t,fr,a,c⟩
 .have i:=(aZ.1 h.iH.blk).1;have⟨cs,t,fr,a,b,c,d,e⟩:=hS fb i f;have:=a.symm.trans h.iH.blk;injection this with this;injection this with _ this _;exact d this
 .obtain⟨cs,t,fr,a,b,c,d,e⟩:=hS k g f;exact⟨cs,t,fr,a,c⟩
 .have i:=(aZ.1 h.KT).1;have⟨cs,t,fr,a,b,c,d,e⟩:=hS tc i f;have:=a.symm.trans h.KT;injection this with this;injection this with _ this _;exact e this
theorem Cr {w:World} {base:Nat} {e:TypeId} {sz:Nat} {v:Value} {n:Nat} {xs:List Value} (h:w.ownsRow base e sz v n xs) {k:Nat} (a:v.ownBlock=some k):∃cs fr,w.heap[k]? =some (.cells cs e fr):=by
 rcases h.2 with⟨rfl,-⟩|⟨g,c,d,rfl,-,b,-⟩
 .cases a
 .injection a with a;subst a;exact⟨_,_,b⟩
theorem JL (a:Option Addr) (c:Nat) (l:List Pt) (w:World) (bo:bW dw 3 w a l) (dE:l.length<=20000) (db:Il l) (hu:lF l=true):
  aK 37 #[.slice a l.length c] w (FD w (eX l)):=by
 have aX:=Hg a c l w bo aa db;rw[hu]at aX;have eb:=af bo;obtain⟨n,bp⟩:∃n,n=l.length:=⟨_,rfl⟩;have co:=af (fun W (b8:Below w.heap.size w W)=>oQ a l n c W bp.symm (bo.below b8) aa);have cA:=af bp;rw[<-bp]at dE aX |-;have am:=af (fun W=>yE n aa W);clear bp bo;have d1:decide ((n:Int)>2147483648)=false:=aG;have d2:decide ((2147483648:Int)<(n:Int))=false:=aG;have d3:decide (2147483648<n)=false:=aG;have cW:(ids l).Nodup:=by unfold lF at hu;simpa using hu
 have bH:=af cW;clear cW hu db;go_enter func37,ntmps37
 go_wp2_with (go_at_call 97;refine aX.mono ?_;rintro e w1 ⟨rfl,bh⟩;clear aX)
 go_wp2_with fail
 refine(am.o w1).mono ?_;rintro e w2 ⟨rfl,a4⟩;have ap:Hid (Below w.heap.size w w2):=by rw[a4];exact bh.alloc bh.size _
 have bC:Hid (w2.heap[w1.heap.size]? =some (lq 0 0 (aL) n)):=by rw[a4];exact bV w1 _
 obtain⟨fb,cc⟩:∃fb,fb=w1.heap.size:=⟨_,rfl⟩;have bl:w.heap.size<=fb/\fb<w2.heap.size:=by rw[a4,cc];exact⟨bh.size,aA⟩
 rw[<-cc]at bC |-;clear a4 bh cc am
 go_wp2_with fail
 refine(co.o w2 ap.o).mono ?_;rintro e w3 ⟨em,rfl,ch,b9⟩;have cb:=(b9.block fb bl.2).trans bC.o;have bx:Hid (Below w.heap.size w w3):=ap.o.trans (b9.mono ap.o.size);have cB:=af (bI ch ap.o.size);have cp:=af (gK fb n aa w3 cb);have cv:=af cb;obtain⟨q,m,rfl⟩:=fH ch;clear ch b9 cb co bC ap
 go_wp2_with fail
 refine cp.o.mono ?_;rintro e w4 ⟨D,dW,rfl,ji,ce,cS,A⟩;have ci:=bx.o.size;have cC:Hid (w4.ownsRow w.heap.size 29 3 (.slice q n m) n (l.flatMap dw)):=Jk cB.o ai cv.o A;have bF:Hid (nN w4 w.heap.size fb n D):=⟨cS,bI ji ci⟩;have cy:Hid (w4.ownsRow w.heap.size 163 7 dW (aW n).length ((aW n).flatMap oN)):=bI ce ci;have F:Hid (Below w.heap.size w w4):=bx.o.trans (A.toBelow ci (fun k h=>by have:=bl.1;omega));obtain⟨t,nc,rfl⟩:=fH ce;obtain⟨M,bc⟩:∃M,M=(aW n).length:=⟨_,rfl⟩;have bN:=af bc;have ec:M<=40000:=by rw[bc,dh];omega
 rw[<-bc];clear ji ce cS A cp bc cB cv bx
 go_upto_region 9 with fail
 obtain⟨wc,aC⟩:∃wc,wc=(w4.alloc (.cells #[.slice q n m,aL,aj fb,.slice t M nc,aL,ae n] 155)).alloc (.cells #[aj w4.heap.size] 87):=⟨_,rfl⟩;have ca:Below w4.heap.size w4 wc:=by rw[aC];exact((aJ _ _).alloc (aB _) _).alloc aA _
 obtain⟨tb,aU⟩:∃tb,tb=w4.heap.size:=⟨_,rfl⟩;have cO:wc.heap[tb]? =some (Mt (.slice q n m) (aL) fb (.slice t M nc) (aL) n):=by rw[aC,aU];exact F4 w4 _ _
 have bd:wc.heap[tb+1]? =some (.cells #[aj tb] 87 (0,0)):=by rw[aC,aU];exact CV w4 _ _
 rw[<-aC,<-aU];have U:Hid (Ro wc w.heap.size fb tb (tb+1) n (.slice q n m) (.slice t M nc) D l):=by
  have K:ay (fun _=>False) w4 wc:=(ay.refl _ w4).below ca;exact⟨aR cC.o K (fun _ _ h=>h),by rw[<-bN.o];have:=aR cy.o K (fun _ _ h=>h);rwa [<-bN.o]at this,⟨bq K bF.o.blk (fun h=>h),aR bF.o.row K (fun _ _ h=>h)⟩,bd,bl.1⟩
 have aq:=af cO;have bw:Hid (Below w.heap.size w wc):=F.o.trans (ca.mono F.o.size);have dO:w.heap.size<=tb:=by rw[aU];exact F.o.size
 obtain⟨tc,N⟩:∃tc,tc=tb+1:=⟨_,rfl⟩;rw[<-N]at U bd |-;clear aC ca cO cC bF cy F aU N;have cl:=(aZ.1 aq.o).1;have cr:=af (yK cA.o.symm aa U.o.row bH.o);have cP:=aq.o;have b0:wc.cell? (ag tb 0)=some (.slice q n m):=aF cP;have t0:wc.cell? (ag tc 0)=some (aj tb):=aF bd;clear cP bd
 go_wp2_with fail
 refine cr.o.mono ?_;rintro e w4 ⟨rfl,cX,A⟩;have cL:Ro w4 w.heap.size fb tb tc n (.slice q n m) (.slice t M nc) D (eX l):=by
  have h:=U.o;have f:=h.kept (S:=fun k=>(Value.slice q n m).ownBlock=some k) A;refine⟨cX,oZ h.je A fun k y f=>?_,⟨bq A h.iH.blk fun f=>?_,oZ h.iH.row A fun k y f=>?_⟩,bq A h.KT fun f=>?_,h.Qp⟩
  .obtain⟨cs,fr,e⟩:=Cr h.row f;exact⟨cs,_,fr,e,ai⟩
  .exact bn h.row h.iH.blk ai fb f rfl
  .obtain⟨cs,fr,e⟩:=Cr h.row f;exact⟨cs,_,fr,e,ai⟩
  .exact bn h.row h.KT ai tc f rfl
 have V:Hid (w4.heap[tb]? =some (Mt (.slice q n m) (aL) fb (.slice t M nc) (aL) n)):=bq A aq.o (fun h=>bn U.o.row aq.o ai tb h rfl);have F:Hid (Below w.heap.size w w4):=bw.o.trans (A.toBelow bw.o.size (fun k h=>(U.o.row.lt k h).1));have H:=af cL;have z:(eX l).length=n:=by rw[(dQ l).length_eq];exact cA.o.symm
 have cN:(ids (eX l)).Nodup:=((dQ l).map _).nodup_iff.2 bH.o;have a2:Hid ((eX l).Pairwise kG/\(ids (eX l)).Nodup):=⟨fT bH.o,cN⟩;clear cX A cL U aq bw cr cN b0 t0 cl;generalize dB:eX l=R at*;clear dB;have cl:=(aZ.1 V.o).1;have c6:=(aZ.1 H.o.KT).1;have c9:=V.o;have N:=H.o.KT;have b0:w4.cell? (ag tb 0)=some (.slice q n m):=aF c9;have t0:w4.cell? (ag tc 0)=some (aj tb):=aF N;clear c9 N
 go_wp2_with fail
 have dF:tc≠tb:=fun e=>by
  have y:=H.o.KT;rw[e,V.o]at y;injection y with y;injection y with _ y _;exact absurd y ai
 go_loopg [7,43] n (fun dV d0 dZ wr=>∃(i:Nat) (cn av:Value),dZ=.int .i64 i/\d0=av/\i<=n/\n-i<=dV/\Hid (wr.heap[tb]? =some (Mt (.slice q n m) cn fb (.slice t M nc) (aL) n))/\Hid (wr.ownsRow w4.heap.size 2 1 cn i (((bT R).take i).map (Value.int .i64)))/\Hid (wr.ownsRow w4.heap.size 3 1 av i ((List.range i).map fE))/\Hid (ay (fun k=>k=tb) w4 wr))
 case atStart=>exact⟨0,_,_,rfl,rfl,aY _,aa,V,dA _ _ _ _,dA _ _ _ _,ay.refl _ _⟩
 case round=>
  obtain⟨i,cn,av,rfl,rfl,hi,eh,ar,X,T,G⟩:=hrel;by_cases eg:i<n
  .have c1:=aR H.o.row G.o (fun g h f=>bn H.o.row V.o ai g h f.symm);obtain⟨_,_,b4,-,-,aQ⟩:=bW.aD bg ai c1;injection b4 with b1 b2 b3;subst b1;clear b2 b3;obtain⟨b,off,du,ed,bj⟩:=aQ.get aa;have cm:=bj i aa 0 aa;have x1:=bj i aa 1 aa;have x2:=bj i aa 2 aa;simp only[dw,fI,dz,dI]at cm x1 x2;have dc:(bT R).take (i+1)=(bT R).take i++[R[i].1]:=by
    have h:i<(bT R).length:=by unfold bT;simp;omega
    rw[ik h];simp[bT]
   have cF:=af dc;subst du;clear bj aQ dc c1;generalize R[i]=p at*;obtain⟨aV,dj,dg⟩:=p;simp only at cF cm x1 x2;have N:=ar.o;have c8:=(aZ.1 N).1;have ck:=(G.o.block tc c6 dF).trans H.o.KT;have c7:=(aZ.1 ck).1;obtain⟨r,s,rfl⟩:=fH X.o;obtain⟨aw,ac,rfl⟩:=fH T.o
   go_upto_region 14 with fail
   obtain⟨w6,J⟩:∃w6,w6=wr.alloc (.cells #[ae aV,ae dj,au dg] 29):=⟨_,rfl⟩;have x:Below wr.heap.size wr w6:=by rw[J];exact(aJ _ _).alloc (aB _) _
   have ab:w6.heap[wr.heap.size]? =some (.cells #[ae aV,ae dj,au dg] 29 (0,0)):=by rw[J];exact bV wr _
   have cj:=(x.block tb c8).trans N;have c4:=(x.block tc c7).trans ck;have c2:=G.o.size;have c3:=x.size;have al:∀g,(Value.slice r i s).ownBlock=some g->w4.heap.size<=g/\g<wr.heap.size:=fun g h=>X.o.lt g h;have df:¬(Value.slice r i s).ownBlock=some tb:=fun h=>by have:=(al tb h).1;omega
   have dd:¬(Value.slice r i s).ownBlock=some tc:=fun h=>by have:=(al tc h).1;omega
   have de:¬(Value.slice r i s).ownBlock=some wr.heap.size:=fun h=>by have:=(al _ h).2;omega
   have bs:∀{bk o:Nat} {v:Value},bk<w6.heap.size->¬(Value.slice r i s).ownBlock=some bk->w6.cell? (ag bk o)=some v->∀p:wH (fun k=>(Value.slice r i s).ownBlock=some k) w6,p.W.cell? (ag bk o)=some v:=fun b8 hd da p=>((cz p.h b8 hd).1 _).trans da;have dH:wr.heap.size<w6.heap.size:=(aZ.1 ab).1;have a6:=bs (bX c7 c3) dd (o:=0) (v:=aj tb) (aF c4);have b5:=bs (bX c8 c3) df (o:=1) (v:=.slice r i s) (aF cj);have dx:=bs dH de (o:=0) (v:=.int .i64 aV) (aF ab);have bR:=af (ak X.o x);have bu:=af (ak T.o x);have cx:Hid (ay (fun k=>k=tb) w4 w6):=G.o.below x;have cD:=af cj;rw[<-J];clear J x ab cj c4 ck N cm x1 x2 bs dd de df;refine ax (fun W=>∃p:wH (fun k=>(Value.slice r i s).ownBlock=some k) w6,W=p.W) [9,10,11] [(0,true),(1,true),(2,false),(3,false),(4,true),(5,false),(6,true)] ⟨⟨_,(ay.refl _ _).drew⟩,rfl⟩ 5 ?_;refine aH 7 rfl fun K u=>?_;go_simp;refine u _ _ (fun _ _=>⟨⟨_,((ay.refl _ w6).alloc _).drew⟩,rfl⟩) ?_;clear u K;refine aH 8 rfl fun K u=>?_;refine bD zV w4.heap.size (w:=(w6.alloc (.cells #[ae aV] 2)).drew) (ak bR.o ((aJ _ w6).alloc (aB _) _|>.drew)) [.int .i64 aV] rfl (by simp[Value.oneCell']) rfl (.tmp 52) (.tmp 55) rfl rfl w6.heap.size rfl (kY _ _) dJ aa aG ?_;intro L I d cg cV ef ei;have cU:w6.grownBy d (Value.slice r i s).ownBlock:=dR (bM ((aJ _ w6).alloc (aB _) _|>.drew)) cV;have Y:ay (fun k=>(Value.slice r i s).ownBlock=some k) w6 d:=(ay.refl _ w6).grown cU (fun k aO=>.inl aO);refine u _ _ (fun _ _=>⟨⟨_,Y⟩,rfl⟩) ?_;clear u K;refine aI [9,10,11] ?_;have br:=bq Y cD.o (fun h=>by have:=(al tb h).1;omega);have dY:d.cell? (ag tb 1)=some (.slice r i s):=aF br;have f8:d.frozen? (ag tb 1)=false:=aF br;have cE:Hid ((d.setCell (ag tb 1) (az L (i+1) I)).heap[tb]? =some (Mt (.slice (some (ag b off)) n m) (az L (i+1) I) fb (.slice t M nc) (aL) n)):=di d tb 1 _ _ _ br;have bZ:ay (fun k=>k=tb) d (d.setCell (ag tb 1) (az L (i+1) I)):=(ay.refl (fun k=>k=tb) d).set (a:=(ag tb 1)) (az L (i+1) I) (.inl rfl);have bS:Hid ((d.setCell (ag tb 1) (az L (i+1) I)).ownsRow w4.heap.size 2 1 (az L (i+1) I) (i+1) (((bT R).take (i+1)).map (Value.int .i64))):=by
    have a8:=aR (S:=fun k=>k=tb) cg bZ (fun g h f=>by have:=(cg.lt g h).1;omega);show World.ownsRow _ _ _ _ _ _ _;rw[cF.o,bL];exact a8
   have an:=aR bu.o Y (fun g h f=>bA bu.o bR.o ai g h f);have ao:Hid ((d.setCell (ag tb 1) (az L (i+1) I)).ownsRow w4.heap.size 3 1 (.slice aw i ac) i ((List.range i).map fE)):=aR an bZ (fun g h f=>by have:=(an.lt g h).1;omega);have bK:Hid (ay (fun k=>k=tb) w4 (d.setCell (ag tb 1) (az L (i+1) I))):=((cx.o.mono (S':=fun k=>k=tb\/w4.heap.size<=k) (fun k h=>.inl h)).trans (Y.mono (fun k h=>.inr (al k h).1))).strip.set (a:=(ag tb 1)) _ (.inl rfl);have ej:=Y.size;clear Y cU cV cg br a6 b5 dx bR cD cx al an bu T X ar G bZ
   go_upto_region 15 with fail
   obtain⟨P,cH⟩:∃P,P=d.setCell (ag tb 1) (az L (i+1) I):=⟨_,rfl⟩;rw[<-cH]at cE bS ao bK |-;have dN:w4.heap.size<=P.heap.size:=bK.o.size;clear cH dY f8
   go_wp2_with (at_builtin;refine cu nI w4.heap.size ao.o [.int .i64 (i:Nat)] rfl (by simp[Value.oneCell']) rfl _ _ rfl rfl _ rfl dJ aa dN ?_;intro d4 d8 dG dD ee)
   go_roundg (n-(i+1))
   case measure=>omega
   case rel=>
    have bY:ay (fun k=>(Value.slice aw i ac).ownBlock=some k) P d8:=(ay.refl _ P).grown dD (fun k aO=>.inl aO);refine⟨i+1,_,d4,by go_num,rfl,aa,aB _,bq bY cE.o (fun h=>by have:=(ao.o.lt tb h).1;omega),aR bS.o bY (fun g h f=>bA bS.o ao.o ai g h f),?_,?_⟩
    .show World.ownsRow _ _ _ _ _ _ _;rw[pO,bL];exact dG
    .exact((bK.o.mono (S':=fun k=>k=tb\/w4.heap.size<=k) (fun k h=>.inl h)).trans (bY.mono (fun k h=>.inr (ao.o.lt k h).1))).strip
  .obtain rfl:i=n:=aa;obtain⟨aw,ac,rfl⟩:=fH T.o;have a1:Hid (Ro wr w.heap.size fb tb tc i (.slice q i m) (.slice t M nc) D R):=H.o.kept G.o (fun k y f=>by subst f;exact⟨_,_,_,V.o,ai,ai,ai,ai⟩);have bz:Hid (Below w.heap.size w wr):=F.o.trans (G.o.toBelow F.o.size (fun k h=>aa));have be:=X.o;rw[jK (by unfold bT;simp;omega)]at be;have bU:=af be;have c2:=G.o.size;have a9:=T.o;have bt:=af a9;have aT:=ar.o;have B:=a1.o.KT;have cG:wr.cell? (ag tb 0)=some (.slice q i m):=aF aT;have dk:wr.cell? (ag tc 0)=some (aj tb):=aF B;obtain⟨_,_,b4,-,-,aQ⟩:=bW.aD bg ai a1.o.row;injection b4 with b1 b2 b3;subst b1;clear b2 b3;have aM:∀g,(Value.slice aw i ac).ownBlock=some g->w4.heap.size<=g:=fun g h=>(a9.lt g h).1;have cq:=af (Pf a2.o.2 a2.o.1 z aa a9 dk cG aQ (fun g h=>⟨by have:=aM g h;omega,by have:=aM g h;omega,fun ad e a8=>by
    have b6:=Pg H.o.row ad e;have:=(H.o.row.lt _ b6).2;have:=aM g h;omega⟩))
   have ct:=af aM;obtain⟨r,s,rfl⟩:=fH be;clear be a9 aT B aQ aM b0 t0 cG dk X T G
   go_wp2_with fail
   refine cq.o.mono ?_;rintro e j ⟨rfl,c0,aP⟩;have bO:Hid (Ro j w.heap.size fb tb tc i (.slice q i m) (.slice t M nc) D R):=a1.o.kept aP (fun k y f=>by obtain⟨cs,fr,e⟩:=Cr bt.o f;exact⟨cs,_,fr,e,ai,ai,ai,ai⟩);have bQ:Hid (j.heap[tb]? =some (Mt (.slice q i m) (.slice r i s) fb (.slice t M nc) (aL) i)):=bq aP ar.o (fun h=>by have:=ct.o tb h;omega);have dp:Hid (j.ownsRow w.heap.size 2 1 (.slice r i s) i ((bT R).map (Value.int .i64))):=bI (aR bU.o aP (fun g h f=>bA bU.o bt.o ai g h f)) F.o.size;have bv:=af c0;have bB:Hid (Below w.heap.size w j):=bz.o.trans (aP.toBelow bz.o.size (fun k h=>by have:=ct.o k h;have:=F.o.size;omega));have dU:=(aZ.1 bQ.o).1;have el:=(aZ.1 bO.o.KT).1;have aT:=bQ.o;have B:=bO.o.KT;clear c0 aP cq a1 bz bU bt ar cl c6 c2;have a6:=ah (w:=j) (ad:=(ag tc 0)) (v:=aj tb) (aF B);have b5:=ah (w:=j) (ad:=(ag tb 3)) (v:=.slice t M nc) (aF aT);clear aT B
   go_upto_region 18 with fail
   refine ax (fun W=>∃p:aS j,W=p.W) [8,9,10] [(0,true),(2,true),(3,false),(4,false),(5,true),(6,false)] ⟨⟨_,(aJ _ _).drew⟩,rfl⟩ 5 ?_;refine aH 1 rfl fun K u=>?_;obtain⟨w6,J⟩:∃w6,w6=(j.alloc (.cells #[ae (-1)] 3)).drew:=⟨_,rfl⟩;have x:Below j.heap.size j w6:=by rw[J];exact((aJ _ _).alloc (aB _) _).drew
   have ab:w6.heap[j.heap.size]? =some (.cells #[ae (-1)] 3 (0,0)):=by rw[J];exact bV j _
   go_simp;rw[<-J];clear J;refine u _ _ (fun _ _=>⟨⟨_,x⟩,rfl⟩) ?_;clear u K;refine aH 7 rfl fun K u=>?_;refine bf JK rfl _ _ rfl (vals:=#[az j.heap.size 1 1,ae M]) rfl (Pd w6 j.heap.size M ab aa) ?_;rintro e C ⟨da,rfl,cf,cQ⟩;have Z:Below j.heap.size j C:=x.trans (cQ.mono x.size);refine⟨_,rfl,u _ _ (fun _ _=>⟨⟨_,Z⟩,rfl⟩) ?_⟩;clear u K;refine aI [8,9,10] ?_;have O:=(Z.block tb dU).trans bQ.o;have dX:C.cell? (ag tb 4)=some (aL):=aF O;have f7:C.frozen? (ag tb 4)=false:=aF O;obtain⟨aE,aN,rfl⟩:=fH cf;obtain⟨d,a5⟩:∃d,d=C.setCell (ag tb 4) (.slice aE M aN):=⟨_,rfl⟩;have Q:ay (fun k=>k=tb) C d:=by rw[a5];exact(ay.refl (fun k=>k=tb) C).set (a:=(ag tb 4)) _ (.inl rfl)
   have a3:ay (fun _=>False) j C:=(ay.refl _ j).below Z;have cM:Ro C w.heap.size fb tb tc i (.slice q i m) (.slice t M nc) D R:=bO.o.kept a3 (fun k y f=>f.elim);have E:Ro d w.heap.size fb tb tc i (.slice q i m) (.slice t M nc) D R:=cM.kept Q (fun k y f=>by subst f;exact⟨_,_,_,O,ai,ai,ai,ai⟩);have b7:=fo (aR dp.o a3 (fun _ _ h=>h)) Q O ai;have ba:=fo cf Q O ai;have cJ:=fo (aR bv.o a3 (fun _ _ h=>h)) Q O ai;have dK:j.heap.size<=w6.heap.size:=x.size;have dL:j.heap.size<=C.heap.size:=Z.size;have dM:C.heap.size<=d.heap.size:=Q.size;have ek:=bB.o.size;have cw:Hid (cZ d w.heap.size d.heap.size tb fb R (fun _=>none) i ⟨.slice q i m,.slice r i s,.slice t M nc,.slice aE M aN,D⟩):=by
    refine⟨by rw[a5];exact di C tb 4 _ _ _ O,⟨dO,aa,bl.1,(aZ.1 E.iH.blk).1,aB _⟩,by rw[z];exact E.row,by rw[z];exact b7,by rw[z];exact E.iH,by rw[z];exact E.je,?_,?_⟩
    .rw[z,<-bN.o,Pe];exact bI ba aa
    .rintro v (rfl|rfl|rfl|rfl|rfl) g e
     .exact(E.row.lt g e).2
     .exact(b7.lt g e).2
     .exact(E.je.lt g e).2
     .exact(ba.lt g e).2
     .exact(E.iH.row.lt g e).2
   have a0:Hid (Below w.heap.size w d):=(bB.o.trans (Z.mono bB.o.size)).trans (Q.toBelow aa (fun k h=>aa));have an:=af cJ;have bP:=af E.KT;have dT:tc<d.heap.size:=(aZ.1 E.KT).1;have bG:Hid (∀g,(Value.slice aE M aN).ownBlock=some g->j.heap.size<=g):=fun g e=>by have:=(ba.lt g e).1;omega
   clear a6 b5 x ab cf cQ Z O Q a3 cM E b7 ba cJ dK dL dM
   go_upto_region 19 with fail
   rw[<-a5];clear a5 dX f7;by_cases cI:i=0
   .have d5:decide ((i:Int)>0)=false:=aG;have d6:decide ((0:Int)<(i:Int))=false:=aG;have d7:decide (0<i)=false:=aG;have cT:Ca R=fun _=>none:=by
     have dy:R=[]:=gV aa;subst dy;unfold Ca;rw[show dS []=[]from gV (by rw[jW];rfl),yT]
    have bE:Hid (FD w R (.returned (.tuple #[aj tb,ae 0])) d):=⟨tb,fb,⟨.slice q i m,.slice r i s,.slice t M nc,.slice aE M aN,D⟩,rfl,by rw[cT,z];exact cw.o,a0.o⟩;have B:=bP.o;have t8:d.cell? (ag tc 0)=some (aj tb):=aF B;clear cT B cI;go_wp2;go_ret2;exact bE.o
   .have a7:0<i:=aa;have d5:decide ((i:Int)>0)=true:=aG;have d6:decide ((0:Int)<(i:Int))=true:=aG;have d7:decide (0<i)=true:=aG;have bi:Below d.heap.size d d.drew:=(aJ _ _).drew;have cd:=cw.o.below bi (aB _);have bm:=cd.iH.blk;rw[z]at bm;have dm:=af (jA fb i a7 aa d.drew (aF bm) (aF bm));obtain⟨dl,d9,ea⟩:=bJ 0 i a7;have dC:=fu 0 i a7;obtain⟨_,_,dq,-,cR,cY⟩:=Rd.aD (enc:=fE) (ak an.o bi);injection dq with dr ds dt;subst dr dt;have am:=af (MC aa (dP 0 i) 0 (by rw[z];exact jU i a7) dl aa (dS R) d.drew (fun _=>none) aw ac cd cY (by rw[jW];omega) cR (fun ad e a8=>by
     have b6:=Pg bv.o ad e;have:=(bv.o.lt _ b6).2;have:=bG.o _ a8;omega) (fun k aO=>by have:=(qD a2.o.1 a2.o.2).lt aO;omega))
    rw[jW,z,show(dP 0 i).root 0=2*i-2 by unfold FT.root;omega]at am;have dn:Hid (fillH (dP 0 i) 0 (dS R) (fun _=>none)=Ca R):=by show _=_;unfold Ca;rw[z]
    have B:=bP.o;have a6:=ah (w:=d) (ad:=(ag tc 0)) (v:=aj tb) (aF B);clear B bm cd dl d9 ea dC cR cY ds cI
    go_upto_region 20 with fail
    refine ax (fun W=>∃p:aS d,W=p.W) [4] [(0,true),(1,false),(3,false)] ⟨⟨_,(aJ _ _).drew⟩,rfl⟩ 2 ?_;refine aH 2 rfl fun K u=>?_;refine bf mD rfl _ _ rfl (vals:=#[aj fb]) rfl dm.o ?_;rintro e w' ⟨rfl,dv⟩;subst dv;refine⟨_,rfl,u _ _ (fun _ _=>⟨⟨_,bi⟩,rfl⟩) ?_⟩;clear u K;refine aI [4] ?_
    go_wp2_with fail
    refine am.o.mono ?_;rintro e P ⟨rfl,cK,bb⟩;have c5:=(bb.block tc (show tc<d.drew.heap.size from dT) (fun h=>by have:=bG.o tc h;omega)).trans (show d.drew.heap[tc]? =_ from bP.o);have t9:P.cell? (ag tc 0)=some (aj tb):=aF c5;have bE:Hid (FD w R (.returned (.tuple #[aj tb,ae 0])) P):=by
     refine⟨tb,fb,⟨.slice q i m,.slice r i s,.slice t M nc,.slice aE M aN,D⟩,rfl,?_,?_⟩
     .rw[<-dn.o,z];exact cK.grow (by have:=bb.size;exact this) (aB _)
     .exact(a0.o.trans (bi.mono a0.o.size)).trans (bb.toBelow (by have:=a0.o.size;exact this) (fun k h=>by have:=bG.o k h;omega))
    clear cK bb c5;go_wp2;go_ret2;exact bE.o
end
section
open Go.RowKit Go.Sort Go.Shelf Go.Lib Go.Maps
def sN (w:World) (lo hi tb n0:Nat) (l:List Pt):Prop:=
 ∃fb R h V,cZ w lo hi tb fb R h l.length V/\lS R h/\yX R h l/\R.length=n0/\n0<=20000
def zG (n:Nat):Nat:=6*Lib.bitLen n+1
section
variable {w w':World} {lo hi tb n0:Nat} {l:List Pt}
theorem sN.kept {S:Nat->Prop} (h:sN w lo hi tb n0 l) (K:ay S w w') (hS:∀k,lo<=k->k<hi->¬S k):sN w' lo hi tb n0 l:=by
 have⟨fb,R,h,V,a,b⟩:=h;exact⟨fb,R,h,V,a.kept K hS,b⟩
theorem sN.Fx (h:sN w lo hi tb n0 l):l.length<=n0/\n0<=20000:=by
 have⟨fb,R,h,V,c,a,b,d,e⟩:=h;have:=a.few;have:=b.len;omega
theorem TE (a:Option Addr) (c:Nat) (l:List Pt) (w:World) (j:bW dw 3 w a l) (k:l.length<=20000) (m:Il l) (hu:lF l=true):
  aK 37 #[.slice a l.length c] w fun e w'=>∃tb,e=.returned (.tuple #[aj tb,ae 0])/\sN w' w.heap.size w'.heap.size tb l.length l/\Below w.heap.size w w':=
 (JL a c l w j k m hu).mono fun e w' ⟨tb,fb,V,i,b,h⟩=>by
  have g:(ids l).Nodup:=by unfold lF at hu;simpa using hu
  have f:=fT g;have hid:(ids (eX l)).Nodup:=((dQ l).map _).nodup_iff.2 g;have d:(eX l).length=l.length:=(dQ l).length_eq;rw[d]at b;exact⟨tb,i,⟨fb,_,_,V,b,(KL f hid).1,(Mo f hid).trans (dQ l),d,aa⟩,h⟩
theorem TF (h:sN w lo hi tb n0 l) (x1 x2 y:Int):
  aK 41 #[aj tb,ae x1,ae x2,ae y] w fun e w'=>∃v,∃c:Nat,e=.returned (.tuple #[v,ae (c:Nat)])/\((xn l x1 x2 y).length<=c/\c<=2*(xn l x1 x2 y).length+zG n0)/\w'.ownsRow w.heap.size 27 1 v (xn l x1 x2 y).length ((xn l x1 x2 y).map (Value.int .u32))/\Below w.heap.size w w':=by
 have⟨fb,R,h,V,j,a,k,m,p⟩:=h;refine(JF j a aa x1 x2 y).mono ?_;rintro e w' ⟨v,o,g,n⟩;have d:(kP true R h x1 x2 y).1=xq R h x1 x2 y:=by rw[FB a true x1 x2 y];simp
 have⟨i,f⟩:=Cc k x1 x2 y;have b:=yY a aa true x1 x2 y;rw[d,f,m]at b;rw[d,i,f]at g;refine⟨v,_,o,⟨b.1,?_⟩,g,n⟩;have:=b.2;unfold zG;simp only[gG]at this;omega
theorem VN (h:sN w lo hi tb n0 l) (x1 x2 y:Int):
  aK 75 #[aj tb,ae x1,ae x2,ae y] w fun e w'=>(∃c:Nat,e=.returned (.tuple #[.bool (decide (0<(l.filter (qK x1 x2 y)).length)),ae c])/\c<=zG n0)/\Below w.heap.size w w':=by
 have⟨fb,R,h,V,j,a,k,m,o⟩:=h;refine(O5 j a aa x1 x2 y).mono ?_;rintro e w' ⟨f,n⟩;have g:(kP false R h x1 x2 y).1=(xq R h x1 x2 y).take 1:=by rw[FB a false x1 x2 y];simp
 have b:=(Cc k x1 x2 y).2;rw[GU]at b;have d:=(yY a aa false x1 x2 y).2;rw[m]at d;have i:decide (0<(kP false R h x1 x2 y).1.length)=decide (0<(l.filter (qK x1 x2 y)).length):=by
  rw[g,<-b,eQ];simp only[mP];omega
 rw[i]at f;refine⟨⟨_,f,?_⟩,n⟩;unfold zG;simpa using d
end
end
end Go.Proofs.YtkjdbndekceffaaGreat
