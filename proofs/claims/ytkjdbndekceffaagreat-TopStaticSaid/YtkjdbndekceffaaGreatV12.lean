/- A part of the proof; its text was made small by a program (no remarks, short names). -/
import Derived.Test.YtkjdbndekceffaaGreatV00
import Derived.Test.YtkjdbndekceffaaGreatV07
import Derived.Test.YtkjdbndekceffaaGreatV05
import Derived.Test.YtkjdbndekceffaaGreatProg
import Derived.Test.YtkjdbndekceffaaGreatV10
import Derived.Test.YtkjdbndekceffaaGreatV03
import Derived.Test.YtkjdbndekceffaaGreatV11
import Derived.Test.YtkjdbndekceffaaGreatV01
import Derived.Test.YtkjdbndekceffaaGreatV02
set_option linter.unusedSimpArgs false
set_option linter.unusedVariables false
set_option maxRecDepth 100000
set_option maxHeartbeats 16000000
namespace Go.Proofs.YtkjdbndekceffaaGreat
open Go Go.RowKit
abbrev iU:=Nat->Option Nat
def gN (h:iU) (k:Nat) (v:Option Nat):iU:=fun j=>if j=k then v else h j
theorem gB (h:iU) (k:Nat) (v:Option Nat):gN h k v k=v:=by simp[gN]
theorem iM {h:iU} {k j:Nat} {v:Option Nat} (e:j≠k):gN h k v j=h j:=by simp[gN,e]
def held (h:iU):FT->Nat->List Nat
 |.leaf _,s=>(h s).toList
 |.node l r,s=>(h ((FT.node l r).root s)).toList++(held h l s++held h r (s+l.size))
theorem bU {h h':iU}:∀(t:FT) (s:Nat),(∀k,s<=k->k<s+t.size->h' k=h k)->held h' t s=held h t s
 |.leaf a,s,e=>by
  show(h' s).toList=(h s).toList;rw[e s (aG _) (by simp[FT.size])]
 |.node l r,s,e=>by
  have hs:(FT.node l r).size=l.size+r.size+1:=rfl;have hr:(FT.node l r).root s=s+(l.size+r.size+1)-1:=rfl;simp only[held];rw[e _ (by omega) (by omega),bU l s (fun k h1 h2=>e k h1 (by omega)),bU r _ (fun k h1 h2=>e k (by omega) (by omega))]
theorem qH {h:iU} {t:FT} {s i:Nat} (e:h (t.root s)=some i):∃L,held h t s=i::L:=by
 cases t with
 |leaf a=>exact⟨[],by show(h s).toList=_;rw[show h s=some i from e];rfl⟩
 |node l r=>exact⟨_,by simp only[held];rw[e];rfl⟩
theorem qI {h:iU}:∀(t:FT) (s:Nat),(∀k,s<=k->k<s+t.size->h k=none)->held h t s=[]
 |.leaf a,s,e=>by
  show(h s).toList=[];rw[e s (aG _) (by simp[FT.size])];rfl
 |.node l r,s,e=>by
  have hs:(FT.node l r).size=l.size+r.size+1:=rfl;have hr:(FT.node l r).root s=s+(l.size+r.size+1)-1:=rfl;simp only[held];rw[e _ (by omega) (by omega),qI l s (fun k h1 h2=>e k h1 (by omega)),qI r _ (fun k h1 h2=>e k (by omega) (by omega))];rfl
def ik (lt:Nat->Nat->Prop) (h:iU):FT->Nat->Prop
 |.leaf a,s=>∀i,h s=some i->i=a
 |.node l r,s=>(∀i,h ((FT.node l r).root s)=some i->(l.lo<=i/\i<r.hi)/\(∀j,j∈held h l s->lt i j)/\∀j,j∈held h r (s+l.size)->lt i j)/\
   (h ((FT.node l r).root s)=none->held h l s=[]/\held h r (s+l.size)=[])/\ik lt h l s/\ik lt h r (s+l.size)
section
variable {lt:Nat->Nat->Prop} {h h':iU}
theorem ik.congr:∀{t:FT} {s:Nat},(∀k,s<=k->k<s+t.size->h' k=h k)->ik lt h t s->ik lt h' t s
 |.leaf a,s,e,ok=>by
  intro i hi;rw[e s (aG _) (by simp[FT.size])]at hi;exact ok i hi
 |.node l r,s,e,ok=>by
  have hs:(FT.node l r).size=l.size+r.size+1:=rfl;have hr:(FT.node l r).root s=s+(l.size+r.size+1)-1:=rfl;have el:=fun k (h1:s<=k) (h2:k<s+l.size)=>e k h1 (by omega);have er:=fun k (h1:s+l.size<=k) (h2:k<s+l.size+r.size)=>e k (by omega) (by omega);obtain⟨h1,h2,h3,h4⟩:=ok;refine⟨?_,?_,h3.congr el,h4.congr er⟩
  .rw[e _ (by omega) (by omega),bU l s el,bU r _ er];exact h1
  .rw[e _ (by omega) (by omega),bU l s el,bU r _ er];exact h2
theorem ik.span:∀{t:FT} {s:Nat},t.wf->ik lt h t s->∀i∈held h t s,t.lo<=i/\i<t.hi
 |.leaf a,s,hw,ok,i,hi=>by
  have:=ok i (by simpa[held]using hi);subst this;simp[FT.lo,FT.hi]
 |.node l r,s,hw,ok,i,hi=>by
  obtain⟨h1,h2,h3,h4⟩:=ok;have q1:=FT.fe l hw.1;have q2:=FT.fe r hw.2.1;have q3:=hw.2.2;simp only[held,df,DN]at hi;show l.lo<=i/\i<r.hi;rcases hi with hi|hi|hi
  .exact(h1 i hi).1
  .have:=h3.span hw.1 i hi;omega
  .have:=h4.span hw.2.1 i hi;omega
theorem ik.empty:∀{t:FT} {s:Nat},ik lt h t s->h (t.root s)=none->held h t s=[]
 |.leaf a,s,ok,e=>by show(h s).toList=[];rw[show h s=none from e];rfl
 |.node l r,s,ok,e=>by
  obtain⟨h1,h2,h3,h4⟩:=ok;obtain⟨e1,e2⟩:=h2 e;simp only[held];rw[e,e1,e2];rfl
theorem ik.first:∀{t:FT} {s i:Nat},ik lt h t s->h (t.root s)=some i->∀j∈held h t s,j=i\/lt i j
 |.leaf a,s,i,ok,e,j,hj=>by
  left;have:h s=some j:=by simpa[held]using hj
  rw[show h s=some i from e]at this;injection this with this;exact this.symm
 |.node l r,s,i,ok,e,j,hj=>by
  obtain⟨h1,h2,h3,h4⟩:=ok;simp only[held,df,DN]at hj;rcases hj with hj|hj|hj
  .rw[e]at hj;injection hj with hj;exact .inl hj.symm
  .exact .inr ((h1 i e).2.1 j hj)
  .exact .inr ((h1 i e).2.2 j hj)
theorem ik.none:∀(t:FT) (s:Nat),(∀k,s<=k->k<s+t.size->h k=Option.none)->ik lt h t s
 |.leaf a,s,e=>by
  intro i hi;rw[e s (aG _) (by simp[FT.size])]at hi;cases hi
 |.node l r,s,e=>by
  have hs:(FT.node l r).size=l.size+r.size+1:=rfl;have hr:(FT.node l r).root s=s+(l.size+r.size+1)-1:=rfl;have el:=fun k (h1:s<=k) (h2:k<s+l.size)=>e k h1 (by omega);have er:=fun k (h1:s+l.size<=k) (h2:k<s+l.size+r.size)=>e k (by omega) (by omega);refine⟨fun i hi=>?_,fun _=>⟨qI l s el,qI r _ er⟩,ik.none l s el,ik.none r _ er⟩;rw[e _ (by omega) (by omega)]at hi;cases hi
end
def fillH:FT->Nat->List Nat->iU->iU
 |.leaf _,s,L,h=>match L with
  |[]=>h
  |i::_=>gN h s (some i)
 |.node l r,s,L,h=>match L with
  |[]=>h
  |i::L=>fillH r (s+l.size) (L.filter fun j=>!decide (j<l.hi)) (fillH l s (L.filter fun j=>decide (j<l.hi)) (gN h ((FT.node l r).root s) (some i)))
theorem Bp (t:FT) (s:Nat) (h:iU):fillH t s [] h=h:=by cases t<;>rfl
theorem vF:∀(t:FT) (s:Nat) (L:List Nat) (h:iU) (k:Nat),(k<s\/s+t.size<=k)->fillH t s L h k=h k
 |.leaf a,s,[],h,k,hk=>rfl
 |.leaf a,s,i::L,h,k,hk=>by
  simp only[FT.size]at hk;exact iM (by omega)
 |.node l r,s,[],h,k,hk=>rfl
 |.node l r,s,i::L,h,k,hk=>by
  have hs:(FT.node l r).size=l.size+r.size+1:=rfl;have hr:(FT.node l r).root s=s+(l.size+r.size+1)-1:=rfl;simp only[fillH];rw[vF r _ _ _ k (by omega),vF l _ _ _ k (by omega)];exact iM (by omega)
theorem xP {lt:Nat->Nat->Prop}:∀(t:FT) (s:Nat) (L:List Nat) (h:iU),t.wf->L.Pairwise lt->L.Nodup->(∀i∈L,t.lo<=i/\i<t.hi)->(∀k,s<=k->k<s+t.size->h k=none)->
  ik lt (fillH t s L h) t s/\(held (fillH t s L h) t s).Perm L
 |t,s,[],h,hw,hL,hn,hsp,he=>by
  rw[Bp];exact⟨ik.none t s he,by rw[qI t s he]⟩
 |.leaf a,s,i::L,h,hw,hL,hn,hsp,he=>by
  simp only[FT.lo,FT.hi]at hsp;have hia:i=a:=by have:=hsp i (by simp);omega
  have hL0:L=[]:=by
   cases L with
   |nil=>rfl
   |cons j L=>
    have:=hsp j (by simp);have:i≠j:=(mX.1 hn).1|>fun h e=>h (by simp[e]);omega
  subst hia hL0;refine⟨fun j hj=>?_,?_⟩
  .simp only[fillH,gB]at hj;injection hj with hj;exact hj.symm
  .show((gN h s (some i)) s).toList.Perm _;rw[gB];exact xe _
 |.node l r,s,i::L,h,hw,hL,hn,hsp,he=>by
  have hs:(FT.node l r).size=l.size+r.size+1:=rfl;have hr:(FT.node l r).root s=s+(l.size+r.size+1)-1:=rfl;have q1:=FT.fe l hw.1;have q2:=FT.fe r hw.2.1;have q3:=hw.2.2;rw[wR]at hL;rw[mX]at hn;have ah7:∀j∈i::L,l.lo<=j/\j<r.hi:=hsp;simp only[fillH];generalize UN:gN h ((FT.node l r).root s) (some i)=h1;have e1:∀k,k≠(FT.node l r).root s->h1 k=h k:=fun k hk=>by rw[<-UN];exact iM hk
  have e1r:h1 ((FT.node l r).root s)=some i:=by rw[<-UN];exact gB _ _ _
  generalize hA:L.filter (fun j=>decide (j<l.hi))=A;generalize hB:L.filter (fun j=>!decide (j<l.hi))=B;have hAm:∀j,j∈A↔j∈L/\j<l.hi:=fun j=>by rw[<-hA];simp
  have hBm:∀j,j∈B↔j∈L/\¬j<l.hi:=fun j=>by rw[<-hB];simp
  have IL:=xP (lt:=lt) l s A h1 hw.1 (by rw[<-hA];exact hL.2.filter _) (by rw[<-hA];exact hn.2.filter _) (fun j hj=>by have:=(hAm j).1 hj;have:=ah7 j (lU _ this.1);omega) (fun k h1 h2=>by rw[e1 k (by omega)];exact he k h1 (by omega));generalize Gt:fillH l s A h1=h2 at IL |-;have e2:∀k,(k<s\/s+l.size<=k)->h2 k=h1 k:=fun k hk=>by rw[<-Gt];exact vF l s A h1 k hk
  have IR:=xP (lt:=lt) r (s+l.size) B h2 hw.2.1 (by rw[<-hB];exact hL.2.filter _) (by rw[<-hB];exact hn.2.filter _) (fun j hj=>by have:=(hBm j).1 hj;have:=ah7 j (lU _ this.1);omega) (fun k h1 h2=>by rw[e2 k (by omega),e1 k (by omega)];exact he k (by omega) (by omega));generalize hh3:fillH r (s+l.size) B h2=h3 at IR |-;have e3:∀k,(k<s+l.size\/s+l.size+r.size<=k)->h3 k=h2 k:=fun k hk=>by rw[<-hh3];exact vF r _ B h2 k hk
  have e3l:∀k,s<=k->k<s+l.size->h3 k=h2 k:=fun k _ hk=>e3 k (.inl hk);have e3r:h3 ((FT.node l r).root s)=some i:=by rw[e3 _ (by omega),e2 _ (by omega),e1r]
  have Pj:=bU l s e3l;have hp:(A++B).Perm L:=by rw[<-hA,<-hB];exact List.filter_append_perm _ L
  refine⟨⟨fun j hj=>?_,fun hj=>?_,IL.1.congr e3l,IR.1⟩,?_⟩
  .rw[e3r]at hj;injection hj with hj;subst hj;refine⟨ah7 i (by simp),fun j hj=>?_,fun j hj=>?_⟩
   .rw[Pj]at hj;exact hL.1 j ((hAm j).1 ((IL.2.mem_iff).1 hj)).1
   .exact hL.1 j ((hBm j).1 ((IR.2.mem_iff).1 hj)).1
  .rw[e3r]at hj;cases hj
  .simp only[held];rw[e3r,Pj];exact((IL.2.append IR.2).trans hp).cons i
def downG (more:Bool) (h:iU) (yv:Nat->Int) (y:Int) (fr ub:Nat):FT->Nat->List Nat×Nat×Bool
 |.leaf a,s=>match h s with
  |none=>([],1,true)
  |some i=>if y<yv i\/a+1<=fr\/ub<=a then([],1,true)else if fr<=i/\i<ub then([i],1,more)else([],1,true)
 |.node l r,s=>match h ((FT.node l r).root s)with
  |none=>([],1,true)
  |some i=>if y<yv i\/r.hi<=fr\/ub<=l.lo then([],1,true)else
   if(fr<=i/\i<ub)/\more=false then([i],1,false)else
   ((if fr<=i/\i<ub then[i]else[])++(downG more h yv y fr ub l s).1++(if(downG more h yv y fr ub l s).2.2 then(downG more h yv y fr ub r (s+l.size)).1 else[]),
    1+(downG more h yv y fr ub l s).2.1+(if(downG more h yv y fr ub l s).2.2 then(downG more h yv y fr ub r (s+l.size)).2.1 else 0),
    (downG more h yv y fr ub l s).2.2&&(downG more h yv y fr ub r (s+l.size)).2.2)
def Cg (yv:Nat->Int) (y:Int) (fr ub i:Nat):Bool:=decide (fr<=i/\i<ub/\yv i<=y)
section
variable {lt:Nat->Nat->Prop} {h:iU} {yv:Nat->Int} {y:Int} {fr ub:Nat}
theorem oD {more:Bool} {t:FT} {s:Nat} (e:h (t.root s)=none):downG more h yv y fr ub t s=([],1,true):=by
 cases t with
 |leaf a=>have e':h s=none:=e;simp only[downG];rw[e']
 |node l r=>simp only[downG];rw[e]
theorem nO {more:Bool} {t:FT} {s i:Nat} (e:h (t.root s)=some i) (hp:y<yv i\/t.hi<=fr\/ub<=t.lo):downG more h yv y fr ub t s=([],1,true):=by
 cases t with
 |leaf a=>
  have e':h s=some i:=e;have KU:y<yv i\/a+1<=fr\/ub<=a:=hp;simp only[downG];rw[e'];simp only;rw[aR KU]
 |node l r=>
  have KU:y<yv i\/r.hi<=fr\/ub<=l.lo:=hp;simp only[downG];rw[e];simp only;rw[aR KU]
theorem xQ {more:Bool} {a s i:Nat} (e:h s=some i) (hp:¬(y<yv i\/a+1<=fr\/ub<=a)):downG more h yv y fr ub (.leaf a) s=(if fr<=i/\i<ub then[i]else[],1,!(decide (fr<=i/\i<ub)&&!more)):=by
 simp only[downG];rw[e];simp only;rw[aP hp];by_cases iC:fr<=i/\i<ub
 .rw[aR iC,aR iC];simp[iC]
 .rw[aP iC,aP iC];simp[iC]
theorem Fu {t:FT} {s i:Nat} (e:h (t.root s)=some i) (hp:¬(y<yv i\/t.hi<=fr\/ub<=t.lo)) (iC:fr<=i/\i<ub):downG false h yv y fr ub t s=([i],1,false):=by
 cases t with
 |leaf a=>
  have e':h s=some i:=e;rw[xQ e' hp];simp[iC]
 |node l r=>
  have KU:¬(y<yv i\/r.hi<=fr\/ub<=l.lo):=hp;simp only[downG];rw[e];simp only;rw[aP KU];simp[iC]
theorem Fv {more:Bool} {l r:FT} {s i:Nat} (e:h ((FT.node l r).root s)=some i) (hp:¬(y<yv i\/r.hi<=fr\/ub<=l.lo)) (hg:(decide (fr<=i/\i<ub)&&!more)=false):downG more h yv y fr ub (.node l r) s=
   ((if fr<=i/\i<ub then[i]else[])++(downG more h yv y fr ub l s).1++(if(downG more h yv y fr ub l s).2.2 then(downG more h yv y fr ub r (s+l.size)).1 else[]),
    1+(downG more h yv y fr ub l s).2.1+(if(downG more h yv y fr ub l s).2.2 then(downG more h yv y fr ub r (s+l.size)).2.1 else 0),
    (downG more h yv y fr ub l s).2.2&&(downG more h yv y fr ub r (s+l.size)).2.2):=by
 have hng:¬((fr<=i/\i<ub)/\more=false):=fun h9=>by
  rw[h9.2]at hg;simp[h9.1]at hg
 conv=>lhs;simp only[downG]
 rw[e];simp only;rw[aP hp,aP hng]
theorem Y4 {more:Bool} {t:FT} {s i:Nat} (e:h (t.root s)=some i) (hp:¬(y<yv i\/t.hi<=fr\/ub<=t.lo)) (iC:fr<=i/\i<ub):[i] <+: (downG more h yv y fr ub t s).1:=by
 cases t with
 |leaf a=>
  have e':h s=some i:=e;rw[xQ e' hp,aR iC];exact List.prefix_rfl
 |node l r=>
  cases more with
  |false=>rw[Fu e hp iC];exact List.prefix_rfl
  |true=>
   rw[Fv e hp (by simp),aR iC,ek];exact List.prefix_append _ _
theorem J4 {t:FT} {s i:Nat} (hw:t.wf) (ok:ik lt h t s) (hlt:∀i j,lt i j->yv i<=yv j) (e:h (t.root s)=some i) (hp:y<yv i\/t.hi<=fr\/ub<=t.lo):(held h t s).filter (Cg yv y fr ub)=[]:=by
 refine zR.2 fun j hj=>?_;have h1:=ok.span hw j hj;have h2:yv i<=yv j:=by
  rcases ok.first e j hj with h3|h3
  .rw[h3];exact Int.le_refl _
  .exact hlt _ _ h3
 unfold Cg;simp only[bZ];omega
theorem xR (hlt:∀i j,lt i j->yv i<=yv j):∀(t:FT) (s:Nat),t.wf->ik lt h t s->(downG true h yv y fr ub t s).1=(held h t s).filter (Cg yv y fr ub)/\(downG true h yv y fr ub t s).2.2=true
 |.leaf a,s,hw,ok=>by
  cases e:h s with
  |none=>rw[oD (t:=.leaf a) e,ok.empty e];exact⟨rfl,rfl⟩
  |some i=>
   by_cases hp:y<yv i\/(FT.leaf a).hi<=fr\/ub<=(FT.leaf a).lo
   .rw[nO (t:=.leaf a) e hp,J4 hw ok hlt e hp];exact⟨rfl,rfl⟩
   .have hia:=ok i e;simp only[downG,held];rw[e];have KU:¬(y<yv i\/a+1<=fr\/ub<=a):=hp;simp only[aP KU,Option.toList];by_cases iC:fr<=i/\i<ub
    .rw[aR iC];have:Cg yv y fr ub i=true:=by unfold Cg;simp only[bZ];omega
     simp[this]
    .rw[aP iC];have:Cg yv y fr ub i=false:=by unfold Cg;simp only[iE];omega
     simp[this]
 |.node l r,s,hw,ok=>by
  cases e:h ((FT.node l r).root s)with
  |none=>rw[oD e,ok.empty e];exact⟨rfl,rfl⟩
  |some i=>
   by_cases hp:y<yv i\/(FT.node l r).hi<=fr\/ub<=(FT.node l r).lo
   .rw[nO e hp,J4 hw ok hlt e hp];exact⟨rfl,rfl⟩
   .obtain⟨h1,h2,h3,h4⟩:=ok;obtain⟨l1,l2⟩:=xR hlt l s hw.1 h3;obtain⟨r1,r2⟩:=xR hlt r _ hw.2.1 h4;have KU:¬(y<yv i\/r.hi<=fr\/ub<=l.lo):=hp;simp only[downG,held];rw[e];simp only[aP KU,l1,l2,r1,r2,Option.toList,mU,mV,I8];by_cases iC:fr<=i/\i<ub
    .have:Cg yv y fr ub i=true:=by unfold Cg;simp only[bZ];omega
     simp[this,iC]
    .have:Cg yv y fr ub i=false:=by unfold Cg;simp only[iE];omega
     simp[this,iC]
theorem UO {α:Type} {a b:List α} (h:a≠[]):(a++b).take 1=a.take 1:=by
 cases a with
 |nil=>exact absurd rfl h
 |cons x a=>rfl
theorem Bq (hlt:∀i j,lt i j->yv i<=yv j):∀(t:FT) (s:Nat),t.wf->ik lt h t s->(downG false h yv y fr ub t s).1=((held h t s).filter (Cg yv y fr ub)).take 1/\((downG false h yv y fr ub t s).2.2=true↔(held h t s).filter (Cg yv y fr ub)=[])
 |.leaf a,s,hw,ok=>by
  cases e:h s with
  |none=>rw[oD (t:=.leaf a) e,ok.empty e];simp
  |some i=>
   by_cases hp:y<yv i\/(FT.leaf a).hi<=fr\/ub<=(FT.leaf a).lo
   .rw[nO (t:=.leaf a) e hp,J4 hw ok hlt e hp];simp
   .have hia:=ok i e;simp only[downG,held];rw[e];have KU:¬(y<yv i\/a+1<=fr\/ub<=a):=hp;simp only[aP KU,Option.toList];by_cases iC:fr<=i/\i<ub
    .rw[aR iC];have:Cg yv y fr ub i=true:=by unfold Cg;simp only[bZ];omega
     simp[this]
    .rw[aP iC];have:Cg yv y fr ub i=false:=by unfold Cg;simp only[iE];omega
     simp[this]
 |.node l r,s,hw,ok=>by
  cases e:h ((FT.node l r).root s)with
  |none=>rw[oD e,ok.empty e];simp
  |some i=>
   by_cases hp:y<yv i\/(FT.node l r).hi<=fr\/ub<=(FT.node l r).lo
   .rw[nO e hp,J4 hw ok hlt e hp];simp
   .obtain⟨h1,h2,h3,h4⟩:=ok;obtain⟨l1,l2⟩:=Bq hlt l s hw.1 h3;obtain⟨r1,r2⟩:=Bq hlt r _ hw.2.1 h4;have KU:¬(y<yv i\/r.hi<=fr\/ub<=l.lo):=hp;simp only[downG,held];rw[e];simp only[aP KU,Option.toList,mU,mV,I8];by_cases iC:fr<=i/\i<ub
    .have:Cg yv y fr ub i=true:=by unfold Cg;simp only[bZ];omega
     simp[this,iC]
    .have:Cg yv y fr ub i=false:=by unfold Cg;simp only[iE];omega
     simp only[iC,false_and,jU,this,iV,l1,r1];cases hb:(downG false h yv y fr ub l s).2.2 with
     |true=>
      have hl0:=l2.1 hb;simp only[gV,Bool.true_and,hl0,List.take_nil,iV];exact⟨rfl,r2⟩
     |false=>
      have hl0:(held h l s).filter (Cg yv y fr ub)≠[]:=fun h9=>by rw[l2.2 h9]at hb;cases hb
      simp[hl0];exact(UO hl0).symm
theorem xS (more:Bool):∀(t:FT) (s:Nat),(downG more h yv y fr ub t s).1.length<=(downG more h yv y fr ub t s).2.1
 |.leaf a,s=>by
  simp only[downG];split
  .simp
  .split
   .simp
   .split<;>simp
 |.node l r,s=>by
  have h1:=xS more l s;have h2:=xS more r (s+l.size);simp only[downG];split
  .simp
  .split
   .simp
   .split
    .simp
    .simp only[bF];split<;>split<;>simp<;>omega
theorem rR (more:Bool):∀(t:FT) (s:Nat),(downG more h yv y fr ub t s).2.1<=t.size
 |.leaf a,s=>by
  simp only[downG];split
  .simp[FT.size]
  .split
   .simp[FT.size]
   .split<;>simp[FT.size]
 |.node l r,s=>by
  have h1:=rR more l s;have h2:=rR more r (s+l.size);have h3:(FT.node l r).size=l.size+r.size+1:=rfl;simp only[downG];split
  .simp;omega
  .split
   .simp;omega
   .split
    .simp;omega
    .simp only;split<;>omega
theorem vG {more:Bool} {m:Nat} (hm:m=if more then 2 else 0):∀(t:FT) (s:Nat),t.wf->ik lt h t s->fr<=t.lo->t.hi<=ub->(downG more h yv y fr ub t s).2.1<=m*(downG more h yv y fr ub t s).1.length+1
 |.leaf a,s,hw,ok,h1,h2=>by
  simp only[downG];split
  .simp
  .split
   .simp
   .split<;>simp
 |.node l r,s,hw,ok,h1,h2=>by
  have hs:(FT.node l r).lo=l.lo/\(FT.node l r).hi=r.hi:=⟨rfl,rfl⟩;have q1:=FT.fe l hw.1;have q2:=FT.fe r hw.2.1;have q3:=hw.2.2;cases e:h ((FT.node l r).root s)with
  |none=>rw[oD e];simp
  |some i=>
   have hsp:=(ok.1 i e).1;have iC:fr<=i/\i<ub:=by omega
   simp only[downG];rw[e];simp only;split
   .simp
   .cases more with
    |false=>simp[iC]
    |true=>
     have il:=vG hm l s hw.1 ok.2.2.1 (by omega) (by omega);have ir:=vG hm r (s+l.size) hw.2.1 ok.2.2.2 (by omega) (by omega);simp only[gV]at hm;subst hm;rw[aP (by simp)];simp only[iC,and_self,gV,bF,fU,iG];split
     .first|omega|(simp only[bF,fU,iG];omega)
     .first|omega|(simp only[bF,fU,iG];omega)
theorem vH {more:Bool} {t:FT} {s:Nat} (hp:t.hi<=fr\/ub<=t.lo):downG more h yv y fr ub t s=([],1,true):=by
 cases e:h (t.root s)with
 |none=>exact oD e
 |some i=>exact nO e (.inr hp)
theorem vI {more:Bool} {m:Nat} (hm:m=if more then 2 else 0):∀(t:FT) (s:Nat),t.wf->ik lt h t s->fr<=t.lo\/t.hi<=ub->(downG more h yv y fr ub t s).2.1<=m*(downG more h yv y fr ub t s).1.length+2*t.ht+1
 |.leaf a,s,hw,ok,hh=>by
  simp only[downG];split
  .simp
  .split
   .simp
   .split<;>simp
 |.node l r,s,hw,ok,hh=>by
  have hs:(FT.node l r).lo=l.lo/\(FT.node l r).hi=r.hi:=⟨rfl,rfl⟩;have q1:=FT.fe l hw.1;have q2:=FT.fe r hw.2.1;have q3:=hw.2.2;have il:=vI hm l s hw.1 ok.2.2.1;have ir:=vI hm r (s+l.size) hw.2.1 ok.2.2.2;have al:=vG (y:=y) (yv:=yv) (fr:=fr) (ub:=ub) hm l s hw.1 ok.2.2.1;have ar:=vG (y:=y) (yv:=yv) (fr:=fr) (ub:=ub) hm r (s+l.size) hw.2.1 ok.2.2.2;have key:(downG more h yv y fr ub l s).2.1+(downG more h yv y fr ub r (s+l.size)).2.1<=m*(downG more h yv y fr ub l s).1.length+m*(downG more h yv y fr ub r (s+l.size)).1.length+2*(max l.ht r.ht)+2/\(downG more h yv y fr ub l s).2.1<=m*(downG more h yv y fr ub l s).1.length+2*(max l.ht r.ht)+1:=by
   rcases hh with hh|hh
   .have il:=il (.inl (by omega));by_cases hb:l.hi<=ub
    .have al:=al (by omega) hb;have ir:=ir (.inl (by omega));omega
    .rw[vH (t:=r) (.inr (by omega))];simp only[iG];omega
   .have ir:=ir (.inr (by omega));by_cases ha:fr<=r.lo
    .have ar:=ar ha (by omega);have il:=il (.inr (by omega));omega
    .rw[vH (t:=l) (.inl (by omega))];simp only[iG];omega
  simp only[downG,FT.ht];generalize downG more h yv y fr ub l s=dl at*;generalize downG more h yv y fr ub r (s+l.size)=dr at*;obtain⟨L1,c1,b1⟩:=dl;obtain⟨L2,c2,b2⟩:=dr;simp only at key |-;split
  .simp
  .split
   .simp
   .split
    .simp
    .have hl:∀A:List Nat,m*(A++L1++L2).length=m*A.length+m*L1.length+m*L2.length:=fun A=>by rw[bF,bF,lK,lK]
     have hl2:∀A:List Nat,m*(A++L1).length=m*A.length+m*L1.length:=fun A=>by rw[bF,lK]
     cases b1 with
     |true=>simp only[gV];rw[hl];omega
     |false=>simp only[rY,jU,jD];rw[hl2];omega
theorem xU {more:Bool} {m:Nat} (hm:m=if more then 2 else 0):∀(t:FT) (s:Nat),t.wf->ik lt h t s->(downG more h yv y fr ub t s).2.1<=m*(downG more h yv y fr ub t s).1.length+4*t.ht+1
 |.leaf a,s,hw,ok=>by
  simp only[downG];split
  .simp
  .split
   .simp
   .split<;>simp
 |.node l r,s,hw,ok=>by
  have hs:(FT.node l r).lo=l.lo/\(FT.node l r).hi=r.hi:=⟨rfl,rfl⟩;have q1:=FT.fe l hw.1;have q2:=FT.fe r hw.2.1;have q3:=hw.2.2;have il:=xU hm l s hw.1 ok.2.2.1;have ir:=xU hm r (s+l.size) hw.2.1 ok.2.2.2;have el:=vI (y:=y) (yv:=yv) (fr:=fr) (ub:=ub) hm l s hw.1 ok.2.2.1;have er:=vI (y:=y) (yv:=yv) (fr:=fr) (ub:=ub) hm r (s+l.size) hw.2.1 ok.2.2.2;have key:(downG more h yv y fr ub l s).2.1+(downG more h yv y fr ub r (s+l.size)).2.1<=m*(downG more h yv y fr ub l s).1.length+m*(downG more h yv y fr ub r (s+l.size)).1.length+4*(max l.ht r.ht)+2/\(downG more h yv y fr ub l s).2.1<=m*(downG more h yv y fr ub l s).1.length+4*(max l.ht r.ht)+1:=by
   refine⟨?_,by omega⟩;by_cases hb:ub<=r.lo
   .rw[vH (t:=r) (.inr hb)];simp only[iG];omega
   .by_cases ha:l.hi<=fr
    .rw[vH (t:=l) (.inl ha)];simp only[iG];omega
    .have el:=el (.inr (by omega));have er:=er (.inl (by omega));omega
  simp only[downG,FT.ht];generalize downG more h yv y fr ub l s=dl at*;generalize downG more h yv y fr ub r (s+l.size)=dr at*;obtain⟨L1,c1,b1⟩:=dl;obtain⟨L2,c2,b2⟩:=dr;simp only at key |-;split
  .simp
  .split
   .simp
   .split
    .simp
    .have hl:∀A:List Nat,m*(A++L1++L2).length=m*A.length+m*L1.length+m*L2.length:=fun A=>by rw[bF,bF,lK,lK]
     have hl2:∀A:List Nat,m*(A++L1).length=m*A.length+m*L1.length:=fun A=>by rw[bF,lK]
     cases b1 with
     |true=>simp only[gV];rw[hl];omega
     |false=>simp only[rY,jU,jD];rw[hl2];omega
end
def pullH (lb:Nat->Nat->Bool):FT->Nat->iU->iU
 |.leaf _,s,h=>gN h s none
 |.node l r,s,h=>match h (l.root s),h (r.root (s+l.size))with
  |none,none=>gN h ((FT.node l r).root s) none
  |some i,none=>pullH lb l s (gN h ((FT.node l r).root s) (some i))
  |none,some j=>pullH lb r (s+l.size) (gN h ((FT.node l r).root s) (some j))
  |some i,some j=>if lb i j then pullH lb l s (gN h ((FT.node l r).root s) (some i))else pullH lb r (s+l.size) (gN h ((FT.node l r).root s) (some j))
structure Ord (lt:Nat->Nat->Prop) (lb:Nat->Nat->Bool) (n:Nat):Prop where
 tr:∀i j k,lt i j->lt j k->lt i k
 jX:∀i j,i<n->j<n->i≠j->lt i j\/lt j i
 dec:∀i j,lb i j=true↔lt i j
section
variable {lt:Nat->Nat->Prop} {lb:Nat->Nat->Bool} {n:Nat}
theorem j4:∀(t:FT) (s:Nat) (h:iU) (k:Nat),(k<s\/s+t.size<=k)->pullH lb t s h k=h k
 |.leaf a,s,h,k,hk=>by
  simp only[FT.size]at hk;exact iM (by omega)
 |.node l r,s,h,k,hk=>by
  have hs:(FT.node l r).size=l.size+r.size+1:=rfl;have hr:(FT.node l r).root s=s+(l.size+r.size+1)-1:=rfl;have hu:∀v,gN h ((FT.node l r).root s) v k=h k:=fun v=>iM (by omega);simp only[pullH];cases h (l.root s)<;>cases h (r.root (s+l.size))<;>simp only
  .exact hu _
  .rw[j4 r _ _ k (by omega),hu]
  .rw[j4 l s _ k (by omega),hu]
  .split
   .rw[j4 l s _ k (by omega),hu]
   .rw[j4 r _ _ k (by omega),hu]
theorem Dm {l r:FT} {s i:Nat} {h h2:iU} (hw:(FT.node l r).wf)
  (e2:h2 ((FT.node l r).root s)=some i) (KV:ik lt h2 l s) (KY:ik lt h2 r (s+l.size)) (hsp:l.lo<=i/\i<r.hi)
  (hl:∀j∈held h2 l s,lt i j) (hr:∀j∈held h2 r (s+l.size),lt i j):ik lt h2 (.node l r) s:=
 ⟨fun j hj=>by
  rw[e2]at hj;injection hj with hj;subst hj;exact⟨hsp,hl,hr⟩,(fun hj=>by rw[e2]at hj;cases hj),KV,KY⟩
theorem rT (O:Ord lt lb n):∀(t:FT) (s:Nat) (h:iU) (x:Nat),t.wf->t.hi<=n->ik lt h t s->h (t.root s)=some x->(held h t s).Nodup->
  ik lt (pullH lb t s h) t s/\(x::held (pullH lb t s h) t s).Perm (held h t s)
 |.leaf a,s,h,x,hw,hn,ok,e,nd=>by
  have e':h s=some x:=e;refine⟨fun i hi=>?_,?_⟩
  .simp only[pullH,gB]at hi;cases hi
  .show(x::((gN h s none) s).toList).Perm (h s).toList;rw[gB,e'];exact xe _
 |.node l r,s,h,x,hw,hn,ok,e,nd=>by
  have hs:(FT.node l r).size=l.size+r.size+1:=rfl;have hr:(FT.node l r).root s=s+(l.size+r.size+1)-1:=rfl;have lr:l.root s=s+l.size-1:=rfl;have rr:r.root (s+l.size)=s+l.size+r.size-1:=rfl;have pl:=l.size_pos;have pr:=r.size_pos;have q1:=FT.fe l hw.1;have q2:=FT.fe r hw.2.1;have q3:=hw.2.2;have VU:r.hi<=n:=hn;obtain⟨h1,h2,KV,KY⟩:=ok;have hh:held h (.node l r) s=x::(held h l s++held h r (s+l.size)):=by simp only[held];rw[e];rfl
  rw[hh]at nd |-;have nd2:=(mX.1 nd).2;rw[tC]at nd2;obtain⟨ndl,ndr,ndd⟩:=nd2;have hu:∀v k,k≠(FT.node l r).root s->gN h ((FT.node l r).root s) v k=h k:=fun v k hk=>iM hk;have hus:∀v,gN h ((FT.node l r).root s) v ((FT.node l r).root s)=v:=fun v=>gB _ _ _;have hul:∀v,∀k,s<=k->k<s+l.size->gN h ((FT.node l r).root s) v k=h k:=fun v k h1 h2=>hu v k (by omega);have hur:∀v,∀k,s+l.size<=k->k<s+l.size+r.size->gN h ((FT.node l r).root s) v k=h k:=fun v k h1 h2=>hu v k (by omega);have goL:∀i,h (l.root s)=some i->(∀j∈held h r (s+l.size),lt i j)->
    ik lt (pullH lb l s (gN h ((FT.node l r).root s) (some i))) (.node l r) s/\(x::held (pullH lb l s (gN h ((FT.node l r).root s) (some i))) (.node l r) s).Perm (x::(held h l s++held h r (s+l.size))):=fun i ei hri=>by
   have UQ:=hus (some i);have J5:=hul (some i);have J6:=hur (some i);have ei':gN h ((FT.node l r).root s) (some i) (l.root s)=some i:=by rw[hu _ _ (by omega)];exact ei
   generalize gN h ((FT.node l r).root s) (some i)=h1' at*;have Y5:=bU l s J5;have hr1:=bU r _ J6;obtain⟨a1,a2⟩:=rT O l s h1' i hw.1 (by omega) (KV.congr J5) ei' (by rw[Y5];exact ndl);have ho:=j4 (lb:=lb) l s h1';generalize pullH lb l s h1'=Gt at*;rw[Y5]at a2;have er:∀k,s+l.size<=k->k<s+l.size+r.size->Gt k=h k:=fun k k1 k2=>by rw[ho k (.inr k1)];exact J6 k k1 k2
   have e2:Gt ((FT.node l r).root s)=some i:=by rw[ho _ (by omega)];exact UQ
   have nd3:(i::held Gt l s).Nodup:=a2.nodup_iff.2 ndl;have kE:i∈held h l s:=a2.mem_iff.1 (by simp);have hsp:=KV.span hw.1 i kE;refine⟨Dm (h:=h) hw e2 a1 (KY.congr er) (by omega) (fun j hj=>?_) (fun j hj=>?_),?_⟩
   .rcases KV.first ei j (a2.mem_iff.1 (lU _ hj))with h9|h9
    .subst h9;exact absurd hj (mX.1 nd3).1
    .exact h9
   .rw[bU r _ er]at hj;exact hri j hj
   .refine List.Perm.cons x ?_;simp only[held];rw[e2,bU r _ er];exact a2.append_right _
  have goR:∀i,h (r.root (s+l.size))=some i->(∀j∈held h l s,lt i j)->
    ik lt (pullH lb r (s+l.size) (gN h ((FT.node l r).root s) (some i))) (.node l r) s/\(x::held (pullH lb r (s+l.size) (gN h ((FT.node l r).root s) (some i))) (.node l r) s).Perm (x::(held h l s++held h r (s+l.size))):=fun i ei hri=>by
   have UQ:=hus (some i);have J5:=hul (some i);have J6:=hur (some i);have ei':gN h ((FT.node l r).root s) (some i) (r.root (s+l.size))=some i:=by rw[hu _ _ (by omega)];exact ei
   generalize gN h ((FT.node l r).root s) (some i)=h1' at*;have Y5:=bU l s J5;have hr1:=bU r _ J6;obtain⟨a1,a2⟩:=rT O r (s+l.size) h1' i hw.2.1 (by omega) (KY.congr J6) ei' (by rw[hr1];exact ndr);have ho:=j4 (lb:=lb) r (s+l.size) h1';generalize pullH lb r (s+l.size) h1'=Gt at*;rw[hr1]at a2;have el:∀k,s<=k->k<s+l.size->Gt k=h k:=fun k k1 k2=>by rw[ho k (.inl k2)];exact J5 k k1 k2
   have e2:Gt ((FT.node l r).root s)=some i:=by rw[ho _ (by omega)];exact UQ
   have nd3:(i::held Gt r (s+l.size)).Nodup:=a2.nodup_iff.2 ndr;have kE:i∈held h r (s+l.size):=a2.mem_iff.1 (by simp);have hsp:=KY.span hw.2.1 i kE;refine⟨Dm (h:=h) hw e2 (KV.congr el) a1 (by omega) (fun j hj=>?_) (fun j hj=>?_),?_⟩
   .rw[bU l _ el]at hj;exact hri j hj
   .rcases KY.first ei j (a2.mem_iff.1 (lU _ hj))with h9|h9
    .subst h9;exact absurd hj (mX.1 nd3).1
    .exact h9
   .refine List.Perm.cons x ?_;simp only[held];rw[e2,bU l _ el];show(i::(held h l s++held Gt r (s+l.size))).Perm _;exact(List.perm_middle.symm).trans (a2.append_left _)
  have spL:∀i,h (l.root s)=some i->i<n/\i<l.hi:=fun i ei=>by
   obtain⟨L,eL⟩:=qH ei;have:=KV.span hw.1 i (by rw[eL];simp);omega
  have spR:∀i,h (r.root (s+l.size))=some i->i<n/\r.lo<=i:=fun i ei=>by
   obtain⟨L,eL⟩:=qH ei;have:=KY.span hw.2.1 i (by rw[eL];simp);omega
  simp only[pullH];split
  .rename_i ea eb;have z1:=KV.empty ea;have z2:=KY.empty eb;have UQ:=hus none;have J5:=hul none;have J6:=hur none;generalize gN h ((FT.node l r).root s) none=h1' at*;refine⟨⟨fun j hj=>?_,fun _=>?_,KV.congr J5,KY.congr J6⟩,?_⟩
   .rw[UQ]at hj;cases hj
   .rw[bU l s J5,bU r _ J6];exact⟨z1,z2⟩
   .refine List.Perm.cons x ?_;simp only[held];rw[UQ,bU l s J5,bU r _ J6];exact xe _
  .rename_i i ea eb;exact goL i ea (fun j hj=>by rw[KY.empty eb]at hj;exact absurd hj jC)
  .rename_i j ea eb;exact goR j eb (fun k hk=>by rw[KV.empty ea]at hk;exact absurd hk jC)
  .rename_i i j ea eb;split
   .rename_i hb;have oV:=(O.dec i j).1 hb;refine goL i ea fun k hk=>?_;rcases KY.first eb k hk with h9|h9
    .rw[h9];exact oV
    .exact O.tr _ _ _ oV h9
   .rename_i hb;have oV:lt j i:=by
     have h5:=spL i ea;have h6:=spR j eb;rcases O.jX i j h5.1 h6.1 (by omega)with h9|h9
     .exact absurd ((O.dec i j).2 h9) hb
     .exact h9
    refine goR j eb fun k hk=>?_;rcases KV.first ea k hk with h9|h9
    .rw[h9];exact oV
    .exact O.tr _ _ _ oV h9
def dropH (lb:Nat->Nat->Bool):FT->Nat->Nat->iU->iU
 |.leaf a,s,x,h=>pullH lb (.leaf a) s h
 |.node l r,s,x,h=>if h ((FT.node l r).root s)=some x then pullH lb (.node l r) s h else if x<l.hi then dropH lb l s x h else dropH lb r (s+l.size) x h
theorem vJ:∀(t:FT) (s x:Nat) (h:iU) (k:Nat),(k<s\/s+t.size<=k)->dropH lb t s x h k=h k
 |.leaf a,s,x,h,k,hk=>j4 (.leaf a) s h k hk
 |.node l r,s,x,h,k,hk=>by
  have hs:(FT.node l r).size=l.size+r.size+1:=rfl;simp only[dropH];split
  .exact j4 _ s h k hk
  .split
   .exact vJ l s x h k (by omega)
   .exact vJ r _ x h k (by omega)
theorem xV (O:Ord lt lb n):∀(t:FT) (s:Nat) (h:iU) (x:Nat),t.wf->t.hi<=n->ik lt h t s->x∈held h t s->(held h t s).Nodup->
  ik lt (dropH lb t s x h) t s/\(x::held (dropH lb t s x h) t s).Perm (held h t s)
 |.leaf a,s,h,x,hw,hn,ok,hx,nd=>by
  have e:h s=some x:=by simpa[held]using hx
  exact rT O (.leaf a) s h x hw hn ok e nd
 |.node l r,s,h,x,hw,hn,ok,hx,nd=>by
  have hs:(FT.node l r).size=l.size+r.size+1:=rfl;have hr:(FT.node l r).root s=s+(l.size+r.size+1)-1:=rfl;have pl:=l.size_pos;have pr:=r.size_pos;have q1:=FT.fe l hw.1;have q2:=FT.fe r hw.2.1;have q3:=hw.2.2;have VU:r.hi<=n:=hn;simp only[dropH];split
  .rename_i e;exact rT O _ s h x hw hn ok e nd
  .rename_i e;obtain⟨h1,h2,KV,KY⟩:=ok;have OL:=hx;simp only[held,df,DN,e,false_or]at OL;cases er:h ((FT.node l r).root s)with
   |none=>
    obtain⟨z1,z2⟩:=h2 er;rw[z1,z2]at OL;rcases OL with OL|OL<;>exact absurd OL jC
   |some i=>
    have hh:held h (.node l r) s=i::(held h l s++held h r (s+l.size)):=by simp only[held];rw[er];rfl
    rw[hh]at nd |-;have nd2:=(mX.1 nd).2;rw[tC]at nd2;obtain⟨ndl,ndr,ndd⟩:=nd2;obtain⟨c1,c2,c3⟩:=h1 i er;split
    .rename_i hlt;have nD:x∈held h l s:=by
      rcases OL with h9|h9
      .exact h9
      .have:=KY.span hw.2.1 x h9;omega
     obtain⟨a1,a2⟩:=xV O l s h x hw.1 (by omega) KV nD ndl;have ho:=vJ (lb:=lb) l s x h;generalize dropH lb l s x h=Jo at*;have ehr:∀k,s+l.size<=k->k<s+l.size+r.size->Jo k=h k:=fun k k1 k2=>ho k (.inr k1);have e2:Jo ((FT.node l r).root s)=some i:=by rw[ho _ (by omega)];exact er
     refine⟨Dm (h:=h) hw e2 a1 (KY.congr ehr) c1 (fun j hj=>c2 j (a2.mem_iff.1 (lU _ hj))) (fun j hj=>by rw[bU r _ ehr]at hj;exact c3 j hj),?_⟩;simp only[held];rw[e2,bU r _ ehr];show(x::i::(held Jo l s++held h r (s+l.size))).Perm _;exact(List.Perm.swap _ _ _).trans ((a2.append_right _).cons i)
    .rename_i hlt;have hxr:x∈held h r (s+l.size):=by
      rcases OL with h9|h9
      .have:=KV.span hw.1 x h9;omega
      .exact h9
     obtain⟨a1,a2⟩:=xV O r (s+l.size) h x hw.2.1 (by omega) KY hxr ndr;have ho:=vJ (lb:=lb) r (s+l.size) x h;generalize dropH lb r (s+l.size) x h=Jo at*;have ehl:∀k,s<=k->k<s+l.size->Jo k=h k:=fun k k1 k2=>ho k (.inl k2);have e2:Jo ((FT.node l r).root s)=some i:=by rw[ho _ (by omega)];exact er
     refine⟨Dm (h:=h) hw e2 (KV.congr ehl) a1 c1 (fun j hj=>by rw[bU l _ ehl]at hj;exact c2 j hj) (fun j hj=>c3 j (a2.mem_iff.1 (lU _ hj))),?_⟩;simp only[held];rw[e2,bU l _ ehl];show(x::i::(held h l s++held Jo r (s+l.size))).Perm _;refine(List.Perm.swap _ _ _).trans (List.Perm.cons i ?_);exact(List.perm_middle.symm).trans (a2.append_left _)
theorem Br:∀(t:FT) (s:Nat) (h:iU) (x:Nat),t.wf->ik lt h t s->t.lo<=x->x<t.hi->
  ((∀k∈t.path s x,h k≠some x)->x∉held h t s)/\
  ∀m k:Nat,(t.path s x)[m]? =some k->h k=some x->(∀i<m,∀k',(t.path s x)[i]? =some k'->h k'≠some x)->∃t' s',(t',s')∈t.subs s/\k=t'.root s'/\dropH lb t s x h=pullH lb t' s' h
 |.leaf a,s,h,x,hw,ok,h1,h2=>by
  refine⟨fun hk hx=>hk s (by simp[FT.path]) (by simpa[held]using hx),fun m k hm hk hf=>?_⟩;have Dk:m=0/\k=s:=by
   cases m with
   |zero=>simp[FT.path]at hm;exact⟨rfl,hm.symm⟩
   |succ m=>simp[FT.path]at hm
  exact⟨.leaf a,s,by simp[FT.subs],by rw[Dk.2];rfl,rfl⟩
 |.node l r,s,h,x,hw,ok,h1,h2=>by
  have q3:=hw.2.2;have h1':l.lo<=x:=h1;have Jo:x<r.hi:=h2;obtain⟨c1,c2,KV,KY⟩:=ok;have spl:=KV.span hw.1;have spr:=KY.span hw.2.1;have step:∀(t2:FT) (s2:Nat),(FT.node l r).path s x=(FT.node l r).root s::t2.path s2 x->(∀p∈t2.subs s2,p∈(FT.node l r).subs s)->
    (x∈held h (.node l r) s->h ((FT.node l r).root s)≠some x->x∈held h t2 s2)->(h ((FT.node l r).root s)≠some x->dropH lb (.node l r) s x h=dropH lb t2 s2 x h)->
    (((∀k∈t2.path s2 x,h k≠some x)->x∉held h t2 s2)/\∀m k:Nat,(t2.path s2 x)[m]? =some k->h k=some x->(∀i<m,∀k',(t2.path s2 x)[i]? =some k'->h k'≠some x)->∃t' s',(t',s')∈t2.subs s2/\k=t'.root s'/\dropH lb t2 s2 x h=pullH lb t' s' h)->
    ((∀k∈(FT.node l r).path s x,h k≠some x)->x∉held h (.node l r) s)/\
     ∀m k:Nat,((FT.node l r).path s x)[m]? =some k->h k=some x->(∀i<m,∀k',((FT.node l r).path s x)[i]? =some k'->h k'≠some x)->∃t' s',(t',s')∈(FT.node l r).subs s/\k=t'.root s'/\dropH lb (.node l r) s x h=pullH lb t' s' h:=by
   intro t2 s2 ep adD iC hdr ih;rw[ep];refine⟨fun hk hx=>?_,fun m k hm hk hf=>?_⟩
   .exact ih.1 (fun k hk2=>hk k (lU _ hk2)) (iC hx (hk _ (by simp)))
   .cases m with
    |zero=>
     simp only[aT,jB]at hm;subst hm;exact⟨.node l r,s,by simp[FT.subs],rfl,by simp only[dropH];rw[aR hk]⟩
    |succ m=>
     have hr0:=hf 0 (by omega) ((FT.node l r).root s) (by simp);obtain⟨t',s',a1,a2,a3⟩:=ih.2 m k (by simpa using hm) hk (fun i hi k' Bo=>hf (i+1) (by omega) k' (by simpa using Bo));exact⟨t',s',adD _ a1,a2,by rw[hdr hr0];exact a3⟩
  by_cases hx:x<l.hi
  .refine step l s (by rw[FT.path,aR hx]) (fun p hp=>by simp only[FT.subs,df];exact .inl (.inl hp)) (fun hh hr=>?_) (fun hr=>by simp only[dropH];rw[aP hr,aR hx]) (Br l s h x hw.1 KV h1' hx);simp only[held,df,DN,hr,false_or]at hh;rcases hh with hh|hh
   .exact hh
   .have:=spr x hh;omega
  .refine step r (s+l.size) (by rw[FT.path,aP hx]) (fun p hp=>by simp only[FT.subs,df];exact .inl (.inr hp)) (fun hh hr=>?_) (fun hr=>by simp only[dropH];rw[aP hr,aP hx]) (Br r _ h x hw.2.1 KY (by omega) Jo);simp only[held,df,DN,hr,false_or]at hh;rcases hh with hh|hh
   .have:=spl x hh;omega
   .exact hh
end
def Cz (R:List Pt) (i j:Nat):Prop:=vN (bY R i) (bY R j)
def Gy (R:List Pt) (i j:Nat):Bool:=decide (vN (bY R i) (bY R j))
theorem Qj {R:List Pt} (hu:(ids R).Nodup) {i k:Nat} (hi:i<R.length) (hk:k<R.length) (hne:i≠k):ko R i≠ko R k:=by
 unfold ko;rw[dI hi,dI hk];have hid:=dG.1 hu;rcases Nat.lt_trichotomy i k with h|h|h
 .exact iq.1 hid i k hi hk h
 .exact absurd h hne
 .exact fun e=>iq.1 hid k i hk hi h e.symm
theorem Qk {R:List Pt} (hu:(ids R).Nodup):Ord (Cz R) (Gy R) R.length:=
 ⟨fun i j k h h2=>uX h h2,fun i j hi hj oV=>by
  have:=Qj hu hi hj oV;unfold ko at this;unfold Cz vN;omega,fun i j=>by unfold Gy Cz;simp⟩
def pU (R:List Pt) (h:iU):List Nat:=if R.length=0 then[]else held h (dO 0 R.length) 0
theorem pE {R:List Pt} {h:iU} (h0:0<R.length):pU R h=held h (dO 0 R.length) 0:=by unfold pU;rw[aP (by omega)]
structure nG (R:List Pt) (h:iU):Prop where
 Ei:R.Pairwise sK
 ids:(ids R).Nodup
 ok:0<R.length->ik (Cz R) h (dO 0 R.length) 0
 jG:(pU R h).Nodup
section
variable {R:List Pt} {h:iU} {l:List Pt}
theorem nG.lt (H:nG R h) {i:Nat} (hi:i∈pU R h):i<R.length:=by
 by_cases h0:R.length=0
 .unfold pU at hi;rw[aR h0]at hi;exact absurd hi jC
 .obtain⟨w1,w2,w3⟩:=bT 0 R.length (by omega);rw[pE (by omega)]at hi;have:=(H.ok (by omega)).span w1 i hi;omega
theorem nG.xsS (H:nG R h):(bX R).Pairwise (·<=·):=dG.2 (H.Ei.imp fun h=>by unfold sK at h;omega)
def Fw (R:List Pt):iU:=fillH (dO 0 R.length) 0 (dQ R) fun _=>none
theorem RV (hx:R.Pairwise sK) (hu:(ids R).Nodup):nG R (Fw R)/\(pU R (Fw R)).Perm (dQ R):=by
 have hW:=pz hx hu;have key:0<R.length->ik (Cz R) (Fw R) (dO 0 R.length) 0/\(held (Fw R) (dO 0 R.length) 0).Perm (dQ R):=fun h0=>by
  obtain⟨w1,w2,w3⟩:=bT 0 R.length h0;exact xP (lt:=Cz R) _ 0 (dQ R) _ w1 hW.ysY hW.nodup (fun i hi=>by have:=hW.lt hi;omega) (fun _ _ _=>rfl)
 have hp:(pU R (Fw R)).Perm (dQ R):=by
  by_cases h0:R.length=0
  .have:dQ R=[]:=jw (by rw[kL];exact h0);unfold pU;rw[aR h0,this]
  .rw[pE (by omega)];exact(key (by omega)).2
 exact⟨⟨hx,hu,fun h0=>(key h0).1,hp.nodup_iff.2 hW.nodup⟩,hp⟩
theorem UR (hx:R.Pairwise sK) (hu:(ids R).Nodup):((pU R (Fw R)).map (bY R)).Perm R:=by
 have hW:=pz hx hu;have e:(dQ R).map (bY R)=kY R:=by
  unfold dQ;rw[xu]
  conv=>rhs;rw[<-List.map_id (kY R)]
  exact IK fun p hp=>EN ((kK R p).1 hp)
 exact(((RV hx hu).2.map (bY R)).trans (by rw[e])).trans (jo R)
def Gz (R:List Pt) (x:Nat) (h:iU):iU:=dropH (Gy R) (dO 0 R.length) 0 x h
theorem nG.drop (H:nG R h) {x:Nat} (hx:x∈pU R h):nG R (Gz R x h)/\(x::pU R (Gz R x h)).Perm (pU R h):=by
 have hl:=H.lt hx;have h0:0<R.length:=by omega
 obtain⟨w1,w2,w3⟩:=bT 0 R.length h0;have OL:=hx;have hn:=H.jG;rw[pE h0]at OL hn;obtain⟨a1,a2⟩:=xV (Qk H.ids) (dO 0 R.length) 0 h x w1 (by omega) (H.ok h0) OL hn;have hp:(x::pU R (Gz R x h)).Perm (pU R h):=by rw[pE h0,pE h0];exact a2
 exact⟨⟨H.Ei,H.ids,fun _=>a1,(mX.1 (hp.nodup_iff.2 H.jG)).2⟩,hp⟩
abbrev Bt (R:List Pt) (h:iU) (l:List Pt):Prop:=((pU R h).map (bY R)).Perm l
theorem Bt.ids (H:nG R h) (hl:Bt R h l):(Go.Proofs.YtkjdbndekceffaaGreat.ids l).Nodup:=by
 have h1:(((pU R h).map (bY R)).map fun p=>p.2.2).Nodup:=by
  rw[xu];refine dG.2 (Dq (fun{i k} hi hk hne=>?_) H.jG);exact Qj H.ids (H.lt hi) (H.lt hk) hne
 exact(hl.map _).nodup_iff.1 h1
theorem Bt.mem (hl:Bt R h l) (p:Pt):p∈l↔∃i∈pU R h,bY R i=p:=by rw[<-hl.mem_iff,dY]
theorem Bt.len (hl:Bt R h l):(pU R h).length=l.length:=by have:=hl.length_eq;simpa using this
theorem nG.few (H:nG R h):(pU R h).length<=R.length:=AL H.jG fun k hk=>H.lt hk
theorem Bt.drop (H:nG R h) (hl:Bt R h l) {x:Nat} (hx:x∈pU R h):Bt R (Gz R x h) (l.filter fun q=>decide (q≠bY R x)):=by
 obtain⟨h1,h2⟩:=H.drop hx;have p1:(bY R x::(pU R (Gz R x h)).map (bY R)).Perm l:=(h2.map (bY R)).trans hl;have TG:l.Nodup:=mI (R:=fun p q:Pt=>p.2.2≠q.2.2) (fun p h=>h rfl) (dG.1 (Bt.ids H hl));have hn:=p1.nodup_iff.2 TG;have p2:=p1.filter fun q=>decide (q≠bY R x);rw[Iw (by simp),qc.2 (fun q hq=>by
  simp only[bZ];rintro rfl;exact(mX.1 hn).1 hq)]at p2
 exact p2
def Wq (x1 x2 y:Int) (p:Pt):Bool:=decide (x1<=p.1/\p.1<=x2/\p.2.1<=y)
def vX (l:List Pt) (x1 x2 y:Int):List Int:=gu (ids (l.filter (Wq x1 x2 y)))
theorem MV (x1 x2 y:Int):(vX l x1 x2 y).length=(l.filter (Wq x1 x2 y)).length:=by unfold vX;rw[jK];simp[Go.Proofs.YtkjdbndekceffaaGreat.ids]
def jP (R:List Pt) (x1:Int):Nat:=(aX (bX R) x1).1
def nk (R:List Pt) (x2:Int):Nat:=(aW (bX R) x2).1
def oN (more:Bool) (R:List Pt) (h:iU) (x1 x2 y:Int):List Nat×Nat:=
 if R.length=0\/x2<x1 then([],0)else
 if jP R x1<nk R x2 then((downG more h (mD R) y (jP R x1) (nk R x2) (dO 0 R.length) 0).1,(aX (bX R) x1).2+(aW (bX R) x2).2+(downG more h (mD R) y (jP R x1) (nk R x2) (dO 0 R.length) 0).2.1)
 else([],(aX (bX R) x1).2+(aW (bX R) x2).2)
theorem adE (R:List Pt) (x2:Int):nk R x2<=R.length:=by
 have:=(gK (fun i=>decide (x2<(bX R).getD i 0)) (bX R).length).2;have e:(bX R).length=R.length:=by simp[bX]
 unfold nk aW;omega
theorem RX (H:nG R h) (x1 x2 y:Int) {i:Nat} (hi:i<R.length):Cg (mD R) y (jP R x1) (nk R x2) i=Wq x1 x2 y (bY R i):=by
 have nD:i<(bX R).length:=by unfold bX;simpa using hi
 have hxi:(bX R)[i]=(bY R i).1:=by rw[dI hi];simp[bX]
 have h1:=uC H.xsS x1 nD;have h2:=uD H.xsS x2 nD;rw[hxi]at h1 h2;unfold Cg Wq jP nk mD;rw[wY,bZ,bZ,h1,h2]
theorem Y6 (i j:Nat):Cz R i j->mD R i<=mD R j:=fun h=>by unfold Cz vN at h;unfold mD;omega
def Bu (R:List Pt) (h:iU) (x1 x2 y:Int):List Nat:=(pU R h).filter fun i=>Wq x1 x2 y (bY R i)
theorem RY (H:nG R h) (more:Bool) (x1 x2 y:Int):(oN more R h x1 x2 y).1=if more then Bu R h x1 x2 y else(Bu R h x1 x2 y).take 1:=by
 have hno:(∀i∈pU R h,Wq x1 x2 y (bY R i)=false)->([]:List Nat)=if more then Bu R h x1 x2 y else(Bu R h x1 x2 y).take 1:=fun hh=>by
  have:Bu R h x1 x2 y=[]:=zR.2 fun i hi=>by rw[hh i hi];decide
  rw[this];cases more<;>rfl
 unfold oN;split
 .rename_i hc;refine hno fun i hi=>?_;have hl:=H.lt hi;unfold Wq;simp only[iE];omega
 .rename_i hc;split
  .have h0:0<R.length:=by omega
   obtain⟨w1,w2,w3⟩:=bT 0 R.length h0;have e:Bu R h x1 x2 y=(held h (dO 0 R.length) 0).filter (Cg (mD R) y (jP R x1) (nk R x2)):=by
    unfold Bu;rw[pE h0];refine pJ fun i hi=>?_;rw[RX H x1 x2 y (H.lt (by rw[pE h0];exact hi))]
   cases more with
   |true=>rw[e];exact(xR Y6 _ 0 w1 (H.ok h0)).1
   |false=>rw[e];exact(Bq Y6 _ 0 w1 (H.ok h0)).1
  .rename_i Od;refine hno fun i hi=>?_;rw[<-RX H x1 x2 y (H.lt hi)];unfold Cg;simp only[iE];omega
theorem Y7 (hl:Bt R h l) (x1 x2 y:Int):((Bu R h x1 x2 y).map (bY R)).Perm (l.filter (Wq x1 x2 y)):=by
 have:=hl.filter (Wq x1 x2 y);rw[Ah]at this;exact this
theorem Ql (hl:Bt R h l) (x1 x2 y:Int):gu ((Bu R h x1 x2 y).map (ko R))=vX l x1 x2 y/\(Bu R h x1 x2 y).length=(vX l x1 x2 y).length:=by
 have h1:=Y7 hl x1 x2 y;have h2:((Bu R h x1 x2 y).map (ko R)).Perm (Go.Proofs.YtkjdbndekceffaaGreat.ids (l.filter (Wq x1 x2 y))):=by
  have:=h1.map fun p=>p.2.2;rw[xu]at this;exact this
 refine⟨?_,?_⟩
 .unfold vX;exact Ry (uE _) ((sP _ _).trans h2.symm)
 .rw[MV];have:=h1.length_eq;simpa using this
theorem Hy (H:nG R h) (hR:R.length<=100000) (more:Bool) (x1 x2 y:Int):
  (oN more R h x1 x2 y).1.length<=(oN more R h x1 x2 y).2/\(oN more R h x1 x2 y).2<=(if more then 2 else 0)*(oN more R h x1 x2 y).1.length+6*Lib.bitLen R.length+1:=by
 unfold oN;split
 .simp
 .rename_i hc;have h0:0<R.length:=by omega
  have nD:(bX R).length=R.length:=by simp[bX]
  have a1:=lN (bX R) x1 (by omega);have a2:=lQ (bX R) x2 (by omega);rw[nD]at a1 a2;split
  .obtain⟨w1,w2,w3⟩:=bT 0 R.length h0;have hb:=(bS R.length (by omega) (by omega)).2.2;have hh:=xA 0 R.length (Lib.bitLen R.length) (by omega);have c1:=xU (more:=more) (yv:=mD R) (y:=y) (fr:=jP R x1) (ub:=nk R x2) rfl (dO 0 R.length) 0 w1 (H.ok h0);have c2:=xS (h:=h) (yv:=mD R) (y:=y) (fr:=jP R x1) (ub:=nk R x2) more (dO 0 R.length) 0;simp only;omega
  .simp only[iG];omega
theorem MW (H:nG R h) (hR:R.length<=20000) (more:Bool) (x1 x2 y:Int):(oN more R h x1 x2 y).1.length<=R.length/\(oN more R h x1 x2 y).2<=100000:=by
 have h1:=(Hy H (by omega) more x1 x2 y).2;have hb:Lib.bitLen R.length<=15:=bO (fE hR (by omega)) (by decide);have h2:(oN more R h x1 x2 y).1.length<=R.length:=by
  rw[RY H];have h3:(Bu R h x1 x2 y).length<=R.length:=bO (gG _ _) H.few;cases more with
  |true=>exact h3
  |false=>simp only[rY,jU,eF];omega
 refine⟨h2,?_⟩;cases more<;>simp at h1<;>omega
end
end Go.Proofs.YtkjdbndekceffaaGreat
namespace Go.Proofs.YtkjdbndekceffaaGreat
open Go.RowKit Go.Sort Go.Shelf Go.Lib Go.Maps
attribute [local irreducible] wpQuiet
def stk (a b:Nat):List (FT×Nat)->List Nat×Nat
 |[]=>([],0)
 |p::st=>((p.1.canon p.2 a b).1++(stk a b st).1,(p.1.canon p.2 a b).2+(stk a b st).2)
def sJ:List (FT×Nat)->Nat
 |[]=>0
 |p::st=>p.1.size+sJ st
def Fx (st:List (FT×Nat)):List Nat:=(st.map fun p=>p.1.root p.2).reverse
theorem Bv (p:FT×Nat) (st:List (FT×Nat)):Fx (p::st)=Fx st++[p.1.root p.2]:=by simp[Fx]
theorem zB (st:List (FT×Nat)):(Fx st).length=st.length:=by simp[Fx]
theorem RZ:∀st:List (FT×Nat),st.length<=sJ st
 |[]=>aG _
 |p::st=>by
  have h1:=RZ st;have h2:=p.1.size_pos;simp only[sJ,fU];omega
theorem FT.rU (a b:Nat):∀(t:FT) (s:Nat),(t.canon s a b).2<=t.size/\(t.canon s a b).1.length<=t.size:=by
 intro t
 induction t with
 |leaf x=>
  intro s;rw[FT.canon];split<;>simp[FT.size]
 |node l r il ir=>
  intro s;have h1:=il s;have h2:=ir (s+l.size);have h3:=l.size_pos;rw[FT.canon];split
  .simp[FT.size]
  .split
   .simp[FT.size]
   .show _+_+1<=_/\((_:List Nat)++_).length<=_;rw[bF];simp only[FT.size];omega
def fF (i:Nat):Value:=.int .i64 (i:Nat)
def adF (w:World) (n a b:Nat) (e:Ending) (w':World):Prop:=
 ∃v,e=.returned (.tuple #[v,ag (((dO 0 n).canon 0 a b).2:Nat),ag 0])/\w'.ownsRow w.heap.size 3 1 v ((dO 0 n).canon 0 a b).1.length (((dO 0 n).canon 0 a b).1.map fF)/\Below w.heap.size w w'
theorem adG {w:World} {g off:Nat} {N:List Nd} {i:Nat} {d:Nd} (h:dU qo 7 w (some (ah g off)) N) (hi:N[i]? =some d):
  g<w.heap.size/\w.cell? (ah g (off+i*7))=some (.int .u8 d.kind)/\w.cell? (ah g (off+i*7+1))=some (ag d.l)/\w.cell? (ah g (off+i*7+2))=some (ag d.r)/\w.cell? (ah g (off+i*7+3))=some (ag d.fr)/\w.cell? (ah g (off+i*7+4))=some (ag d.Ri)/\w.cell? (ah g (off+i*7+5))=some (ag 0)/\w.cell? (ah g (off+i*7+6))=some (ag d.item):=by
 obtain⟨hl,hd⟩:=gD.1 hi;rcases h with h|⟨b,o,e,hb,hc⟩
 .subst h;simp at hl
 .cases e;have c:=hc i hl;rw[hd]at c;exact⟨hb,c 0 (by omega),c 1 (by omega),c 2 (by omega),c 3 (by omega),c 4 (by omega),c 5 (by omega),c 6 (by omega)⟩
theorem zC (l:List Nat) (k:Nat):(l++[k]).map fF=l.map fF++[.int .i64 (k:Nat)]:=by simp[fF]
theorem MX (base fb n a b:Nat) (nv:Value) (hn:n<=40000) (hab:a<b) (hb:b<=n) (w:World) (h:o8 w base fb n nv):
  aO 175 #[ay fb,ag a,ag b] w (adF w n a b):=by
 have Cr:fb<w.heap.size:=(bn.1 h.blk).1;have qK:=h.blk;have h5:w.cell? (ah fb 5)=some (.bool true):=by simp[World.cell?,qK]
 have h4:w.cell? (ah fb 4)=some (ag n):=by simp[World.cell?,qK]
 have CN:=rA fb w h5;have hlen:=dA n;obtain⟨na,nc,rfl,-,-,jE⟩:=dU.aL jO (by decide) h.row;have Ua:∃g off,na=some (ah g off):=by
  rcases jE with h9|⟨g,off,e,_⟩
  .rw[h9]at hlen;simp at hlen;omega
  .exact⟨g,off,e⟩
 obtain⟨g,off,rfl⟩:=Ua;have CA:=uw fb n _ ⟨_,_,rfl⟩ w qK;have CR:=ae (fun W (hb:Below w.heap.size w W)=>jV fb n (by omega) (by omega) W ((hb.cell (p:=(ah fb 5)) Cr).trans h5) ((hb.cell (p:=(ah fb 4)) Cr).trans h4));have hT:=bT 0 n (by omega);have hS:=fB 0 n (by omega);have F6:=ae (kH n (by omega));have Df:=ae jE;have HT:Hid ((dO 0 n).root 0=2*n-2/\(dO 0 n).size=2*n-1):=⟨by unfold FT.root;omega,hS⟩;have hcs:=FT.rU a b (dO 0 n) 0;rw[hS]at hcs;have d1:decide ((a:Int)<0)=false:=by simp
 have d2:decide ((a:Int)>(b:Int))=false:=by simp;omega
 have d3:decide ((b:Int)<(a:Int))=false:=by simp;omega
 have d4:decide (b<a)=false:=by simp;omega
 have d5:decide ((b:Int)>(n:Int))=false:=by simp;omega
 have d6:decide ((n:Int)<(b:Int))=false:=by simp;omega
 have d7:decide (n<b)=false:=by simp;omega
 have d8:((a:Int)==(b:Int))=false:=by simp;omega
 have d9:(a==b)=false:=by simp;omega
 have d10:decide (a=b)=false:=by simp;omega
 have hLN:(aZ n).length<=100000:=by omega
 have HCS:=ae hcs;unfold adF;generalize hC:(dO 0 n).canon 0 a b=C at*;have HC:=ae hC;generalize hD:aZ n=D at*;clear hD qK h jE hT hS hlen hC hcs;go_enter Tryz.func175,Tryz.ntmps175
 go_wp2_with fail
 with_reducible refine CN.mono ?_
 rintro e w' ⟨rfl,ew⟩;subst w';clear CN
 go_wp2_with fail
 with_reducible refine CA.mono ?_
 rintro e w1 ⟨rfl,hb1⟩;clear CA d1 d2 d3 d4 d5 d6 d7 d8 d9 d10 h5 h4
 go_wp2_with fail
 refine(CR.out w1 hb1).mono ?_;rintro e w2 ⟨rfl,ew⟩;subst ew;clear CR
 go_wp2_with fail
 have mf:=EE w2 w.heap.size [.int .i64 ((2*n-2:Nat):Int)] 3 hb1.size (by unfold maxLen;simp);simp only[fU,iG,lu]at mf
 go_loopg [10,11,12] (2*n) (fun kx s10 s11 s12 wr=>∃(st:List (FT×Nat)) (acc:List Nat) (en:Nat),s11=.int .i64 en/\sJ st<=kx/\sJ st<=80000/\Below w.heap.size w wr/\Hid (∀p∈st,FT.At D p.1 p.2)/\Hid (C=(acc++(stk a b st).1,en+(stk a b st).2))/\
  Hid (wr.ownsRow w.heap.size 3 1 s10 acc.length (acc.map fF))/\Hid (wr.ownsRow w.heap.size 3 1 s12 st.length ((Fx st).map fF))/\Hid (∀g,s10.ownBlock=some g->s12.ownBlock≠some g))
 case atStart=>
  refine⟨[(dO 0 n,0)],[],0,rfl,?_,?_,hb1.trans ((aM _ w2).alloc hb1.size _),?_,?_,dL _ _ _ _,?_,?_⟩
  .simp only[sJ];have:=HT.out.2;omega
  .simp only[sJ];have:=HT.out.2;omega
  .intro p hp;obtain rfl:=mR.1 hp;exact F6.out
  .show C=_;simp[stk,HC.out]
  .simp only[Fx,mY,qX,List.reverse_singleton,HT.out.1];exact mf
  .intro g h;cases h
 case round=>
  obtain⟨st,acc,en,rfl,PH,Yy,nJ,HA,EG,Oe,HOp,vP⟩:=hrel;cases st with
  |nil=>
   have hC2:=EG.out;simp only[stk,jD,eG]at hC2;have kg:=ae hC2;simp only[iG]at HOp;obtain⟨oa,oc,rfl⟩:=fI Oe.out;obtain⟨pa,pc,rfl⟩:=fI HOp.out;clear hC2 EG HC;go_wp2;go_ret3;rw[kg.out];exact⟨_,rfl,Oe.out,nJ⟩
  |cons p st=>
   obtain⟨t,s⟩:=p;obtain⟨oa,oc,rfl⟩:=fI Oe.out;have hat:FT.At D t s:=HA.out _ (.head _);obtain⟨hg,c0,c1,c2,c3,c4,c5,c6⟩:=adG (Df.out.below nJ) hat.get;have hrt:=hat.lt;rw[FT.Je]at c3;rw[FT.xB]at c4;obtain⟨go,co,eo,aCU,aCV,ang,aCW⟩:=bf HOp.out (by simp);subst eo;have hOp:=HOp.out;rw[Bv,zC]at hOp;simp only[fU]at hOp ang;have hx:wr.cell? (ah go st.length)=some (ag (t.root s:Nat)):=by
    have h9:=hOp.cellAt st.length (by omega);rw[oO (by simp[zB])]at h9;simpa[zB]using h9
   have ah8:=yA hOp (m:=st.length) (by omega);rw[lC,Io (by simp[zB]),kZ (by simp[zB])]at ah8;have hCe:C=(acc++((t.canon s a b).1++(stk a b st).1),en+((t.canon s a b).2+(stk a b st).2)):=EG.out;have MZ:(t.hi<=a\/b<=t.lo)->Hid (C=(acc++(stk a b st).1,(en+1)+(stk a b st).2)):=fun h=>by
    show C=_;rw[hCe,FT.iR h,iV,Al]
   have Di:¬(t.hi<=a\/b<=t.lo)->(a<=t.lo/\t.hi<=b)->Hid (C=((acc++[t.root s])++(stk a b st).1,(en+1)+(stk a b st).2)):=fun h h2=>by
    show C=_;rw[hCe,FT.ug h h2,ek,Al]
   have Sa:¬(t.hi<=a\/b<=t.lo)->¬(a<=t.lo/\t.hi<=b)->∃l r,t=.node l r/\Hid (C=(acc++(stk a b ((l,s)::(r,s+l.size)::st)).1,(en+1)+(stk a b ((l,s)::(r,s+l.size)::st)).2)):=fun h h2=>by
    cases t with
    |leaf x=>exact absurd (by simp only[FT.lo,FT.hi]at h |-;omega) h2
    |node l r=>
     refine⟨l,r,rfl,?_⟩;show C=_;rw[hCe,FT.nV h h2];simp only[stk,ek];refine Prod.ext rfl ?_;simp only;omega
   have hCb:en+1<=100000/\acc.length+1<=100000:=by
    have h1:=HCS.out;have h3:=(FT.rU a b t s);rw[hCe]at h1;have h4:0<(t.canon s a b).2:=by
     cases t with
     |leaf x=>rw[FT.canon];split<;>simp
     |node l r=>rw[FT.canon];split;simp;split<;>simp
    simp only[bF]at h1;omega
   have auw:st.length+2<=100000:=by
    have h1:=RZ st;have h2:t.size+sJ st<=80000:=Yy;have h3:=t.size_pos;omega
   have HHA:Hid (∀p∈st,FT.At D p.1 p.2):=fun p hp=>HA.out p (.tail _ hp);have Qm:=ae hat;have HPO:=ae ah8;have Sb:=ae (show t.size+sJ st<=_ from PH);have hsz:0<t.size:=t.size_pos;obtain⟨m,hm⟩:∃m,m=st.length:=⟨_,rfl⟩;have HM:=ae hm;simp only[fU];rw[<-hm]at hx ang auw |-;have hg0:decide ((0:Int)<((m+1:Nat):Int))=true:=by simp
   generalize Ru:t.root s=k at*;have HKK:=ae Ru;generalize hth:t.hi=th at*;generalize jk:t.lo=tl at*;generalize(t.top s).kind=kd at*;generalize zM:(t.top s).l=dl at*;generalize hdr:(t.top s).r=dr at*;generalize(t.top s).item=it at*;have HDL:Hid ((t.top s).l=dl/\(t.top s).r=dr):=⟨zM,hdr⟩;clear Ru hth jk zM hdr hm hOp ah8 hCe HA EG HOp hat PH;have aia:sJ st<=80000:=by have h2:t.size+sJ st<=80000:=Yy;omega
   have Hu:Hid (t.size+sJ st<=80000):=Yy;have hws:=nJ.size;have vQ:Hid (∀g,(Value.slice oa acc.length oc).ownBlock=some g->g≠go):=fun g e e2=>vP.out g e (by rw[e2];rfl);have asx:acc.length<=100000:=by omega
   clear Yy vP;by_cases h1:th<=a\/b<=tl
   .have F7:=MZ h1;clear MZ Di Sa Qm HDL;have F:∀W,W=wr.alloc (.cells #[.int .u8 kd,ag dl,ag dr,ag tl,ag th,ag 0,ag it] 163)->Below w.heap.size w W/\W.ownsRow w.heap.size 3 1 (.slice oa acc.length oc) acc.length (acc.map fF)/\W.ownsRow w.heap.size 3 1 (aD go m co) st.length ((Fx st).map fF):=fun W e=>by
     subst e;exact⟨nJ.alloc hws _,Oe.out.alloc _,by rw[HM.out];exact HPO.out.alloc _⟩
    have HF:=ae F;clear F;by_cases h2:th<=a
    .have e1:decide ((th:Int)<=(a:Int))=true:=by simp;omega
     have e2:decide (th<=a)=true:=by simp;omega
     clear h1 h2;go_wp2
     go_roundg (sJ st)
     case measure=>have:=Sb.out;omega
     case rel=>
      obtain⟨f1,f2,f3⟩:=HF.out _ rfl;exact⟨st,acc,en+1,by go_num,aG _,aia,f1,HHA,F7,f2,f3,fun g e e2=>vQ.out g e (by injection e2 with e2;exact e2.symm)⟩
    .have e1:decide ((th:Int)<=(a:Int))=false:=by simp;omega
     have e2:decide (th<=a)=false:=by simp;omega
     have e3:decide ((b:Int)<=(tl:Int))=true:=by simp;omega
     have e4:decide (b<=tl)=true:=by simp;omega
     clear h1 h2;go_wp2
     go_roundg (sJ st)
     case measure=>have:=Sb.out;omega
     case rel=>
      obtain⟨f1,f2,f3⟩:=HF.out _ rfl;exact⟨st,acc,en+1,by go_num,aG _,aia,f1,HHA,F7,f2,f3,fun g e e2=>vQ.out g e (by injection e2 with e2;exact e2.symm)⟩
   .have e1:decide ((th:Int)<=(a:Int))=false:=by simp;omega
    have e2:decide (th<=a)=false:=by simp;omega
    have e3:decide ((b:Int)<=(tl:Int))=false:=by simp;omega
    have e4:decide (b<=tl)=false:=by simp;omega
    clear MZ;by_cases h2:a<=tl/\th<=b
    .have F7:=Di h1 h2;have e5:decide ((a:Int)<=(tl:Int))=true:=by simp;omega
     have e6:decide (a<=tl)=true:=by simp;omega
     have e7:decide ((th:Int)<=(b:Int))=true:=by simp;omega
     have e8:decide (th<=b)=true:=by simp;omega
     clear Di Sa Qm HDL h1 h2;obtain⟨wN,ewN⟩:∃wN,wN=wr.alloc (.cells #[.int .u8 kd,ag dl,ag dr,ag tl,ag th,ag 0,ag it] 163):=⟨_,rfl⟩;have UT:Hid (wN.ownsRow w.heap.size 3 1 (.slice oa acc.length oc) acc.length (acc.map fF)):=by rw[ewN];exact Oe.out.alloc _
     have bN:Below wr.heap.size wr wN:=by rw[ewN];exact(aM _ _).alloc (aG _) _
     have Sc:=ae bN;have hsN:wr.heap.size<=wN.heap.size:=bN.size;clear bN
     go_upto_region 19 with fail
     rw[<-ewN];clear ewN
     go_wp2_with (at_builtin;refine cz oU w.heap.size UT.out [.int .i64 k] rfl (by simp[Value.oneCell']) rfl _ _ rfl rfl _ rfl (by unfold maxLen;omega) (by omega) (by omega) ?_;intro v' w3 hown' hg hblk)
     go_roundg (sJ st)
     case measure=>have:=Sb.out;omega
     case rel=>
      have b1:Below w.heap.size w wN:=nJ.trans (Sc.out.mono hws);have K:aC (fun q=>(Value.slice oa acc.length oc).ownBlock=some q) wr w3:=((aC.refl _ wr).below Sc.out).grown hg (fun q hq=>.inl hq);refine⟨st,acc++[k],en+1,by go_num,aG _,aia,eH b1 UT.out hg b1.size (aG _),HHA,F7,?_,?_,?_⟩
      .show World.ownsRow _ _ _ _ _ _ _;rw[zC,bF];exact hown'
      .show World.ownsRow _ _ _ _ _ _ _;have h9:=aY HPO.out K (fun gb e e2=>vQ.out gb e2 (by injection e with e;exact e.symm));rw[HM.out];exact h9
      .intro gb e e2;have e3:go=gb:=by injection e2
       rcases gm hblk with h9|⟨q,h9,h8⟩
       .exact vQ.out gb (h9▸e) e3.symm
       .rw[h9]at e;injection e with e;omega
    .obtain⟨l,r,et,F7⟩:=Sa h1 h2;subst et;have uy:=Qm.out.left.lt;have ym:=Qm.out.right.lt;have eL:dl=((l.root s:Nat):Int):=by rw[<-HDL.out.1];simp only[FT.top];unfold FT.root;have:=l.size_pos;omega
     have eR:dr=((r.root (s+l.size):Nat):Int):=by rw[<-HDL.out.2];simp only[FT.top];unfold FT.root;have:=r.size_pos;omega
     have HAl:=ae Qm.out.left;have HAr:=ae Qm.out.right;subst eL eR;have HSZ:Hid ((FT.node l r).size=l.size+r.size+1):=rfl;obtain⟨kl,gU⟩:∃kl,kl=l.root s:=⟨_,rfl⟩;obtain⟨kr,Dg⟩:∃kr,kr=r.root (s+l.size):=⟨_,rfl⟩;rw[<-gU]at c1 uy;rw[<-Dg]at c2 ym;have HKL:Hid (kl=l.root s/\kr=r.root (s+l.size)):=⟨gU,Dg⟩;have HST:Hid ((Fx ((l,s)::(r,s+l.size)::st)).map fF=(Fx st).map fF++[.int .i64 (kr:Nat),.int .i64 (kl:Nat)]):=by
      show _=_;rw[Bv,Bv,zC,zC,gU,Dg,ek];rfl
     clear gU Dg Di Sa HDL Qm h1;obtain⟨wN,ewN⟩:∃wN,wN=wr.alloc (.cells #[.int .u8 kd,ag kl,ag kr,ag tl,ag th,ag 0,ag it] 163):=⟨_,rfl⟩;have bN:Below wr.heap.size wr wN:=by rw[ewN];exact(aM _ _).alloc (aG _) _
     have hxN:wN.heap[wr.heap.size]? =some (.cells #[.int .u8 kd,ag kl,ag kr,ag tl,ag th,ag 0,ag it] 163 (0,0)):=by rw[ewN];exact dE _ _
     have n1:wN.cell? (ah wr.heap.size 1)=some (ag kl):=by simp[World.cell?,hxN]
     have n2:wN.cell? (ah wr.heap.size 2)=some (ag kr):=by simp[World.cell?,hxN]
     have anj:Hid (wN.ownsRow w.heap.size 3 1 (aD go m co) m ((Fx st).map fF)):=by
      show World.ownsRow _ _ _ _ _ _ _;rw[HM.out];exact au HPO.out bN
     have Sc:=ae bN;have hsN:wr.heap.size<wN.heap.size:=(bn.1 hxN).1;have ank:dU (fun x:Int=>[ag x]) 1 (wN.alloc (.cells #[ag kr,ag kl] 3)) (some (ah wN.heap.size 0)) [(kr:Int),(kl:Int)]:=dU.lit (enc:=fun x:Int=>[ag x]) (sz:=1) (fun _=>rfl) wN 3 [(kr:Int),(kl:Int)] _ rfl;have auA:=ae ank;clear ank bN hxN;by_cases h3:a<=tl
     all_goals
      first
       |(have e5:decide ((a:Int)<=(tl:Int))=true:=by simp;omega)
       |(have e5:decide ((a:Int)<=(tl:Int))=false:=by simp;omega)
      first
       |(have e6:decide (a<=tl)=true:=by simp;omega)
       |(have e6:decide (a<=tl)=false:=by simp;omega)
      first
       |(have e7:decide ((th:Int)<=(b:Int))=false:=by simp;omega)
       |(have e7:True:=trivial)
      first
       |(have e8:decide (th<=b)=false:=by simp;omega)
       |(have e8:True:=trivial)
      clear h2 h3
      go_upto_region 16 with fail
      rw[<-ewN];clear ewN c0 c1 c2 c3 c4 c5 c6 hx
      go_wp2_with (at_builtin;refine oZ oU (enc:=fun x:Int=>[ag x]) (fun _=>rfl) (fun x u hu=>by simp at hu;subst hu;rfl) w.heap.size (anj.out.alloc _) auA.out rfl _ _ rfl rfl 2 rfl (by unfold maxLen;simp;omega) (by simp;omega) (by simp;omega) ?_;intro v' w3 hown' hg hblk)
      go_roundg (sJ ((l,s)::(r,s+l.size)::st))
      case measure=>have h9:=Sb.out;have h8:=HSZ.out;simp only[sJ];omega
      case rel=>
       have b1:Below w.heap.size w (wN.alloc (.cells #[ag kr,ag kl] 3)):=(nJ.trans (Sc.out.mono hws)).alloc (by omega) _;have K:aC (fun q=>q=go) wr w3:=(((aC.refl _ wr).below Sc.out).alloc _).grown hg (fun q hq=>.inl (by injection hq with hq;exact hq.symm));refine⟨(l,s)::(r,s+l.size)::st,acc,en+1,by go_num,aG _,?_,eH b1 (anj.out.alloc _) hg b1.size (aG _),?_,F7,?_,?_,?_⟩
       .have h9:=Hu.out;have h8:=HSZ.out;simp only[sJ];omega
       .intro p hp;rcases mZ.1 hp with rfl|hp
        .exact HAl.out
        .rcases mZ.1 hp with rfl|hp
         .exact HAr.out
         .exact HHA.out p hp
       .exact aY Oe.out K (fun gb e e2=>vQ.out gb e e2)
       .show World.ownsRow _ _ _ _ _ _ _;rw[HST.out,fU,fU,<-HM.out];exact hown'
       .intro gb e e2;have Uk:=(Oe.out.lt gb e).2;rcases hblk with h9|h9
        .rw[h9]at e2;exact vQ.out gb e (by injection e2 with e2;exact e2.symm)
        .rw[h9]at e2;injection e2 with e2;simp at e2;omega
end Go.Proofs.YtkjdbndekceffaaGreat
namespace Go.Proofs.YtkjdbndekceffaaGreat
open Go Go.RowKit
def lkd (YS:List Nat) (d:Nd):List Nat:=YS.filter fun i=>decide (d.fr<=(i:Int)/\(i:Int)<d.Ri)
def lk (N:List Nd) (YS:List Nat) (k:Nat):List Nat:=match N[k]? with|some d=>lkd YS d|none=>[]
section
variable {N:List Nd} {YS:List Nat} {yv:Nat->Int} {y1 y2:Int}
theorem adI (t:FT) (s:Nat):lkd YS (t.top s)=nl YS t:=by
 unfold lkd nl;refine pJ fun i _=>?_;rw[FT.Je,FT.xB,wW];omega
theorem Fy {t:FT} {s:Nat} (h:FT.At N t s):lk N YS (t.root s)=nl YS t:=by
 unfold lk;rw[h.get];exact adI t s
theorem Qn (k:Nat):(lk N YS k).Sublist YS:=by
 unfold lk;split
 .exact List.filter_sublist
 .exact List.nil_sublist _
theorem Bw {a b:Nat} (i:Nat):∀(t:FT) (s:Nat),FT.At N t s->t.wf->(i∈(t.canon s a b).1.flatMap (fun k=>Jf yv y1 y2 (lk N YS k))↔i∈nl YS t/\a<=i/\i<b/\y1<=yv i/\yv i<=y2):=by
 have iC:∀t:FT,i∈nl YS t->t.lo<=i/\i<t.hi:=fun t hi=>by simpa using(bQ.1 hi).2
 have one:∀(t:FT) (s:Nat),FT.At N t s->a<=t.lo->t.hi<=b->(i∈[t.root s].flatMap (fun k=>Jf yv y1 y2 (lk N YS k))↔i∈nl YS t/\a<=i/\i<b/\y1<=yv i/\yv i<=y2):=fun t s h h1 h2=>by
  rw[oP,List.flatMap_nil,jD,Fy h];unfold Jf;rw[bQ,bZ];constructor
  .rintro⟨h3,h4⟩;have:=iC t h3;exact⟨h3,by omega,by omega,h4⟩
  .rintro⟨h3,_,_,h4⟩;exact⟨h3,h4⟩
 intro t
 induction t with
 |leaf x=>
  intro s h hw;by_cases h0:(FT.leaf x).hi<=a\/b<=(FT.leaf x).lo
  .rw[FT.iR h0];refine⟨fun h=>absurd h (by simp),fun⟨h1,h2,h3,_⟩=>?_⟩;have:=iC _ h1;rcases h0 with h0|h0<;>omega
  .rw[FT.canon,aP h0];refine one _ s h ?_ ?_
   .simp only[FT.hi,FT.lo]at h0 |-;omega
   .simp only[FT.hi,FT.lo]at h0 |-;omega
 |node l r il ir=>
  intro s h hw;by_cases h0:(FT.node l r).hi<=a\/b<=(FT.node l r).lo
  .rw[FT.iR h0];refine⟨fun h=>absurd h (by simp),fun⟨h1,h2,h3,_⟩=>?_⟩;have:=iC _ h1;rcases h0 with h0|h0<;>omega
  .by_cases h1:a<=(FT.node l r).lo/\(FT.node l r).hi<=b
   .rw[FT.ug h0 h1];exact one _ s h h1.1 h1.2
   .rw[FT.nV h0 h1];show i∈((_:List Nat)++_).flatMap _↔_;rw[lW,df,il s h.left hw.1,ir _ h.right hw.2.1,uW YS l r hw,qm YS l r hw,bQ,bQ,bZ,qf,iE];constructor
    .rintro(⟨⟨h2,_⟩,h3⟩|⟨⟨h2,_⟩,h3⟩)<;>exact⟨h2,h3⟩
    .rintro⟨h2,h3⟩;by_cases h4:i<l.hi
     .exact .inl ⟨⟨h2,h4⟩,h3⟩
     .exact .inr ⟨⟨h2,h4⟩,h3⟩
theorem M0 {a b:Nat} (hn:YS.Nodup):∀(t:FT) (s:Nat),FT.At N t s->t.wf->((t.canon s a b).1.flatMap (fun k=>Jf yv y1 y2 (lk N YS k))).Nodup:=by
 have one:∀(t:FT) (s:Nat),FT.At N t s->([t.root s].flatMap (fun k=>Jf yv y1 y2 (lk N YS k))).Nodup:=fun t s h=>by
  rw[oP,List.flatMap_nil,jD];exact mQ _ (hn.sublist (Qn _))
 intro t
 induction t with
 |leaf x=>
  intro s h hw;rw[FT.canon];split
  .simp
  .exact one _ s h
 |node l r il ir=>
  intro s h hw;rw[FT.canon];split
  .simp
  .split
   .exact one _ s h
   .show(((_:List Nat)++_).flatMap _).Nodup;rw[lW];refine tC.2 ⟨il s h.left hw.1,ir _ h.right hw.2.1,fun i hi k hk e=>?_⟩;subst e;have h1:=((Bw i l s h.left hw.1).1 hi).1;have h2:=((Bw i r _ h.right hw.2.1).1 hk).1;have h3:l.lo<=i/\i<l.hi:=by simpa using(bQ.1 h1).2
    have h4:r.lo<=i/\i<r.hi:=by simpa using(bQ.1 h2).2
    have:=hw.2.2;omega
end
theorem FT.Y8 {N:List Nd} {a b:Nat}:∀(t:FT) (s:Nat),FT.At N t s->∀k∈(t.canon s a b).1,k<N.length:=by
 intro t
 induction t with
 |leaf x=>
  intro s h k hk;rw[FT.canon]at hk;split at hk
  .cases hk
  .obtain rfl:=mR.1 hk;exact h.lt
 |node l r il ir=>
  intro s h k hk;rw[FT.canon]at hk;split at hk
  .cases hk
  .split at hk
   .obtain rfl:=mR.1 hk;exact h.lt
   .rcases df.1 hk with hk|hk
    .exact il s h.left k hk
    .exact ir _ h.right k hk
end Go.Proofs.YtkjdbndekceffaaGreat
set_option autoImplicit false
namespace Go.Proofs.YtkjdbndekceffaaGreat
open Go
abbrev Qf:=Nat->Nat
def swp (f:Qf) (i j:Nat):Qf:=fun k=>if k=i then f j else if k=j then f i else f k
def par (j:Nat):Nat:=(j-1)/2
structure LO (lb:Nat->Nat->Bool):Prop where
 asy:∀a b,lb a b=true->lb b a=false
 tr:∀a b c,lb b a=false->lb c b=false->lb c a=false
def HO (lb:Nat->Nat->Bool) (f:Qf) (n:Nat):Prop:=∀j,0<j->j<n->lb (f j) (f (par j))=false
section
variable {lb:Nat->Nat->Bool} (O:LO lb)
include O
end
end Go.Proofs.YtkjdbndekceffaaGreat
namespace Go.Proofs.YtkjdbndekceffaaGreat
open Go Go.RowKit
def lowO (R:List Pt):Option Nat->Option Nat->Option Nat
 |none,b=>b
 |some i,none=>some i
 |some i,some k=>if Gy R k i then some k else some i
def mq (R:List Pt) (S:Nat->Prop):Option Nat->Prop
 |none=>∀j,¬S j
 |some i=>S i/\∀j,S j->j=i\/Cz R i j
section
variable {R:List Pt} {S T:Nat->Prop} {a b:Option Nat}
theorem adJ (i:Nat):¬Cz R i i:=yF _
theorem Bz {i j k:Nat} (h:Cz R i j) (h2:Cz R j k):Cz R i k:=uX h h2
theorem mq.uniq (ha:mq R S a) (hb:mq R S b):a=b:=by
 cases a with
 |none=>
  cases b with
  |none=>rfl
  |some k=>exact absurd hb.1 (ha k)
 |some i=>
  cases b with
  |none=>exact absurd ha.1 (hb i)
  |some k=>
   rcases ha.2 k hb.1 with h|h
   .rw[h]
   .rcases hb.2 i ha.1 with h2|h2
    .rw[h2]
    .exact absurd (Bz h h2) (adJ _)
theorem mq.congr (h:∀j,S j↔T j) (ha:mq R S a):mq R T a:=by
 cases a with
 |none=>exact fun j hj=>ha j ((h j).2 hj)
 |some i=>exact⟨(h i).1 ha.1,fun j hj=>ha.2 j ((h j).2 hj)⟩
theorem M3 {n:Nat} (O:Ord (Cz R) (Gy R) n) (hS:∀j,S j->j<n) (hT:∀j,T j->j<n) (ha:mq R S a) (hb:mq R T b):mq R (fun j=>S j\/T j) (lowO R a b):=by
 cases a with
 |none=>
  refine hb.congr fun j=>⟨.inr,fun h=>h.resolve_left (ha j)⟩
 |some i=>
  cases b with
  |none=>exact ha.congr (T:=fun j=>S j\/T j) fun j=>⟨.inl,fun h=>h.resolve_right (hb j)⟩
  |some k=>
   show mq R _ (if Gy R k i then some k else some i);by_cases h:Gy R k i=true
   .rw[aR h];have KD:=(O.dec k i).1 h;refine⟨.inr hb.1,fun j hj=>?_⟩;rcases hj with hj|hj
    .rcases ha.2 j hj with h9|h9
     .rw[h9];exact .inr KD
     .exact .inr (Bz KD h9)
    .exact hb.2 j hj
   .rw[aP h];have hik:k=i\/Cz R i k:=by
     by_cases e:k=i
     .exact .inl e
     .rcases O.jX k i (hT k hb.1) (hS i ha.1) e with h9|h9
      .exact absurd ((O.dec k i).2 h9) h
      .exact .inr h9
    refine⟨.inl ha.1,fun j hj=>?_⟩;rcases hj with hj|hj
    .exact ha.2 j hj
    .rcases hb.2 j hj with h9|h9
     .rw[h9];exact hik
     .rcases hik with h8|h8
      .rw[<-h8];exact .inr h9
      .exact .inr (Bz h8 h9)
theorem M4 {L:List Nat} (h:L.Pairwise (Cz R)):mq R (fun j=>j∈L) L.head?:=by
 cases L with
 |nil=>exact fun j hj=>absurd hj jC
 |cons i L=>
  refine⟨sQ,fun j hj=>?_⟩;rcases mZ.1 hj with h9|h9
  .exact .inl h9
  .exact .inr ((wR.1 h).1 j h9)
end
def lT (N:List Nd) (YS:List Nat) (k:Nat):Option Nat:=(lk N YS k).head?
def rng (YS:List Nat) (a b:Nat):List Nat:=YS.filter fun i=>decide (a<=i/\i<b)
section
variable {R:List Pt} {gone:List Bool} {YS:List Nat} {N:List Nd}
theorem dm.srt (hW:dm R gone YS) (k:Nat):(lk N YS k).Pairwise (Cz R):=List.Pairwise.sublist (Qn k) hW.ysY
theorem vK (hW:dm R gone YS) (k:Nat):mq R (fun j=>j∈lk N YS k) (lT N YS k):=M4 (hW.srt k)
theorem Hz (hW:dm R gone YS) {k j:Nat} (h:j∈lk N YS k):j<R.length:=hW.lt ((Qn k).subset h)
theorem Fz (hW:dm R gone YS) {k i:Nat} (h:lT N YS k=some i):i<R.length:=by
 have:=vK (N:=N) hW k;rw[h]at this;exact Hz hW this.1
theorem adK (YS:List Nat) {l r:FT} (hw:(FT.node l r).wf):(nl YS l++nl YS r).Perm (nl YS (.node l r)):=by
 rw[uW YS l r hw,qm YS l r hw];exact List.filter_append_perm _ _
theorem M5 (hW:dm R gone YS) {l r:FT} {s:Nat} (ha:FT.At N (.node l r) s) (hw:(FT.node l r).wf):
  lT N YS ((FT.node l r).root s)=lowO R (lT N YS (l.root s)) (lT N YS (r.root (s+l.size))):=by
 have h1:=M3 (Qk hW.ids) (fun j h=>Hz hW h) (fun j h=>Hz hW h) (vK (N:=N) hW (l.root s)) (vK (N:=N) hW (r.root (s+l.size)));refine mq.uniq (vK hW _) (h1.congr fun j=>?_);rw[Fy ha,Fy ha.left,Fy ha.right,<-(adK YS hw).mem_iff,df]
theorem FC (hW:dm R gone YS) {a s:Nat} (ha:FT.At N (.leaf a) s):lT N YS s=if a∈YS then some a else none:=by
 have hm:∀j,j∈lk N YS s↔j=a/\a∈YS:=fun j=>by
  have:lk N YS s=nl YS (.leaf a):=Fy ha;rw[this];unfold nl;rw[bQ,bZ];simp only[FT.lo,FT.hi];constructor
  .rintro⟨h1,h2⟩;obtain rfl:j=a:=by omega
   exact⟨rfl,h1⟩
  .rintro⟨rfl,h⟩;exact⟨h,by omega⟩
 refine mq.uniq (vK hW s) ?_;split
 .rename_i h;exact⟨(hm a).2 ⟨rfl,h⟩,fun j hj=>.inl ((hm j).1 hj).1⟩
 .rename_i h;exact fun j hj=>h ((hm j).1 hj).2
theorem Sd (L:List Nat):Jf (fun _=>0) 0 0 L=L:=by unfold Jf;exact qc.2 fun i _=>by simp
theorem Qo {a b:Nat} (i:Nat) (t:FT) (s:Nat) (ha:FT.At N t s) (hw:t.wf):i∈(t.canon s a b).1.flatMap (lk N YS)↔i∈nl YS t/\a<=i/\i<b:=by
 have h:=Bw (yv:=fun _=>0) (y1:=0) (y2:=0) (YS:=YS) (N:=N) (a:=a) (b:=b) i t s ha hw;simp only[Sd]at h;rw[h];simp
theorem UU (hW:dm R gone YS) (h0:0<R.length) (a b:Nat):(((dO 0 R.length).canon 0 a b).1.flatMap (lk (aZ R.length) YS)).Perm (rng YS a b):=by
 obtain⟨w1,w2,w3⟩:=bT 0 R.length h0;have ha:=kH R.length h0;have h1:=M0 (yv:=fun _=>0) (y1:=0) (y2:=0) (N:=aZ R.length) (a:=a) (b:=b) hW.nodup (dO 0 R.length) 0 ha w1;simp only[Sd]at h1;refine(BL h1 (hW.nodup.sublist List.filter_sublist)).2 fun i=>?_;rw[Qo i _ 0 ha w1,hW.top h0,bQ,bZ]
def uN (R:List Pt) (N:List Nd) (YS:List Nat) (ks:List Nat):Option Nat:=ks.foldl (fun o k=>lowO R o (lT N YS k)) none
theorem UW (ks:List Nat) (k:Nat):uN R N YS (ks++[k])=lowO R (uN R N YS ks) (lT N YS k):=by unfold uN;rw[List.foldl_append];rfl
theorem M6 (hW:dm R gone YS) (ks:List Nat):∀(o:Option Nat) (S:Nat->Prop),(∀j,S j->j<R.length)->mq R S o->mq R (fun j=>S j\/j∈ks.flatMap (lk N YS)) (ks.foldl (fun o k=>lowO R o (lT N YS k)) o):=by
 induction ks with
 |nil=>intro o S hS h;exact h.congr fun j=>by simp
 |cons k ks ih=>
  intro o S hS h;have h1:=M3 (Qk hW.ids) hS (fun j h=>Hz hW h) h (vK (N:=N) hW k);have h2:=ih _ _ (fun j hj=>hj.elim (hS j) (Hz hW)) h1;rw[List.foldl_cons];refine h2.congr fun j=>?_;rw[oP,df,or_assoc]
theorem Sg (hW:dm R gone YS) (a b:Nat):(rng YS a b).Pairwise (Cz R):=mQ _ hW.ysY
theorem Qp (hW:dm R gone YS) (h0:0<R.length) (a b:Nat):uN R (aZ R.length) YS ((dO 0 R.length).canon 0 a b).1=(rng YS a b).head?:=by
 have h1:=M6 (N:=aZ R.length) hW ((dO 0 R.length).canon 0 a b).1 none (fun _=>False) (fun _ h=>h.elim) (fun _ h=>h);refine mq.uniq (h1.congr fun j=>?_) (M4 (Sg hW a b));rw[(UU hW h0 a b).mem_iff];simp
end
def CG (x1 x2:Int) (p:Pt):Bool:=decide (x1<=p.1/\p.1<=x2)
def UX (l:List Pt) (x1 x2:Int):List Pt:=kY (l.filter (CG x1 x2))
theorem adL (l:List Pt) (x1 x2:Int):(UX l x1 x2).length<=l.length:=by
 unfold UX;rw[(jo _).length_eq];exact gG _ _
section
variable {R:List Pt} {gone:List Bool} {YS:List Nat} {l:List Pt}
theorem adM (hW:dm R gone YS) (hl:uB R YS l) (x1 x2:Int):(rng YS (jP R x1) (nk R x2)).map (bY R)=UX l x1 x2:=by
 have iC:∀i,i∈YS->(jP R x1<=i/\i<nk R x2↔CG x1 x2 (bY R i)=true):=fun i hi=>by
  have kE:=hW.lt hi;have nD:i<(bX R).length:=by unfold bX;simpa using kE
  have hxi:(bX R)[i]=(bY R i).1:=by rw[dI kE];simp[bX]
  have h1:=uC hW.xsS x1 nD;have h2:=uD hW.xsS x2 nD;rw[hxi]at h1 h2;unfold jP nk CG;rw[bZ,h1,h2]
 have hu:(ids (l.filter (CG x1 x2))).Nodup:=hl.jG.sublist (List.filter_sublist.map _);refine RA hu (dG.2 (Sg hW _ _)) fun p=>?_;rw[dY,bQ,hl.mem];constructor
 .rintro⟨i,hi,rfl⟩;unfold rng at hi;rw[bQ,bZ]at hi;exact⟨⟨i,hi.1,rfl⟩,(iC i hi.1).1 hi.2⟩
 .rintro⟨⟨i,hi,rfl⟩,h2⟩;refine⟨i,?_,rfl⟩;unfold rng;rw[bQ,bZ];exact⟨hi,(iC i hi).2 h2⟩
theorem Y9 (l:List Pt) {x1 x2:Int} (h:x2<x1):UX l x1 x2=[]:=by
 unfold UX;rw[zR.2 (fun p _=>by unfold CG;simp only[bZ];omega)];exact jw (jo []).length_eq
end
end Go.Proofs.YtkjdbndekceffaaGreat
namespace Go.Proofs.YtkjdbndekceffaaGreat
open Go.RowKit Go.Sort Go.Shelf Go.Lib Go.Maps
attribute [local irreducible] wpQuiet
attribute [local go_sem] Oper.fM
def pV:Option Nat->Int
 |none=>-1
 |some i=>i
theorem Za (i:Nat):pV (some i)=(i:Int):=rfl
theorem adN {o:Option Nat} {i:Nat}:pV o=(i:Int)↔o=some i:=by
 cases o with
 |none=>simp only[pV];constructor<;>intro h<;>first|omega|cases h
 |some j=>simp only[pV,jB];omega
def Og (h:iU) (n:Nat):List Value:=(List.range n).map fun k=>.int .i64 (pV (h k))
theorem Si (h:iU) {n k:Nat} (hk:k<n):(Og h n)[k]? =some (.int .i64 (pV (h k))):=by simp[Og,hk]
theorem Sj (h:iU) {n k:Nat} (hk:k<n) (v:Option Nat):(Og h n).set k (.int .i64 (pV v))=Og (gN h k v) n:=by
 apply tO (by simp[Og]);intro i h1 h2;simp only[Og,List.getElem_set,fZ,zW];by_cases e:k=i
 .subst e;rw[aR rfl,gB]
 .rw[aP e,iM (jb e)]
theorem UY {h h':iU} {n:Nat} (e:∀k,k<n->h' k=h k):Og h' n=Og h n:=by
 unfold Og;exact IK fun k hk=>by rw[e k (wZ.1 hk)]
theorem ik.sub {lt:Nat->Nat->Prop} {h:iU}:∀{t:FT} {s:Nat},ik lt h t s->∀p∈t.subs s,ik lt h p.1 p.2
 |.leaf a,s,ok,p,hp=>by
  have:p=(.leaf a,s):=by simpa[FT.subs]using hp
  subst this;exact ok
 |.node l r,s,ok,p,hp=>by
  simp only[FT.subs,df,mR]at hp;rcases hp with(hp|hp)|hp
  .exact ik.sub ok.2.2.1 p hp
  .exact ik.sub ok.2.2.2 p hp
  .subst hp;exact ok
theorem nG.at_ {R:List Pt} {h:iU} (H:nG R h) {t:FT} {s:Nat} (ha:FT.At (aZ R.length) t s):ik (Cz R) h t s/\t.wf/\t.hi<=R.length:=by
 have h0:=lS ha;obtain⟨w1,w2,w3⟩:=bT 0 R.length h0;have hm:=FT.at_mem (fQ h0▸ha);exact⟨(H.ok h0).sub _ hm,FT.rC _ 0 w1 _ hm,bO (FT.Dh _ 0 w1 (t,s) hm) (by omega)⟩
theorem nG.pl {R:List Pt} {h:iU} (H:nG R h) {k i:Nat} (hk:k<(aZ R.length).length) (e:h k=some i):i<R.length:=by
 obtain⟨t,s,ha,ML⟩:=vz hk;obtain⟨h1,h2,h3⟩:=H.at_ ha;rw[<-ML]at e;obtain⟨L,eL⟩:=qH e;have:=h1.span h2 i (by rw[eL];simp);omega
structure oF where
 rv:Value
 xv:Value
 nv:Value
 hv:Value
 fv:Value
abbrev UZ (rv xv:Value) (fb:Nat) (nv hv:Value) (n:Int):Obj:=.cells #[rv,xv,ay fb,nv,hv,ag n] 155 (0,0)
structure dC (w:World) (lo hi tb fb:Nat) (R:List Pt) (h:iU) (cnt:Int) (V:oF):Prop where
 blk:w.heap[tb]? =some (UZ V.rv V.xv fb V.nv V.hv cnt)
 fo:lo<=tb/\tb<hi/\lo<=fb/\fb<hi/\hi<=w.heap.size
 row:w.ownsRow lo 29 3 V.rv R.length (R.flatMap fH)
 xs:w.ownsRow lo 2 1 V.xv R.length ((bX R).map (Value.int .i64))
 iT:o8 w lo fb R.length V.fv
 jG:w.ownsRow lo 163 7 V.nv (aZ R.length).length ((aZ R.length).flatMap qo)
 pU:w.ownsRow lo 3 1 V.hv (aZ R.length).length (Og h (aZ R.length).length)
 top:∀v,v=V.rv\/v=V.xv\/v=V.nv\/v=V.hv\/v=V.fv->∀g,v.ownBlock=some g->g<hi
section
variable {w w':World} {lo hi tb fb:Nat} {R:List Pt} {h:iU} {cnt:Int} {V:oF}
theorem dC.kept {S:Nat->Prop} (H:dC w lo hi tb fb R h cnt V) (K:aC S w w') (hS:∀k,lo<=k->k<hi->¬S k):dC w' lo hi tb fb R h cnt V:=by
 have ht:=H.top;have hr:∀{e:TypeId} {sz:Nat} {v:Value} {n:Nat} {xs:List Value},w.ownsRow lo e sz v n xs->(∀g,v.ownBlock=some g->g<hi)->w'.ownsRow lo e sz v n xs:=fun hr hv=>aY hr K fun g e=>hS g (hr.lt g e).1 (hv g e);exact⟨bL K H.blk (hS tb H.fo.1 H.fo.2.1),⟨H.fo.1,H.fo.2.1,H.fo.2.2.1,H.fo.2.2.2.1,bO H.fo.2.2.2.2 K.size⟩,
  hr H.row (ht _ (by simp)),hr H.xs (ht _ (by simp)),
  ⟨bL K H.iT.blk (hS fb H.fo.2.2.1 H.fo.2.2.2.1),hr H.iT.row (ht _ (by simp))⟩,hr H.jG (ht _ (by simp)),hr H.pU (ht _ (by simp)),H.top⟩
theorem dC.below {B:Nat} (H:dC w lo hi tb fb R h cnt V) (hb:Below B w w') (hB:hi<=B):dC w' lo hi tb fb R h cnt V:=
 H.kept (S:=fun k=>hi<=k) ⟨hb.os,hb.tape,hb.output,hb.size,fun k hk hn=>hb.block k (by omega)⟩ fun k h1 h2 h3=>by omega
theorem dC.KZ (H:dC w lo hi tb fb R h cnt V):tb<w.heap.size:=bJ H.fo.2.1 H.fo.2.2.2.2
theorem dC.nodes (H:dC w lo hi tb fb R h cnt V) (h0:0<R.length):∃g off c,V.nv=.slice (some (ah g off)) (aZ R.length).length c/\dU qo 7 w (some (ah g off)) (aZ R.length):=by
 have hl:=dA R.length;obtain⟨g,c,e,_⟩:=bf H.jG (by omega);obtain⟨a,c',e',-,-,hr⟩:=dU.aL jO (by decide) H.jG;rw[e]at e';injection e' with e1 e2 e3;rw[<-e1]at hr;exact⟨g,0,c,e,hr⟩
theorem dC.holds (H:dC w lo hi tb fb R h cnt V) (h0:0<R.length):∃g c,V.hv=aD g (aZ R.length).length c/\lo<=g/\g<hi/\g≠tb/\g≠fb/\g<w.heap.size/\(∀k,k<(aZ R.length).length->w.cell? (ah g k)=some (ag (pV (h k)))/\w.frozen? (ah g k)=false)/\
  (∀g',V.rv.ownBlock=some g'->g'≠g)/\(∀g',V.xv.ownBlock=some g'->g'≠g)/\(∀g',V.nv.ownBlock=some g'->g'≠g)/\∀g',V.fv.ownBlock=some g'->g'≠g:=by
 have hl:=dA R.length;obtain⟨g,c,e,hlo,hg,hc1,hc2⟩:=bf H.pU (by omega);have hh:=H.pU;rw[e]at hh;have V6:(aD g (aZ R.length).length c).ownBlock=some g:=rfl;have ne:∀{e':TypeId} {sz n:Nat} {v:Value} {xs:List Value},w.ownsRow lo e' sz v n xs->e'≠3->∀g',v.ownBlock=some g'->g'≠g:=fun hr hne g' h1 h2=>bK hr hh hne g' h1 (h2▸V6);refine⟨g,c,e,(hh.lt g rfl).1,H.top V.hv (by simp) g (by rw[e];rfl),fun h9=>bH hh H.blk (by decide) g rfl h9.symm,fun h9=>bH hh H.iT.blk (by decide) g rfl h9.symm,(hh.lt g rfl).2,fun k hk=>⟨?_,hh.frozenAt k⟩,ne H.row (by decide),ne H.xs (by decide),ne H.jG (by decide),ne H.iT.row (by decide)⟩;have h1:=hh.cellAt k (by omega);rw[Si h hk]at h1;exact h1
theorem dC.pF (H:dC w lo hi tb fb R h cnt V) {g n c:Nat} (hv:V.hv=aD g n c) {k:Nat} (hk:k<(aZ R.length).length) (v:Option Nat):
  dC (w.setCell (ah g k) (.int .i64 (pV v))) lo hi tb fb R (gN h k v) cnt V:=by
 have K:aC (fun k=>k=g) w (w.setCell (ah g k) (.int .i64 (pV v))):=(aC.refl (fun k=>k=g) w).set (a:=(ah g k)) _ (.inl rfl);have hr:=H.pU;rw[hv]at hr;have hn:n=(aZ R.length).length:=by
  rcases hr.2 with⟨e9,-⟩|⟨g',cap,cur,e9,-⟩
  .cases e9
  .injection e9 with _ e9 _
 subst hn;obtain⟨cs,fr,hg⟩:=rP hr;have hs:=(hr.stored k (.int .i64 (pV v))).1;rw[Sj h hk v]at hs;refine⟨JR H.blk K hg (by decide),by simpa using H.fo,fu H.row K hg (by decide),fu H.xs K hg (by decide),Bl H.iT K hg (by decide) (by decide),fu H.jG K hg (by decide),?_,H.top⟩;rw[hv];exact hs
theorem dC.Fg (H:dC w lo hi tb fb R h cnt V) (m:Int):dC (w.setCell (ah tb 5) (.int .i64 m)) lo hi tb fb R h m V:=by
 have K:aC (fun k=>k=tb) w (w.setCell (ah tb 5) (.int .i64 m)):=(aC.refl (fun k=>k=tb) w).set (a:=(ah tb 5)) _ (.inl rfl);have hg:=H.blk;exact⟨dH w tb 5 _ _ _ H.blk,by simpa using H.fo,fu H.row K hg (by decide),fu H.xs K hg (by decide),Bl H.iT K hg (by decide) (by decide),fu H.jG K hg (by decide),fu H.pU K hg (by decide),H.top⟩
end
abbrev BB (fr ub:Nat) (y:Int) (F:Nat) (cb:Array Value) (c:Nat):Obj:=.cells #[ag fr,ag ub,ag y,.func (.func F) #[] cb,ag c] 250 (0,0)
structure adO (F:Nat) (cb:Array Value) (more:Bool) (R:List Pt) (w0:World) (FL:List Nat) (S:World->List Nat->(Nat->Prop)->Prop):Prop where
 enters:∀args w,(callFunc F args).run Tryz.prog w=.ok (.enter F args) w
 base:∀W acc D,S W acc D->Below w0.heap.size w0 W
 lt:∀W acc D,S W acc D->∀k,D k->w0.heap.size<=k/\k<W.heap.size
 kD:∀W W' acc D E,S W acc D->aC E W W'->(∀k,E k->w0.heap.size<=k/\¬D k)->S W' acc D
 told:∀W acc D i,S W acc D->i<R.length->acc++[i] <+: FL->
  aO F (#[ku (bY R i).1 (bY R i).2.1 (bY R i).2.2]++cb) W fun e w'=>e=.returned (.bool more)/\∃D',S w' (acc++[i]) D'/\(∀k,D' k->D k\/W.heap.size<=k)/\aC D W w'
def U0 (S:World->List Nat->(Nat->Prop)->Prop) (W:World) (D:Nat->Prop) (ab fr ub:Nat) (y:Int) (F:Nat) (cb:Array Value) (c:Nat) (acc:List Nat) (r:List Nat×Nat×Bool) (e:Ending) (w':World):Prop:=
 e=.returned (.bool r.2.2)/\∃D',S w' (acc++r.1) D'/\(∀k,D' k->D k\/W.heap.size<=k)/\aC (fun k=>D k\/k=ab) W w'/\w'.heap[ab]? =some (BB fr ub y F cb (c+r.2.1))
theorem Qq {P:Program} {ops:Array Oper} {o:Oper} {a:Act} {K:Act->World->Prop} {Q:Exit->Act->World->Prop} {E0:Prop} {f:FuncId} {w:World} {vals:Array Value} {R:Ending->World->Prop} (hen:∀args w,(callFunc f args).run P w=.ok (.enter f args) w) (hw:Region.wanted o (yielded ops a.tmps)=true) (g:Operand) (args:Array Operand) (tys:Array TypeId) (ho:o.op=.call {callee:=.value g,args:=args,argTypes:=tys})
  (cb:Array Value) (hg:a.eval g=.func (.func f) #[] cb) (xz:vals=(args.toList.map a.eval).toArray++cb)
  (C:Calls P f vals w R) (h:∀e w',R e w'->∃v,e=.returned v/\K (a.put o.dst v) w'):
  if Region.wanted o (yielded ops a.tmps)=true then Oper.wp P o a w K Q else E0:=by
 rw[aR hw];unfold Oper.wp;have BO:args.map a.eval++cb=vals:=by rw[xz,<-IY]
 have he:(execOp a.eval o).run P w=.ok (.enter f vals) w:=by
  simp[execOp,ho,resolve,invoke,hg,BO,Deferred.ofValue,hen]
 rw[he,Oper.upon_enter];refine C.mono fun e w' hr=>?_;obtain⟨v,rfl,hk⟩:=h e w' hr;exact hk
theorem FD (F:Nat) (cb:Array Value) (more:Bool) (R:List Pt) (h:iU) (cnt:Int) (V:oF) (lo hi tb fb ab:Nat) (w0:World) (S:World->List Nat->(Nat->Prop)->Prop) (y:Int) (fr ub:Nat) (FL:List Nat)
  (hT:adO F cb more R w0 FL S) (hA:dC w0 lo hi tb fb R h cnt V) (hR:R.length<=20000) (hab:w0.heap.size<=ab)
  (t:FT) (s:Nat) (W:World) (acc:List Nat) (D:Nat->Prop) (c:Nat) (ha:FT.At (aZ R.length) t s) (hw:t.wf) (hhi:t.hi<=R.length) (ok:ik (Cz R) h t s) (hS:S W acc D) (hD:¬D ab) (hblk:W.heap[ab]? =some (BB fr ub y F cb c)) (hc:c+t.size<=1000000)
  (hFL:acc++(downG more h (mD R) y fr ub t s).1 <+: FL)
  (Jm:∀l r,t=.node l r->(∀W acc D c,S W acc D->¬D ab->W.heap[ab]? =some (BB fr ub y F cb c)->c+l.size<=1000000->acc++(downG more h (mD R) y fr ub l s).1 <+: FL->
    aO 174 #[ay tb,ag (l.root s:Nat),ay ab] W (U0 S W D ab fr ub y F cb c acc (downG more h (mD R) y fr ub l s)))/\
    ∀W acc D c,S W acc D->¬D ab->W.heap[ab]? =some (BB fr ub y F cb c)->c+r.size<=1000000->acc++(downG more h (mD R) y fr ub r (s+l.size)).1 <+: FL->
    aO 174 #[ay tb,ag (r.root (s+l.size):Nat),ay ab] W (U0 S W D ab fr ub y F cb c acc (downG more h (mD R) y fr ub r (s+l.size)))):
  aO 174 #[ay tb,ag (t.root s:Nat),ay ab] W (U0 S W D ab fr ub y F cb c acc (downG more h (mD R) y fr ub t s)):=by
 have h0:0<R.length:=by have:=t.fe hw;omega
 have auC:=t.size_pos;have qJ:=hT.base W acc D hS;have hDlt:=hT.lt W acc D hS;have anl:=ae hDlt;clear hDlt;have auD:ab<W.heap.size:=(bn.1 hblk).1;have k4:W.cell? (ah ab 4)=some (ag c):=by simp[World.cell?,hblk]
 have z4:W.frozen? (ah ab 4)=false:=by simp[World.frozen?,hblk]
 have hc1:c+1<=1000000:=by omega
 obtain⟨w1,fJ⟩:∃w1,w1=W.setCell (ah ab 4) (.int .i64 ((c+1:Nat):Int)):=⟨_,rfl⟩;have K1:aC (fun k=>k=ab) W w1:=by rw[fJ];exact(aC.refl (fun k=>k=ab) W).set (a:=(ah ab 4)) _ (.inl rfl)
 have BN:w1.heap[ab]? =some (BB fr ub y F cb (c+1)):=by rw[fJ];exact dH W ab 4 _ _ _ hblk
 have hS1:S w1 acc D:=hT.kD W w1 acc D _ hS K1 (fun k hk=>by subst hk;exact⟨hab,hD⟩);have hb1:=hT.base w1 acc D hS1;have hA1:=hA.below hb1 hA.fo.2.2.2.2;obtain⟨gn,off,cn,env,M7⟩:=hA1.nodes h0;obtain⟨gh,ch,rV,-,-,-,-,FE,hcs,-⟩:=hA1.holds h0;obtain⟨ra,rc,Qr,-,-,BC⟩:=dU.aL cZ (by decide) hA1.row;have hb':=hA1.blk;rw[env,rV,Qr]at hb';have nX:=ha.get;have hlt:=ha.lt;obtain⟨Rm,n0,n1,n2,n3,n4,n5,n6⟩:=nW M7 nX;rw[FT.Je]at n3;rw[FT.xB]at n4;have e0:=(hcs _ hlt).1;have jk:tb<w1.heap.size:=hA1.KZ;have c0:w1.cell? (ah tb 0)=some (.slice ra R.length rc):=by simp[World.cell?,hb']
 have c3:w1.cell? (ah tb 3)=some (.slice (some (ah gn off)) (aZ R.length).length cn):=by simp[World.cell?,hb']
 have c4:w1.cell? (ah tb 4)=some (aD gh (aZ R.length).length ch):=by simp[World.cell?,hb']
 have s0:w1.cell? (ah ab 0)=some (ag fr):=by simp[World.cell?,BN]
 have s1:w1.cell? (ah ab 1)=some (ag ub):=by simp[World.cell?,BN]
 have s2:w1.cell? (ah ab 2)=some (ag y):=by simp[World.cell?,BN]
 have s3:w1.cell? (ah ab 3)=some (.func (.func F) #[] cb):=by simp[World.cell?,BN]
 have hlh:=t.fe hw;have hM:(aZ R.length).length<=40000:=by rw[dA];omega
 have hst:=t.size_pos;obtain⟨th,eth⟩:∃th,th=t.hi:=⟨_,rfl⟩;obtain⟨tl,etl⟩:∃tl,tl=t.lo:=⟨_,rfl⟩;rw[<-eth]at n4 hhi hlh;rw[<-etl]at n3 hlh;obtain⟨K,hK⟩:∃K,K=t.root s:=⟨_,rfl⟩;obtain⟨d,hd⟩:∃d,d=t.top s:=⟨_,rfl⟩;obtain⟨o,ho⟩:∃o,o=h (t.root s):=⟨_,rfl⟩;rw[<-hd]at n0 n1 n2 n6;rw[<-ho]at e0;rw[<-hK]at n0 n1 n2 n3 n4 n5 n6 hlt e0;obtain⟨r,hr⟩:∃r,r=downG more h (mD R) y fr ub t s:=⟨_,rfl⟩;have HE:Hid (th=t.hi/\tl=t.lo/\K=t.root s/\d=t.top s/\o=h (t.root s)/\r=downG more h (mD R) y fr ub t s):=⟨eth,etl,hK,hd,ho,hr⟩;rw[<-hr]at hFL |-;rw[<-hK];have HFL:=ae hFL;have Lx:=ae hT;have NT:=ae hS1;have HA:=ae hA;have HRW:=ae BC;have Jn:=ae Jm;have HOK:=ae ok;have nL:=ae K1;have fK:=ae BN;have N7:=ae hw;have HAA:=ae ha;have HC:=ae hc;have HDD:=ae hD;have OY:w1.heap.size=W.heap.size:=by rw[fJ];simp
 have HSZ:=ae OY;obtain⟨M,La⟩:∃M,M=(aZ R.length).length:=⟨_,rfl⟩;obtain⟨nR,hnR⟩:∃nR,nR=R.length:=⟨_,rfl⟩;rw[<-La]at c3 c4 hlt hM;rw[<-hnR]at c0 hR hhi h0;have KI:Hid (M=(aZ R.length).length/\nR=R.length):=⟨La,hnR⟩;have FH:ab<w1.heap.size:=by omega
 have Zb:∀i,o=some i->i<nR/\tl<=i/\i<th:=fun i ei=>by
  rw[ho]at ei;obtain⟨L,eL⟩:=qH ei;have:=ok.span hw i (by rw[eL];simp);omega
 have Bf:=ae Zb;clear Zb eth etl hK hd ho hr hFL hT hS1 hA BC Jm ok K1 BN hw ha hc hD OY La hnR hb' nX env rV Qr hcs M7 hS qJ hA1 hb1 hst auC hblk;go_enter Tryz.func174,Tryz.ntmps174
 go_upto_region 2 with fail
 rw[show W.setCell (ah ab 4) (.int .i64 ((c:Int)+1))=w1 by rw[fJ];rfl];clear fJ k4 z4;obtain⟨w2,kI⟩:∃w2,w2=(w1.alloc (.cells #[.int .u8 d.kind,ag d.l,ag d.r,ag tl,ag th,ag 0,ag d.item] 163)).drew:=⟨_,rfl⟩;have hb2:Below w1.heap.size w1 w2:=by rw[kI];exact((aM _ _).alloc (aG _) _).drew
 have hx2:w2.heap[w1.heap.size]? =some (.cells #[.int .u8 d.kind,ag d.l,ag d.r,ag tl,ag th,ag 0,ag d.item] 163 (0,0)):=by rw[kI];exact dE w1 _
 have fP:=ae hb2;have Gg:=ae hx2;have KO:Hid (S w2 acc D):=Lx.out.kD w1 w2 acc D (fun _=>False) NT.out ((aC.refl _ w1).below hb2) (fun k h=>h.elim);clear hb2 hx2;have g3:=aj c3;have g4:=aj c4;have p0:=aj n0;have p1:=aj n1;have p2:=aj n2;have p3:=aj n3;have p4:=aj n4;have p5:=aj n5;have p6:=aj n6;have pe:=aj e0;refine aF (fun W=>∃p:bg w1,W=p.W) [16] [(0,false),(1,false),(2,false),(3,true),(4,false),(5,false),(6,true),(7,false),(8,false),(9,false),(10,true),(11,false),(12,false),(13,true)] (by kernel_rfl) (by kernel_rfl) (fun _ _ d _ _ h=>by cases d<;>exact h) ⟨⟨_,(aM _ _).drew⟩,rfl⟩ 3 rfl (by kernel_rfl) ?_;simp only[bG,bz,bA,bu,aS,aT,aU]
 repeat(refine aI (fun K hK=>?_);go_simp;first|(refine hK _ ?_;clear hK K)|(apply Exists.intro;refine⟨fun _=>?_,hK _ ?_⟩;rfl;clear hK K))
 refine aQ ?_;refine az [14] (by kernel_rfl) (by simp) ?_;refine ak.cons rfl (fun K hK=>?_) ak.nil;go_simp;refine hK _ _ (fun _ _=>⟨⟨_,(aM _ w1).alloc (aG _) _|>.drew⟩,rfl⟩) ?_;clear hK K;refine az [15] (by kernel_rfl) (by simp) ?_;refine ak.cons rfl (fun K hK=>?_) ak.nil;go_simp;refine hK _ _ (fun _ _=>⟨⟨_,(aM _ w1).alloc (aG _) _|>.drew⟩,rfl⟩) ?_;clear hK K;refine aK [16] _ _ _ (by kernel_rfl) ?_;simp only[pick,bz,bA,bu,aS,aT];rw[<-kI];clear g3 g4 p0 p1 p2 p3 p4 p5 p6 pe kI
 go_upto_region 3 with fail
 have hb2:=fP.out;have nD:w1.heap.size<w2.heap.size:=(bn.1 Gg.out).1;have hx2:=Gg.out;have b0:=(hb2.cell (p:=(ah tb 0)) jk).trans c0;have t0:=(hb2.cell (p:=(ah ab 0)) FH).trans s0;have t1:=(hb2.cell (p:=(ah ab 1)) FH).trans s1;have t2:=(hb2.cell (p:=(ah ab 2)) FH).trans s2;have t3:=(hb2.cell (p:=(ah ab 3)) FH).trans s3;have x0:w2.cell? (ah w1.heap.size 0)=some (.int .u8 d.kind):=by simp[World.cell?,hx2]
 have x1:w2.cell? (ah w1.heap.size 1)=some (ag d.l):=by simp[World.cell?,hx2]
 have x2:w2.cell? (ah w1.heap.size 2)=some (ag d.r):=by simp[World.cell?,hx2]
 have x3:w2.cell? (ah w1.heap.size 3)=some (ag tl):=by simp[World.cell?,hx2]
 have x4:w2.cell? (ah w1.heap.size 4)=some (ag th):=by simp[World.cell?,hx2]
 have aic:Hid (w2.heap[ab]? =some (BB fr ub y F cb (c+1))):=(hb2.block ab FH).trans fK.out;have HKW:Hid (aC (fun k=>D k\/k=ab) W w2):=(nL.out.mono fun k h=>.inr h).below hb2;have kV:Hid (dU fH 3 w2 ra R):=HRW.out.below hb2;have Xn:Hid (∀(wz:World) (n:Nat),Below w2.heap.size w2 wz->r=([],1,true)->U0 S W D ab fr ub y F cb c acc r (.returned (.bool true)) wz):=fun wz n hb e=>by
  rw[e];show U0 S W D ab fr ub y F cb c acc ([],1,true) _ _;refine⟨rfl,D,?_,fun k h=>.inl h,HKW.out.below hb,(hb.block ab (xq FH nD)).trans aic.out⟩;show S wz (acc++[]) D;rw[jD];exact Lx.out.kD w2 wz acc D (fun _=>False) KO.out ((aC.refl _ w2).below hb) (fun k h=>h.elim)
 clear hb2 hx2 c0 c3 c4 s0 s1 s2 s3 n0 n1 n2 n3 n4 n5 n6 e0;cases o with
 |none=>
  have hr:r=([],1,true):=by
   obtain⟨-,-,-,-,e5,e6⟩:=HE.out;rw[e6];exact oD e5.symm
  have F1:Hid (∀n,U0 S W D ab fr ub y F cb c acc r (.returned (.bool true)) (w2.drewN n)):=fun n=>Xn.out _ n (Below.bP _ _) hr;clear hr;simp only[pV]
  go_quiet (fail)
  go_wp2;go_ret;exact F1.out _
 |some i=>
  obtain⟨hiR,Ws,sG⟩:=Bf.out i rfl;have Zc:i<R.length:=by rw[<-KI.out.2];exact hiR
  obtain⟨rb,ro,era,hrb,rH⟩:=kV.out.get (by omega);have r0:=rH i Zc 0 (by omega);have r1:=rH i Zc 1 (by omega);have r2:=rH i Zc 2 (by omega);simp only[fH,aT,aS,eG]at r0 r1 r2;rw[<-dI Zc]at r0 r1 r2;subst era;have hyv:mD R i=(bY R i).2.1:=rfl;have afm:Hid (∀W acc D,S W acc D->acc++[i] <+: FL->aO F (#[ku (bY R i).1 (bY R i).2.1 (bY R i).2.2]++cb) W fun e w'=>e=.returned (.bool more)/\∃D',S w' (acc++[i]) D'/\(∀k,D' k->D k\/W.heap.size<=k)/\aC D W w'):=fun W acc D h1 h2=>Lx.out.told W acc D i h1 Zc h2;have HYV:=ae hyv;clear rH hyv;generalize bY R i=p at*;obtain⟨px,py,pi⟩:=p;simp only at r0 r1 r2;simp only[Za];have e1:((i:Int)==-1)=false:=by first|(simp;done)|(simp;omega)
  have e2:decide ((i:Int)=-1)=false:=by first|(simp;done)|(simp;omega)
  by_cases hp:y<py\/th<=fr\/ub<=tl
  .have hr:r=([],1,true):=by
    obtain⟨q1,q2,-,-,e5,e6⟩:=HE.out;rw[e6];refine nO e5.symm ?_;have:=HYV.out;simp only at this;rw[this,<-q1,<-q2];exact hp
   have F1:Hid (∀n,U0 S W D ab fr ub y F cb c acc r (.returned (.bool true)) (w2.drewN n)):=fun n=>Xn.out _ n (Below.bP _ _) hr;clear hr;by_cases h1:y<py
   .have d1:decide (py>y)=true:=by simp;omega
    have d2:decide (y<py)=true:=by simp;omega
    clear hp
    go_quiet (fail)
    go_wp2;go_ret;exact F1.out _
   .have d1:decide (py>y)=false:=by simp;omega
    have d2:decide (y<py)=false:=by simp;omega
    by_cases h2:th<=fr
    .have f1:decide ((th:Int)<=(fr:Int))=true:=by simp;omega
     have f2:decide (th<=fr)=true:=by simp;omega
     clear hp
     go_quiet (fail)
     go_wp2;go_ret;exact F1.out _
    .have f1:decide ((th:Int)<=(fr:Int))=false:=by simp;omega
     have f2:decide (th<=fr)=false:=by simp;omega
     have f3:decide ((tl:Int)>=(ub:Int))=true:=by simp;omega
     have f4:decide ((ub:Int)<=(tl:Int))=true:=by simp;omega
     have f5:decide (ub<=tl)=true:=by simp;omega
     clear hp
     go_quiet (fail)
     go_wp2;go_ret;exact F1.out _
  .have d1:decide (py>y)=false:=by simp;omega
   have d2:decide (y<py)=false:=by simp;omega
   have f1:decide ((th:Int)<=(fr:Int))=false:=by simp;omega
   have f2:decide (th<=fr)=false:=by simp;omega
   have f3:decide ((tl:Int)>=(ub:Int))=false:=by simp;omega
   have f4:decide ((ub:Int)<=(tl:Int))=false:=by simp;omega
   have f5:decide (ub<=tl)=false:=by simp;omega
   have HNP:=ae hp;clear hp Xn
   go_quiet (fail)
   obtain⟨w3,jQ⟩:∃w3,w3=w2.drewN nq:=⟨_,rfl⟩;have jm:Hid (Below w2.heap.size w2 w3):=by rw[jQ];exact Below.bP _ _
   have b0:w3.cell? (ah tb 0)=some (.slice (some (ah rb ro)) nR rc):=by rw[jQ];exact b0
   have t0:w3.cell? (ah ab 0)=some (ag fr):=by rw[jQ];exact t0
   have t1:w3.cell? (ah ab 1)=some (ag ub):=by rw[jQ];exact t1
   have t3:w3.cell? (ah ab 3)=some (.func (.func F) #[] cb):=by rw[jQ];exact t3
   have x0:w3.cell? (ah w1.heap.size 0)=some (.int .u8 d.kind):=by rw[jQ];exact x0
   have x1:w3.cell? (ah w1.heap.size 1)=some (ag d.l):=by rw[jQ];exact x1
   have x2:w3.cell? (ah w1.heap.size 2)=some (ag d.r):=by rw[jQ];exact x2
   have r0:w3.cell? (ah rb (ro+i*3))=some (ag px):=by rw[jQ];exact r0
   have r1:w3.cell? (ah rb (ro+i*3+1))=some (ag py):=by rw[jQ];exact r1
   have r2:w3.cell? (ah rb (ro+i*3+2))=some (aJ pi):=by rw[jQ];exact r2
   have HS3:Hid (S w3 acc D):=Lx.out.kD w2 w3 acc D (fun _=>False) KO.out ((aC.refl _ w2).below jm.out) (fun k h=>h.elim);have adP:Hid (aC (fun k=>D k\/k=ab) W w3):=HKW.out.below jm.out;have aid:Hid (w3.heap[ab]? =some (BB fr ub y F cb (c+1))):=(jm.out.block ab (xq FH nD)).trans aic.out;have hx3:w1.heap.size<w3.heap.size:=by rw[jQ];exact nD
   go_upto_region 5 with fail
   rw[<-jQ];clear jQ;obtain⟨T,eT⟩:∃T:List Nat,T=(if fr<=i/\i<ub then[i]else[]):=⟨_,rfl⟩;have HET:=ae eT;clear eT;obtain⟨nw,Sk⟩:∃nw,nw=w1.heap.size:=⟨_,rfl⟩;have HNW:=ae Sk;rw[<-Sk]at x0 x1 x2 hx3 nD Gg |-;clear Sk
   go_cut [93]from 65 (fun v93 wx=>∃(bb:Bool) (DX:Nat->Prop),v93=.bool bb/\Hid (bb=(decide (fr<=i/\i<ub)&&!more))/\Hid (S wx (acc++T) DX)/\Hid (∀k,DX k->D k\/W.heap.size<=k)/\Hid (aC (fun k=>D k\/k=ab) W wx)/\Hid (wx.heap[ab]? =some (BB fr ub y F cb (c+1)))/\Hid (¬DX ab)/\
    wx.cell? (ah nw 0)=some (.int .u8 d.kind)/\wx.cell? (ah nw 1)=some (ag d.l)/\wx.cell? (ah nw 2)=some (ag d.r)/\Hid (¬DX nw/\nw<wx.heap.size))
   case first=>
    by_cases iC:fr<=i/\i<ub
    .have g1:decide ((i:Int)>=(fr:Int))=true:=by simp;omega
     have g2:decide ((fr:Int)<=(i:Int))=true:=by simp;omega
     have g3:decide (fr<=i)=true:=by simp;omega
     have g4:decide ((i:Int)<(ub:Int))=true:=by simp;omega
     have g5:decide (i<ub)=true:=by simp;omega
     have k0:=aj b0;have k1:=aj t0;have k2:=aj t1;have k3:=aj t3;have k4:=aj r0;have k5:=aj r1;have k6:=aj r2;refine aF (fun W=>∃p:bg w3,W=p.W) [26,27,28] [(0,false),(1,false),(2,false),(3,false),(4,true),(5,false),(6,false),(7,false),(8,false),(9,false),(10,false),(11,true),(12,false),(13,false),(14,false),(15,false),(16,false),(17,false),(18,true),(19,false),(20,false),(21,false),(22,true),(23,false),(24,false),(25,true)] (by kernel_rfl) (by kernel_rfl) (fun _ _ d _ _ h=>by cases d<;>exact h) ⟨⟨_,(aM _ _).drew⟩,rfl⟩ 3 rfl (by kernel_rfl) ?_;simp only[bG,bz,bA,bu,aS,aT,aU]
     repeat(refine aI (fun K hK=>?_);go_simp;first|(refine hK _ ?_;clear hK K)|(apply Exists.intro;refine⟨fun _=>?_,hK _ ?_⟩;rfl;clear hK K))
     refine aQ ?_;refine az [26] (by kernel_rfl) (by simp) ?_;refine ak.cons rfl (fun K hK=>?_) ak.nil;have HSd:S w3.drew acc D:=Lx.out.kD w3 w3.drew acc D (fun _=>False) HS3.out (aC.refl _ w3).drew (fun k h=>h.elim);have HPR:acc++[i] <+: FL:=by
      obtain⟨q1,q2,-,-,e5,e6⟩:=HE.out;have h1:=Y4 (more:=more) (yv:=mD R) (y:=y) (fr:=fr) (ub:=ub) e5.symm (by rw[HYV.out,<-q1,<-q2];exact HNP.out) iC;rw[<-e6]at h1;exact((List.prefix_append_right_inj acc).2 h1).trans HFL.out
     refine Qq Lx.out.enters (by first|rfl|(go_simp;done)) (.tmp 83) _ _ rfl cb rfl (vals:=#[ku px py pi]++cb) rfl (afm.out w3.drew acc D HSd HPR) ?_;rintro e w4 ⟨rfl,D4,hS4,hD4,hK4⟩;refine⟨_,rfl,hK _ _ (fun _ h=>absurd (by simp) h) ?_⟩;clear hK K;refine aK [27,28] _ _ _ (by kernel_rfl) ?_;simp only[pick,bz,bA,bu,aS,aT];have ann:¬D ab:=HDD.out;have U1:¬D nw:=fun h9=>by have:=anl.out nw h9;have:=HSZ.out;have:=HNW.out;omega
     have aC1:ab<w3.heap.size:=xq (by have:=HNW.out;omega) hx3;have hk4:aC D w3 w4:=(aC.refl D w3).drew.trans hK4;have y0:=((di hk4 hx3 U1).1 0).trans x0;have y1:=((di hk4 hx3 U1).1 1).trans x1;have y2:=((di hk4 hx3 U1).1 2).trans x2;have ayt:=hk4.size;have HQ1:Hid (S w4 (acc++T) D4):=by rw[HET.out,aR iC];exact hS4
     have HQ2:Hid (∀k,D4 k->D k\/W.heap.size<=k):=fun k h9=>(hD4 k h9).imp id fun h8=>by
      have h7:w3.heap.size<=k:=h8;have:=adP.out.size;omega
     have HQ3:Hid (aC (fun k=>D k\/k=ab) W w4):=adP.out.trans (hk4.mono fun k h=>.inl h);have HQ4:Hid (w4.heap[ab]? =some (BB fr ub y F cb (c+1))):=bL hk4 aid.out ann;have HQ5:Hid (¬D4 ab/\¬D4 nw/\nw<w4.heap.size):=⟨fun h9=>by
      rcases hD4 ab h9 with h8|h8
      .exact ann h8
      .have h7:w3.heap.size<=ab:=h8;omega,fun h9=>by
      rcases hD4 nw h9 with h8|h8
      .exact U1 h8
      .have h7:w3.heap.size<=nw:=h8;omega,by omega⟩
     have HQ6:Hid ((!more)=(decide (fr<=i/\i<ub)&&!more)):=by show _=_;simp[iC]
     clear hK4 hS4 hD4 hk4 HSd HPR;go_wp2;go_meet;exact⟨_,D4,rfl,HQ6,HQ1,HQ2,HQ3,HQ4,HQ5.out.1,y0,y1,y2,HQ5.out.2⟩
    .have g12:(decide ((i:Int)>=(fr:Int))=true/\decide ((i:Int)<(ub:Int))=false)\/decide ((i:Int)>=(fr:Int))=false:=by simp;omega
     have U1:¬D nw:=fun h9=>by have:=anl.out nw h9;have:=HSZ.out;have:=HNW.out;omega
     have HQ1:Hid (∀n,S (w3.drewN n) (acc++T) D):=fun n=>by
      rw[HET.out,aP iC,jD];exact Lx.out.kD w3 _ acc D (fun _=>False) HS3.out ((aC.refl _ w3).below (Below.bP _ _)) (fun k h=>h.elim)
     have HQ3:Hid (∀n,aC (fun k=>D k\/k=ab) W (w3.drewN n)):=fun n=>adP.out.below (Below.bP _ _);have HQ4:Hid (∀n,(w3.drewN n).heap[ab]? =some (BB fr ub y F cb (c+1))):=fun n=>aid.out;have HQ5:Hid (¬D nw/\nw<w3.heap.size):=⟨U1,hx3⟩;have HQ6:Hid (false=(decide (fr<=i/\i<ub)&&!more)):=by show _=_;simp[iC]
     have HQ7:Hid (∀n o,(w3.drewN n).cell? (ah nw o)=w3.cell? (ah nw o)):=fun n o=>rfl;clear iC;rcases g12 with⟨g1,g2⟩|g1
     .have g3:decide ((fr:Int)<=(i:Int))=true:=by simpa using g1
      have g4:decide (fr<=i)=true:=by simpa using g1
      have g5:decide (i<ub)=false:=by simpa using g2
      go_quiet (fail)
      go_wp2;go_meet;exact⟨_,D,rfl,HQ6,HQ1.out _,fun k h=>.inl h,HQ3.out _,HQ4.out _,HDD.out,(HQ7.out _ _).trans x0,(HQ7.out _ _).trans x1,(HQ7.out _ _).trans x2,HQ5.out⟩
     .have g3:decide ((fr:Int)<=(i:Int))=false:=by simpa using g1
      have g4:decide (fr<=i)=false:=by simpa using g1
      go_quiet (fail)
      go_wp2;go_meet;exact⟨_,D,rfl,HQ6,HQ1.out _,fun k h=>.inl h,HQ3.out _,HQ4.out _,HDD.out,(HQ7.out _ _).trans x0,(HQ7.out _ _).trans x1,(HQ7.out _ _).trans x2,HQ5.out⟩
   case rest=>
    obtain⟨bb,DX,rfl,HBB,KJ,HDX,Sb,Ls,HNX,x0,x1,x2,anp⟩:=hcut;have hnp:=HNP.out;obtain⟨q1,q2,q3,q4,e5,e6⟩:=HE.out;have hpp:¬(y<mD R i\/t.hi<=fr\/ub<=t.lo):=by rw[HYV.out,<-q1,<-q2];exact hnp
    have HPP:=ae hpp;have auK:=anp.out.2;have anq:nw≠ab:=by have:=HNW.out;omega
    clear hnp q1 q2 q3 hpp HNP adP aid HS3 jm fP Gg KO kV HKW aic afm fK nL NT HRW e1 e2 d1 d2 f1 f2 f3 f4 f5 b0 t0 t1 t3 r0 r1 r2 hx3 nD;cases bb with
    |true=>
     have hb:=HBB.out;simp only[Bool.true_eq,qQ,bZ,qf]at hb;have hr2:r=([i],1,false):=by rw[e6,hb.2];exact Fu e5.symm HPP.out hb.1
     have eU:Hid (U0 S W D ab fr ub y F cb c acc r (.returned (.bool false)) wc):=by
      rw[hr2];have h1:=KJ.out;rw[HET.out,aR hb.1]at h1;exact⟨rfl,DX,h1,HDX.out,Sb.out,Ls.out⟩
     clear hr2 hb q4 e5 e6;go_wp2;go_ret;exact eU.out
    |false=>
     have HBF:=ae HBB.out.symm;cases t with
     |leaf a=>
      have hk:d.kind=1:=by rw[q4];rfl
      have hr2:r=(T,1,true):=by
       have e5':h s=some i:=e5.symm;rw[e6,xQ e5' HPP.out,HBF.out,HET.out];rfl
      have eU:Hid (U0 S W D ab fr ub y F cb c acc r (.returned (.bool true)) wc):=by
       rw[hr2];exact⟨rfl,DX,KJ.out,HDX.out,Sb.out,Ls.out⟩
      rw[hk]at x0;clear hr2 hk q4 e5 e6 x1 x2;go_wp2;go_ret;exact eU.out
     |node l rr=>
      have hk:d.kind=2:=by rw[q4];rfl
      have zM:d.l=((l.root s:Nat):Int):=by rw[q4];show((s+l.size:Nat):Int)-1=_;unfold FT.root;have:=l.size_pos;omega
      have hdr:d.r=((rr.root (s+l.size):Nat):Int):=by rw[q4];show((s+l.size+rr.size:Nat):Int)-1=_;unfold FT.root;have:=rr.size_pos;omega
      have hr2:=Fv (more:=more) (yv:=mD R) (y:=y) (fr:=fr) (ub:=ub) e5.symm HPP.out HBF.out;rw[<-e6,<-HET.out]at hr2;have hs1:=rR (h:=h) (yv:=mD R) (y:=y) (fr:=fr) (ub:=ub) more l s;have hs2:=rR (h:=h) (yv:=mD R) (y:=y) (fr:=fr) (ub:=ub) more rr (s+l.size);have hcc:=HC.out;have hsz:(FT.node l rr).size=l.size+rr.size+1:=rfl;obtain⟨U2,U3⟩:=Jn.out l rr rfl;rw[hk]at x0;rw[zM]at x1;rw[hdr]at x2;have Zd:=HFL.out;rw[hr2]at Zd;generalize downG more h (mD R) y fr ub l s=dl at*;generalize downG more h (mD R) y fr ub rr (s+l.size)=dr at*;obtain⟨L1,c1,b1⟩:=dl;obtain⟨L2,c2,b2⟩:=dr;simp only at hr2 hs1 hs2 Zd U2 U3;have FI:(acc++T)++L1 <+: FL:=by
       refine List.IsPrefix.trans ?_ Zd;exact⟨if b1 then L2 else[],by simp only[ek]⟩
      have C1:=ae (U2 wc (acc++T) DX (c+1) KJ.out HNX.out Ls.out (by omega) FI);have Rn:=ae U3;have kV:=ae hr2;have auL:=ae Zd;have hcb:c+1+l.size<=1000000/\c+1+c1+rr.size<=1000000:=by omega
      clear U2 U3 hr2 Zd FI hk zM hdr q4 e5 e6 hs1 hs2 hcc hsz Jn HE HOK N7 HAA HPP Bf;generalize l.root s=kl at*;generalize rr.root (s+l.size)=kr at*
      go_wp2_with fail
      refine C1.out.mono ?_;rintro e w5 ⟨rfl,D5,hS5,hD5,hK5,hB5⟩;have afn:¬D5 ab:=fun h9=>by
       rcases hD5 ab h9 with h8|h8
       .exact HNX.out h8
       .have:=(bn.1 Ls.out).1;omega
      have xI:¬(DX nw\/nw=ab):=fun h9=>h9.elim anp.out.1 anq;have x2:=((di hK5 auK xI).1 2).trans x2;have HS5:=ae hS5;have HD5:Hid (∀k,D5 k->D k\/W.heap.size<=k):=fun k h9=>by
       rcases hD5 k h9 with h8|h8
       .exact HDX.out k h8
       .have:=Sb.out.size;exact .inr (by omega)
      have mo:Hid (aC (fun k=>D k\/k=ab) W w5):=((Sb.out.mono (S':=fun k=>(D k\/k=ab)\/W.heap.size<=k) (fun k h=>.inl h)).trans (hK5.mono fun k h9=>by
       rcases h9 with h8|h8
       .exact(HDX.out k h8).imp .inl id
       .exact .inl (.inr h8))).strip
      have om:=ae hB5;have anr:=ae afn;clear hS5 hD5 hK5 hB5 afn xI x0 x1;cases b1 with
      |false=>
       have eU:Hid (U0 S W D ab fr ub y F cb c acc r (.returned (.bool false)) w5):=by
        rw[kV.out];simp only[rY,jU,jD,Bool.false_and,eG];refine⟨rfl,D5,?_,HD5.out,mo.out,?_⟩
        .have:=HS5.out;rwa [ek]at this
        .have:=om.out;rw[show c+(1+c1)=c+1+c1 by omega];exact this
       go_wp2;go_ret;exact eU.out
      |true=>
       have C2:=ae (Rn.out w5 (acc++T++L1) D5 (c+1+c1) HS5.out anr.out om.out hcb.2 (by
        have:=auL.out;simp only[gV]at this;simpa only[ek]using this))
       go_wp2_with fail
       refine C2.out.mono ?_;rintro e w6 ⟨rfl,D6,hS6,hD6,NY,hB6⟩;have eU:Hid (U0 S W D ab fr ub y F cb c acc r (.returned (.bool b2)) w6):=by
        rw[kV.out];simp only[gV,Bool.true_and];refine⟨rfl,D6,?_,fun k h9=>?_,?_,?_⟩
        .simpa only[ek]using hS6
        .rcases hD6 k h9 with h8|h8
         .exact HD5.out k h8
         .have:=mo.out.size;exact .inr (by omega)
        .exact((mo.out.mono (S':=fun k=>(D k\/k=ab)\/W.heap.size<=k) (fun k h=>.inl h)).trans (NY.mono fun k h9=>by
          rcases h9 with h8|h8
          .exact(HD5.out k h8).imp .inl id
          .exact .inl (.inr h8))).strip
        .rw[show c+(1+c1+c2)=c+1+c1+c2 by omega];exact hB6
       clear hS6 hD6 NY hB6;go_wp2;go_ret;exact eU.out
theorem U4 (F:Nat) (cb:Array Value) (more:Bool) (R:List Pt) (h:iU) (cnt:Int) (V:oF) (lo hi tb fb ab:Nat) (w0:World) (S:World->List Nat->(Nat->Prop)->Prop) (y:Int) (fr ub:Nat) (FL:List Nat)
  (hT:adO F cb more R w0 FL S) (hA:dC w0 lo hi tb fb R h cnt V) (hR:R.length<=20000) (hab:w0.heap.size<=ab):
  ∀(t:FT) (s:Nat) (W:World) (acc:List Nat) (D:Nat->Prop) (c:Nat),FT.At (aZ R.length) t s->t.wf->t.hi<=R.length->ik (Cz R) h t s->S W acc D->¬D ab->W.heap[ab]? =some (BB fr ub y F cb c)->c+t.size<=1000000->
  acc++(downG more h (mD R) y fr ub t s).1 <+: FL->
  aO 174 #[ay tb,ag (t.root s:Nat),ay ab] W (U0 S W D ab fr ub y F cb c acc (downG more h (mD R) y fr ub t s)):=by
 intro t
 induction t with
 |leaf a=>exact fun s W acc D c ha hw hh ok hS hD hb hc hF=>FD F cb more R h cnt V lo hi tb fb ab w0 S y fr ub FL hT hA hR hab _ s W acc D c ha hw hh ok hS hD hb hc hF (fun l r e=>by cases e)
 |node l r il ir=>
  intro s W acc D c ha hw hh ok hS hD hb hc hF;refine FD F cb more R h cnt V lo hi tb fb ab w0 S y fr ub FL hT hA hR hab _ s W acc D c ha hw hh ok hS hD hb hc hF fun l' r' e=>?_;cases e;have h1:=FT.fe r hw.2.1;have h2:=hw.2.2;have h3:(FT.node l r).hi=r.hi:=rfl;exact⟨fun W acc D c hS hD hb hc hF=>il s W acc D c ha.left hw.1 (by omega) ok.2.2.1 hS hD hb hc hF,fun W acc D c hS hD hb hc hF=>ir _ W acc D c ha.right hw.2.1 (by omega) ok.2.2.2 hS hD hb hc hF⟩
def aif (ob:Nat) (R:List Pt) (w0:World) (W:World) (acc:List Nat) (D:Nat->Prop):Prop:=
 Below w0.heap.size w0 W/\∃v,W.heap[ob]? =some (.cells #[v] 35 (0,0))/\W.ownsRow w0.heap.size 27 1 v acc.length ((acc.map (ko R)).map (Value.int .u32))/\D=fun k=>k=ob\/v.ownBlock=some k
theorem Qs:∀args w,(callFunc 109 args).run Tryz.prog w=.ok (.enter 109 args) w:=dF Tryz.func109 (by kernel_rfl) rfl
theorem Qt (R:List Pt) (ob:Nat) (w0:World) (FL:List Nat) (hFL:FL.length<=1000000) (V6:w0.heap.size<=ob):
  adO 109 #[ay ob] true R w0 FL (aif ob R w0) where
 enters:=Qs
 base:=fun W acc D h=>h.1
 lt:=fun W acc D h k hk=>by
  obtain⟨h1,v,h2,h3,rfl⟩:=h;rcases hk with rfl|hk
  .exact⟨V6,(bn.1 h2).1⟩
  .exact h3.lt k hk
 kD:=fun W W' acc D E h hK hE=>by
  obtain⟨h1,v,h2,h3,rfl⟩:=h;exact⟨h1.trans (hK.toBelow h1.size (fun k hk=>(hE k hk).1)),v,(hK.block ob (bn.1 h2).1 (fun h9=>(hE ob h9).2 (.inl rfl))).trans h2,aY h3 hK (fun g e h9=>(hE g h9).2 (.inr e)),rfl⟩
 told:=fun W acc D i h hi hF=>by
  obtain⟨h1,v,h2,h3,rfl⟩:=h;have hl2:=hF.length_le;rw[bF,Dt]at hl2;have hnm:(bY R i).2.2=ko R i:=rfl;have HNM:Hid ((((acc++[i]).map (ko R)).map (Value.int .u32))=((acc.map (ko R)).map (Value.int .u32))++[.int .u32 (bY R i).2.2]):=by
   show _=_;rw[dh,dh];rfl
  have HLN:Hid ((acc++[i]).length=acc.length+1):=by show _=_;simp
  generalize bY R i=p at*;obtain⟨px,py,pi⟩:=p;obtain⟨va,vc,rfl⟩:=fI h3;have NU:ob<W.heap.size:=(bn.1 h2).1;obtain⟨n,hn⟩:∃n,n=acc.length:=⟨_,rfl⟩;rw[<-hn]at h2 h3 hl2 HLN |-;obtain⟨w1,fJ⟩:∃w1,w1=W.alloc (.cells #[ag px,ag py,aJ pi] 29):=⟨_,rfl⟩;have hb1:Below W.heap.size W w1:=by rw[fJ];exact(aM _ _).alloc (aG _) _
  have Ha:w1.heap[W.heap.size]? =some (.cells #[ag px,ag py,aJ pi] 29 (0,0)):=by rw[fJ];exact dE W _
  have Jz:=(hb1.block ob NU).trans h2;have c0:w1.cell? (ah ob 0)=some (.slice va n vc):=by simp[World.cell?,Jz]
  have c1:w1.cell? (ah W.heap.size 2)=some (aJ pi):=by simp[World.cell?,Ha]
  have HOW:Hid (w1.ownsRow w0.heap.size 27 1 (.slice va n vc) n ((acc.map (ko R)).map (Value.int .u32))):=au h3 hb1;have HOB:=ae Jz;have fK:=ae hb1;have H1:=ae h1;have hBW:w0.heap.size<=w1.heap.size:=bO h1.size hb1.size;have Cm:ob<w1.heap.size:=bJ NU hb1.size;have HVO:=ae h3.lt;have Xq:∀gb,(Value.slice va n vc).ownBlock=some gb->ob≠gb:=bH h3 h2 (by decide);have Xt:=ae Xq;clear hF h1 h2 h3 Ha Jz hb1 Xq hn hnm;show aO 109 #[ku px py pi,ay ob] W _;go_enter Tryz.func109,Tryz.ntmps109
  go_upto_region 1 with fail
  rw[<-fJ];clear fJ
  go_upto_region 1 with fail
  have KGf:Hid (∀(v':Value) (w2:World),w1.grownBy w2 (Value.slice va n vc).ownBlock->w2.heap[ob]? =some (.cells #[.slice va n vc] 35 (0,0))/\aC (fun k=>k=ob\/(Value.slice va n vc).ownBlock=some k) W w2):=fun v' w2 hg2=>by
   have KG:aC (fun k=>(Value.slice va n vc).ownBlock=some k) w1 w2:=(aC.refl _ _).grown hg2 (fun k hk=>.inl hk);exact⟨(KG.block ob Cm (fun h=>Xt.out ob h rfl)).trans HOB.out,((aC.refl _ W).below fK.out).trans (KG.mono fun k h=>.inr h)⟩
  go_wp2_with (at_builtin;refine cz yw w0.heap.size HOW.out [.int .u32 pi] rfl (by simp[Value.oneCell']) rfl _ _ rfl rfl _ rfl (by unfold maxLen;omega) (by omega) hBW ?_;intro v' w2 hv2 hg2 Xu;have h9:=KGf.out v' w2 hg2;have agY:=ae h9.1;have HKG:=ae h9.2;have Mc:=h9.1;have z2:(w2.frozen? (ah ob 0)=false):=(by simp[World.frozen?,Mc]);have c2:(w2.cell? (ah ob 0)=some (.slice va n vc)):=(by simp[World.cell?,Mc]);have uZ:=ae Xu;have HV2:=ae hv2;obtain⟨va',vc',rfl⟩:=fI hv2;clear h9 Mc hv2 Xu hg2)
  go_ret;have KF:=(HKG.out.set (a:=(ah ob 0)) (.slice va' (n+1) vc') (.inl (.inl rfl)));have ag0:∀gb,(Value.slice va' (n+1) vc').ownBlock=some gb->gb≠ob:=fun gb e=>by
   rcases uZ.out with h9|h9
   .exact fun e9=>Xt.out gb (h9▸e) e9.symm
   .rw[h9]at e;injection e with e;intro e9;simp at e;omega
  refine⟨rfl,_,⟨H1.out.trans (KF.toBelow H1.out.size (fun k h=>?_)),.slice va' (n+1) vc',dH _ ob 0 _ _ _ agY.out,?_,rfl⟩,fun k h=>?_,KF⟩
  .rcases h with rfl|h
   .exact V6
   .exact(HVO.out k h).1
  .have h9:=aY (S:=fun k=>k=ob) HV2.out ((aC.refl (fun k=>k=ob) w2).set (a:=(ah ob 0)) (.slice va' (n+1) vc') (.inl rfl)) ag0;rw[HLN.out,HNM.out];exact h9
  .rcases h with rfl|h
   .exact .inl (.inl rfl)
   .rcases uZ.out with h9|h9
    .exact .inl (.inr (h9▸h))
    .rw[h9]at h;injection h with h;have:=fK.out.size;simp at h;right;omega
theorem adR {more:Bool} {R:List Pt} {h:iU} {x1 x2 y:Int} (hc:R.length=0\/x2<x1):oN more R h x1 x2 y=([],0):=by unfold oN;rw[aR hc]
theorem Qu (F:Nat) (cb:Array Value) (more:Bool) (R:List Pt) (h:iU) (cnt:Int) (V:oF) (lo hi tb fb:Nat) (w0 W:World) (S:World->List Nat->(Nat->Prop)->Prop) (D:Nat->Prop) (x1 x2 y:Int)
  (hA:dC w0 lo hi tb fb R h cnt V) (hW:nG R h) (hR:R.length<=20000) (hT:adO F cb more R w0 (oN more R h x1 x2 y).1 S) (hS:S W [] D):
  aO 108 #[ay tb,ag x1,ag x2,ag y,.func (.func F) #[] cb] W (JC S W D (oN more R h x1 x2 y)):=by
 have hbase:=hT.base W [] D hS;have JD:=hA.below hbase hA.fo.2.2.2.2;have jk:=JD.KZ;have hb':=JD.blk;obtain⟨ra,rc,Qr⟩:=fI JD.row;obtain⟨xa,xc,exv,-,-,rx⟩:=Rd.aL JD.xs;rw[Qr,exv]at hb';have lx:(bX R).length=R.length:=by unfold bX;rw[cu]
 rw[lx]at hb';have c0:W.cell? (ah tb 0)=some (.slice ra R.length rc):=by simp[World.cell?,hb']
 have c1:W.cell? (ah tb 1)=some (.slice xa R.length xc):=by simp[World.cell?,hb']
 have c2:W.cell? (ah tb 2)=some (ay fb):=by simp[World.cell?,hb']
 have HST:Hid (∀W',Below W.heap.size W W'->S W' [] D):=fun W' hb=>hT.kD W W' [] D (fun _=>False) hS ((aC.refl _ W).below hb) (fun k h=>h.elim);by_cases hno:R.length=0\/x2<x1
 .rw[adR hno];have HQ:Hid (JC S W D ([],0) (.returned (ag 0)) W):=⟨rfl,D,hS,fun k h=>.inl h,aC.refl _ _⟩;clear hA hW hT hS JD hb' hbase HST rx Qr exv c1 c2;generalize R.length=n at*;by_cases h0:n=0
  .have d0:((n:Int)==0)=true:=by simp[h0]
   have d1:(n==0)=true:=by simp[h0]
   have d2:decide (n=0)=true:=by simp[h0]
   clear h0 hno lx;go_enter Tryz.func108,Tryz.ntmps108;go_wp2;go_ret;exact HQ.out
  .have d0:((n:Int)==0)=false:=by simp[h0]
   have d1:(n==0)=false:=by simp[h0]
   have d2:decide (n=0)=false:=by simp[h0]
   have f1:decide (x1>x2)=true:=by simp;omega
   have f2:decide (x2<x1)=true:=by simp;omega
   clear h0 hno lx;go_enter Tryz.func108,Tryz.ntmps108;go_wp2;go_ret;exact HQ.out
 .have h0:0<R.length:=by omega
  have CX1:=ae (fun W' (hb:Below W.heap.size W W')=>JA xa (bX R) xc x1 W' (rx.below hb) (by omega));have CX2:=ae (fun W' (hb:Below W.heap.size W W')=>JB xa (bX R) xc x2 W' (rx.below hb) (by omega));have l1:=gK (fun i=>decide (x1<=(bX R).getD i 0)) (bX R).length;have l2:=gK (fun i=>decide (x2<(bX R).getD i 0)) (bX R).length;have l1':(aX (bX R) x1).2<=20000:=by unfold aX;omega
  have l2':(aW (bX R) x2).2<=20000:=by unfold aW;omega
  obtain⟨w1',w2',w3'⟩:=bT 0 R.length h0;have hTs:=fB 0 R.length h0;have CDN:Hid (∀ab W' c,S W' [] D->¬D ab->w0.heap.size<=ab->W'.heap[ab]? =some (BB (jP R x1) (nk R x2) y F cb c)->c<=40000->jP R x1<nk R x2->
    aO 174 #[ay tb,ag ((2*R.length-2:Nat):Int),ay ab] W' (U0 S W' D ab (jP R x1) (nk R x2) y F cb c [] (downG more h (mD R) y (jP R x1) (nk R x2) (dO 0 R.length) 0))):=fun ab W' c hS' hD hab hblk hc Od=>by
   have h9:=U4 F cb more R h cnt V lo hi tb fb ab w0 S y (jP R x1) (nk R x2) _ hT hA hR hab (dO 0 R.length) 0 W' [] D c (kH _ h0) w1' (by omega) (hW.ok h0) hS' hD hblk (by omega) (by
    unfold oN;rw[aP hno,aR Od];exact List.prefix_rfl)
   rw[show(dO 0 R.length).root 0=2*R.length-2 by unfold FT.root;omega]at h9;exact h9
  have Mk:=(MW hW hR more x1 x2 y).2;have BD:Hid (oN more R h x1 x2 y=if jP R x1<nk R x2 then((downG more h (mD R) y (jP R x1) (nk R x2) (dO 0 R.length) 0).1,(aX (bX R) x1).2+(aW (bX R) x2).2+(downG more h (mD R) y (jP R x1) (nk R x2) (dO 0 R.length) 0).2.1)else([],(aX (bX R) x1).2+(aW (bX R) x2).2)):=by
   show oN more R h x1 x2 y=_
   conv=>lhs;unfold oN
   rw[aP hno]
  have Ze:Hid (jP R x1=(aX (bX R) x1).1/\nk R x2=(aW (bX R) x2).1):=⟨rfl,rfl⟩;rw[<-Ze.out.1,lx]at CX1;rw[<-Ze.out.2,lx]at CX2;have HAW:=ae JD;have HDL:=ae (hT.lt W [] D hS);have hbs:=hbase.size;have f1:decide (x1>x2)=false:=by simp;omega
  have f2:decide (x2<x1)=false:=by simp;omega
  obtain⟨dg,hdg⟩:∃dg,dg=downG more h (mD R) y (jP R x1) (nk R x2) (dO 0 R.length) 0:=⟨_,rfl⟩;rw[<-hdg]at CDN BD;clear hA hW hT hS JD hb' hbase rx Qr exv hno l1 l2 w1' w2' w3' hTs lx hdg;generalize jP R x1=fr at*;generalize nk R x2=tu at*;generalize hr1:(aX (bX R) x1).2=r1 at*;generalize hr2:(aW (bX R) x2).2=r2 at*;generalize oN more R h x1 x2 y=ask at*;clear hr1 hr2 Ze;have Bf:Hid (o8 W lo fb R.length V.fv):=HAW.out.iT;have Yf:Hid (fb<W.heap.size):=bJ HAW.out.fo.2.2.2.1 HAW.out.fo.2.2.2.2;clear HAW;generalize R.length=n at*;have d0:((n:Int)==0)=false:=by simp;omega
  have d1:(n==0)=false:=by simp;omega
  have d2:decide (n=0)=false:=by simp;omega
  go_enter Tryz.func108,Tryz.ntmps108
  go_wp2_with fail
  refine(CX1.out W (aM _ _)).mono ?_;rintro e w1 ⟨rfl,hb1⟩;have c1':=(hb1.cell (p:=(ah tb 1)) jk).trans c1;have fK:=ae hb1;clear hb1
  go_wp2_with fail
  refine(CX2.out w1 fK.out).mono ?_;rintro e w2 ⟨rfl,hb2⟩;have fP:Hid (Below W.heap.size W w2):=fK.out.trans (hb2.mono fK.out.size);clear hb2 c1' CX1 CX2 fK
  go_upto_region 6 with fail
  obtain⟨w3,jQ⟩:∃w3,w3=w2.alloc (.cells #[ag fr,ag tu,ag y,.func (.func F) #[] cb,ag ((r1+r2:Nat):Int)] 250):=⟨_,rfl⟩;have hb3:Below w2.heap.size w2 w3:=by rw[jQ];exact(aM _ _).alloc (aG _) _
  obtain⟨ab,hab⟩:∃ab,ab=w2.heap.size:=⟨_,rfl⟩;have ha3:w3.heap[ab]? =some (BB fr tu y F cb (r1+r2)):=by rw[jQ,hab];exact dE w2 _
  have jm:Hid (Below W.heap.size W w3):=fP.out.trans (hb3.mono fP.out.size);have aC5:W.heap.size<=ab:=by rw[hab];exact fP.out.size
  rw[show w2.alloc (.cells #[ag fr,ag tu,ag y,.func (.func F) #[] cb,ag ((r1:Int)+(r2:Int))] 250)=w3 by rw[jQ];rfl,<-hab];have HA3:=ae ha3;have k2:=(jm.out.cell (p:=(ah tb 2)) jk).trans c2;have auD:ab<w3.heap.size:=(bn.1 ha3).1;have auP:Hid (¬D ab):=fun h9=>by have:=(HDL.out ab h9).2;omega
  clear jQ hb3 ha3 hab fP c0 c1 c2;by_cases Od:fr<tu
  .have g1:decide ((fr:Int)<(tu:Int))=true:=by simp;omega
   have g2:decide (fr<tu)=true:=by simp;omega
   have nH:=BD.out;rw[aR Od]at nH;have Zf:=ae nH;have vS:=Bf.out.blk;have hf3:=(jm.out.block fb Yf.out).trans vS;have NW:=ae (jV fb n h0 (by omega) w3 (by simp[World.cell?,hf3]) (by simp[World.cell?,hf3]));have CD:=ae (CDN.out ab w3 (r1+r2) (HST.out w3 jm.out) auP.out (by omega) HA3.out (by omega) Od);clear nH Od hf3 vS CDN BD
   go_wp2_with fail
   refine NW.out.mono ?_;rintro e w' ⟨rfl,JE⟩;subst JE
   go_wp2_with fail
   refine CD.out.mono ?_;rintro e w4 ⟨rfl,D4,hS4,hD4,hK4,hB4⟩;have k4:w4.cell? (ah ab 4)=some (ag ((r1+r2+dg.2.1:Nat):Int)):=by simp[World.cell?,hB4]
   have eU:Hid (JC S W D ask (.returned (ag ((r1+r2+dg.2.1:Nat):Int))) w4):=by
    rw[Zf.out];refine⟨rfl,D4,hS4,fun k h9=>(hD4 k h9).imp id fun h8=>by have:=jm.out.size;omega,?_⟩;exact(((aC.refl (fun k=>D k\/W.heap.size<=k) W).below jm.out).trans (hK4.mono fun k h9=>h9.imp id fun h8=>by omega)).strip
   clear hS4 hD4 hK4 hB4 CD NW;go_wp2;go_ret;exact eU.out
  .have g1:decide ((fr:Int)<(tu:Int))=false:=by simp;omega
   have g2:decide (fr<tu)=false:=by simp;omega
   have nH:=BD.out;rw[aP Od]at nH;have eU:Hid (JC S W D ask (.returned (ag ((r1+r2:Nat):Int))) w3):=by
    rw[nH];exact⟨rfl,D,HST.out w3 jm.out,fun k h=>.inl h,(aC.refl _ W).below jm.out⟩
   have ha3:=HA3.out;have k4:w3.cell? (ah ab 4)=some (ag ((r1+r2:Nat):Int)):=by simp[World.cell?,ha3]
   clear nH Od ha3 CDN BD;go_wp2;go_ret;exact eU.out
def auQ (w:World) (R:List Pt) (r:List Nat×Nat) (e:Ending) (w':World):Prop:=
 ∃v,e=.returned (.tuple #[v,ag (r.2:Nat)])/\w'.ownsRow w.heap.size 27 1 v r.1.length ((gu (r.1.map (ko R))).map (Value.int .u32))/\Below w.heap.size w w'
theorem Qv {w:World} {lo hi tb fb:Nat} {R:List Pt} {h:iU} {cnt:Int} {V:oF} (hA:dC w lo hi tb fb R h cnt V) (hW:nG R h) (hR:R.length<=20000) (x1 x2 y:Int):
  aO 41 #[ay tb,ag x1,ag x2,ag y] w (auQ w R (oN true R h x1 x2 y)):=by
 obtain⟨w1,fJ⟩:∃w1,w1=w.alloc (.cells #[aN] 35):=⟨_,rfl⟩;have hb1:Below w.heap.size w w1:=by rw[fJ];exact(aM _ _).alloc (aG _) _
 have Jz:w1.heap[w.heap.size]? =some (.cells #[aN] 35 (0,0)):=by rw[fJ];exact dE w _
 have hS:aif w.heap.size R w w1 [] (fun k=>k=w.heap.size\/(aN).ownBlock=some k):=⟨hb1,aN,Jz,dL _ _ _ _,rfl⟩;obtain⟨hlen,Mk⟩:=MW hW hR true x1 x2 y;have CA:=Qu 109 #[ay w.heap.size] true R h cnt V lo hi tb fb w w1 (aif w.heap.size R w) _ x1 x2 y hA hW hR
  (Qt R w.heap.size w _ (by omega) (aG _)) hS
 generalize oN true R h x1 x2 y=r at*;have Uf:=ae CA;have fK:=ae hb1;have ym:r.1.length<=40000:=by omega
 clear CA hS Jz hb1 hA hlen hW;go_enter Tryz.func41,Tryz.ntmps41
 go_wp2_with fail
 rw[<-fJ];clear fJ;refine Uf.out.mono ?_;rintro e w2 ⟨rfl,D',⟨hb2,v,KL,hv2,rfl⟩,hD,hK⟩;have HV2:=ae hv2;have fP:=ae hb2;have HO2:=ae KL;have k0:w2.cell? (ah w.heap.size 0)=some v:=by simp[World.cell?,KL]
 have hvo:∀gb,v.ownBlock=some gb->w.heap.size≠gb:=bH hv2 KL (by decide);have HVO:=ae hvo;have NU:=(bn.1 KL).1;have CS:=ae (Jc (l:=r.1.map (ko R)) hv2 (by omega));obtain⟨va,vc,rfl⟩:=fI hv2;clear hv2 hb2 KL hK hD hvo Uf
 go_wp2_with fail
 refine CS.out.mono ?_;rintro e w3 ⟨rfl,hv3,hK3⟩;have HV3:=ae hv3;have k3:w3.cell? (ah w.heap.size 0)=some (.slice va r.1.length vc):=((di hK3 NU (fun h=>HVO.out _ h rfl)).1 0).trans k0;have Gh:Hid (Below w.heap.size w w3):=fP.out.trans (hK3.toBelow fP.out.size (fun k h=>(HV2.out.lt k h).1));clear hv3 hK3 k0 CS;go_wp2;go_ret2;exact⟨_,rfl,HV3.out,Gh.out⟩
theorem Zg (p q:Pt) (w:World):aO 71 #[ku p.1 p.2.1 p.2.2,ku q.1 q.2.1 q.2.2] w (iX w (ag (pO p q))):=
 (ahm p q w).mono fun e w' ⟨he,hg⟩=>⟨he,hg.below (aG _)⟩
def GA (lb:Nat->Nat->Bool) (h:iU):FT->Nat->Int
 |.leaf _,_=>-1
 |.node l r,s=>match h (l.root s),h (r.root (s+l.size))with
  |none,none=>-1
  |some _,none=>(l.root s:Nat)
  |none,some _=>(r.root (s+l.size):Nat)
  |some i,some j=>if lb i j then(l.root s:Nat)else(r.root (s+l.size):Nat)
theorem M8 {w:World} {lo hi tb fb:Nat} {cnt:Int} {R:List Pt} {h:iU} {V:oF} (H:dC w lo hi tb fb R h cnt V) (hR:R.length<=20000) {t:FT} {s:Nat} (ha:FT.At (aZ R.length) t s) (hlt:∀k i,k<(aZ R.length).length->h k=some i->i<R.length):
  aO 195 #[ay tb,ag (t.root s:Nat)] w (iX w (ag (GA (Gy R) h t s))):=by
 have gU:=ha.lt;have hM:(aZ R.length).length<=40000:=by rw[dA];omega
 have h0:0<R.length:=by have:=dA R.length;omega
 obtain⟨gn,off,cn,env,M7⟩:=H.nodes h0;obtain⟨gh,ch,rV,-,-,-,-,FE,hcs,-⟩:=H.holds h0;obtain⟨ra,rc,Qr,-,-,BC⟩:=dU.aL cZ (by decide) H.row;have hb':=H.blk;rw[env,rV,Qr]at hb';have jk:=H.KZ;obtain⟨Rm,n0,n1,n2,n3,n4,n5,n6⟩:=nW M7 ha.get;have c0:w.cell? (ah tb 0)=some (.slice ra R.length rc):=by simp[World.cell?,hb']
 have c3:w.cell? (ah tb 3)=some (.slice (some (ah gn off)) (aZ R.length).length cn):=by simp[World.cell?,hb']
 have c4:w.cell? (ah tb 4)=some (aD gh (aZ R.length).length ch):=by simp[World.cell?,hb']
 have HCS:=ae hcs;have HRW:=ae BC;have Jy:=ae hlt;obtain⟨M,La⟩:∃M,M=(aZ R.length).length:=⟨_,rfl⟩;obtain⟨nR,hnR⟩:∃nR,nR=R.length:=⟨_,rfl⟩;obtain⟨K,hK⟩:∃K,K=t.root s:=⟨_,rfl⟩;rw[<-La]at c3 c4 hM gU;rw[<-hnR]at c0 hR h0;rw[<-hK]at n0 n1 n2 n3 n4 n5 n6 gU |-;have KI:Hid (M=(aZ R.length).length/\nR=R.length):=⟨La,hnR⟩;obtain⟨w1,fJ⟩:∃w1,w1=w.alloc (.cells #[.int .u8 (t.top s).kind,ag (t.top s).l,ag (t.top s).r,ag (t.top s).fr,ag (t.top s).Ri,ag 0,ag (t.top s).item] 163):=⟨_,rfl⟩;have hb1:Below w.heap.size w w1:=by rw[fJ];exact(aM _ _).alloc (aG _) _
 have hx1:w1.heap[w.heap.size]? =some (.cells #[.int .u8 (t.top s).kind,ag (t.top s).l,ag (t.top s).r,ag (t.top s).fr,ag (t.top s).Ri,ag 0,ag (t.top s).item] 163 (0,0)):=by rw[fJ];exact dE w _
 have x0:w1.cell? (ah w.heap.size 0)=some (.int .u8 (t.top s).kind):=by simp[World.cell?,hx1]
 have x1:w1.cell? (ah w.heap.size 1)=some (ag (t.top s).l):=by simp[World.cell?,hx1]
 have x2:w1.cell? (ah w.heap.size 2)=some (ag (t.top s).r):=by simp[World.cell?,hx1]
 have fK:=ae hb1;have q0:=(hb1.cell (p:=(ah tb 0)) jk).trans c0;have q4:=(hb1.cell (p:=(ah tb 4)) jk).trans c4;have nD:w.heap.size<w1.heap.size:=(bn.1 hx1).1;have yR:tb<w1.heap.size:=xq jk nD;have aC6:gh<w1.heap.size:=xq FE nD;clear hcs BC hlt La hnR hb' env rV Qr M7 hb1 hx1 hK;cases t with
 |leaf a=>
  have d1:(((FT.leaf a).top s).kind !=(2:Int))=true:=rfl;clear x1 x2 q0 q4 c0 c4;generalize(FT.leaf a).top s=d at*;go_enter Tryz.func195,Tryz.ntmps195
  go_upto_region 2 with fail
  rw[<-fJ];clear fJ;go_wp2;go_ret;exact⟨rfl,fK.out⟩
 |node l r=>
  have d1:(((FT.node l r).top s).kind !=(2:Int))=false:=rfl;have uy:=ha.left.lt;have ym:=ha.right.lt;have zM:((FT.node l r).top s).l=((l.root s:Nat):Int):=by show((s+l.size:Nat):Int)-1=_;unfold FT.root;have:=l.size_pos;omega
  have hdr:((FT.node l r).top s).r=((r.root (s+l.size):Nat):Int):=by show((s+l.size+r.size:Nat):Int)-1=_;unfold FT.root;have:=r.size_pos;omega
  rw[zM]at x1;rw[hdr]at x2;have e1:=(fK.out.cell (p:=(ah gh (l.root s))) FE).trans (HCS.out _ uy).1;have e2:=(fK.out.cell (p:=(ah gh (r.root (s+l.size)))) FE).trans (HCS.out _ ym).1;have HR:Hid (∀o1 o2,h (l.root s)=o1->h (r.root (s+l.size))=o2->GA (Gy R) h (.node l r) s=match o1,o2 with|none,none=>-1|some _,none=>(l.root s:Nat)|none,some _=>(r.root (s+l.size):Nat)|some i,some j=>if Gy R i j then(l.root s:Nat)else(r.root (s+l.size):Nat)):=fun o1 o2 h1 h2=>by subst h1 h2;rfl
  have anv:=uy;have anw:=ym;rw[<-KI.out.1]at uy ym;obtain⟨o1,Jz⟩:∃o1,o1=h (l.root s):=⟨_,rfl⟩;obtain⟨o2,KL⟩:∃o2,o2=h (r.root (s+l.size)):=⟨_,rfl⟩;have kV:=ae (HR.out o1 o2 Jz.symm KL.symm);have Wm:Hid (∀i,o1=some i->i<R.length):=fun i e=>Jy.out _ i anv (Jz▸e);have HL2:Hid (∀i,o2=some i->i<R.length):=fun i e=>Jy.out _ i anw (KL▸e);rw[<-Jz]at e1;rw[<-KL]at e2;clear zM hdr HR Jz KL Jy HCS ha anv anw;generalize GA (Gy R) h (.node l r) s=res at*;generalize(FT.node l r).top s=d at*;generalize l.root s=kl at*;generalize r.root (s+l.size)=kr at*;have z1:=aj q4;have z2:=aj x1;have z3:=aj x2;have z4:=aj e1;have z5:=aj e2;go_enter Tryz.func195,Tryz.ntmps195
  go_upto_region 2 with fail
  rw[<-fJ];clear fJ
  go_upto_region 4 with fail
  refine aF (fun W=>∃p:bg w1,W=p.W) [17] [(0,false),(1,false),(2,false),(3,true),(4,false),(5,true),(6,false),(7,true),(8,false),(9,false),(10,false),(11,true),(12,false),(13,true),(14,false),(15,true),(16,false)] (by kernel_rfl) (by kernel_rfl) (fun _ _ d _ _ h=>by cases d<;>exact h) ⟨⟨_,(aM _ _).drew⟩,rfl⟩ 1 rfl (by kernel_rfl) ?_;simp only[bG,bz,bA,bu,aS,aT,aU]
  repeat(refine aI (fun K hK=>?_);go_simp;first|(refine hK _ ?_;clear hK K)|(apply Exists.intro;refine⟨fun _=>?_,hK _ ?_⟩;rfl;clear hK K))
  refine aQ ?_;refine aK [17] _ _ _ (by kernel_rfl) ?_;simp only[pick,bz,bA,bu,aS,aT];have HBD:Hid (Below w.heap.size w w1.drew):=fK.out.drew;have q0:w1.drew.cell? (ah tb 0)=some (.slice ra nR rc):=q0;have x1:w1.drew.cell? (ah w.heap.size 1)=some (ag kl):=x1;have x2:w1.drew.cell? (ah w.heap.size 2)=some (ag kr):=x2;have nD:w.heap.size<w1.drew.heap.size:=nD;have yR:tb<w1.drew.heap.size:=yR;clear z1 z2 z3 z4 z5 q4 e1 e2 fK;generalize w1.drew=w2 at*;cases o1 with
  |none=>
   cases o2 with
   |none=>
    simp only[pV];have hr:=kV.out;simp only at hr;subst hr;go_wp2;go_ret;exact⟨rfl,HBD.out⟩
   |some j=>
    simp only[pV];have hr:=kV.out;simp only at hr;subst hr;have e1:((j:Int)==-1)=false:=by first|(simp;done)|(simp;omega)
    have e2:decide ((j:Int)=-1)=false:=by first|(simp;done)|(simp;omega)
    have Sc:Hid (∀n,Below w.heap.size w (w2.drewN n)):=fun n=>HBD.out.trans ((Below.bP _ n).mono HBD.out.size)
    go_upto_region 7 with fail
    go_quiet (fail)
    go_wp2;go_ret;exact⟨rfl,Sc.out _⟩
  |some i=>
   have e1:((i:Int)==-1)=false:=by first|(simp;done)|(simp;omega)
   have e2:decide ((i:Int)=-1)=false:=by first|(simp;done)|(simp;omega)
   have e3:((i:Int)!=-1)=true:=by first|(simp;done)|(simp;omega)
   cases o2 with
   |none=>
    simp only[pV];have hr:=kV.out;simp only at hr;subst hr;have Sc:Hid (∀n,Below w.heap.size w (w2.drewN n)):=fun n=>HBD.out.trans ((Below.bP _ n).mono HBD.out.size)
    go_upto_region 7 with fail
    go_quiet (fail)
    go_wp2;go_ret;exact⟨rfl,Sc.out _⟩
   |some j=>
    have f1:((j:Int)==-1)=false:=by first|(simp;done)|(simp;omega)
    have f2:decide ((j:Int)=-1)=false:=by first|(simp;done)|(simp;omega)
    simp only[pV];have hi:=Wm.out i rfl;have hj:=HL2.out j rfl;obtain⟨rb,ro,era,hrb,rH⟩:=(HRW.out.below HBD.out).get (by omega);have r0:=rH i hi 0 (by omega);have r1:=rH i hi 1 (by omega);have r2:=rH i hi 2 (by omega);have v0:=rH j hj 0 (by omega);have v1:=rH j hj 1 (by omega);have v2:=rH j hj 2 (by omega);simp only[fH,aT,aS,eG]at r0 r1 r2 v0 v1 v2;rw[<-dI hi]at r0 r1 r2;rw[<-dI hj]at v0 v1 v2;subst era;have Oc:Hid (Gy R i j=decide (pO (bY R i) (bY R j)<0)):=by
     show _=_;unfold Gy;rw[wW,rF]
    have hi3:i<nR:=by rw[KI.out.2];exact hi
    have hj3:j<nR:=by rw[KI.out.2];exact hj
    have hr:=kV.out;simp only at hr;rw[Oc.out]at hr;clear rH hi hj Oc Wm HL2;generalize bY R i=p at*;generalize bY R j=q at*;have HC:=ae (fun W=>Zg p q W);generalize pO p q=od at*;obtain⟨px,py,pi⟩:=p;obtain⟨qx,qy,qi⟩:=q;simp only at r0 r1 r2 v0 v1 v2;have EG:Hid (∀b:bg w2,aO 71 #[ku px py pi,ku qx qy qi] b.W fun e w'=>e=.returned (ag od)/\Below b.W.heap.size b.W w'):=fun b=>HC.out b.W;have k0:=aj q0;have k1:=aj r0;have k2:=aj r1;have k3:=aj r2;have k4:=aj v0;have k5:=aj v1;have k6:=aj v2
    go_upto_region 7 with fail
    refine cO (by kernel_rfl) (by kernel_rfl) ?_
    repeat(quiet_step ((go_at_call 71;exact eO (EG.out _))))
    refine mG ?_;intro w4 hw';have iY:Below w2.heap.size w2 w4:=by obtain⟨b,rfl⟩:=hw';exact b.h
    have x1:=(iY.cell (p:=(ah w.heap.size 1)) nD).trans x1;have x2:=(iY.cell (p:=(ah w.heap.size 2)) nD).trans x2;have kJ:Hid (Below w.heap.size w w4):=HBD.out.trans (iY.mono HBD.out.size);clear hw' iY k0 k1 k2 k3 k4 k5 k6;by_cases hlt:od<0
    .have d1:decide (od<0)=true:=by simp[hlt]
     rw[d1,aR rfl]at hr;subst hr;go_wp2;go_ret;exact⟨rfl,kJ.out⟩
    .have d1:decide (od<0)=false:=by simp[hlt]
     rw[d1,aP (by decide)]at hr;subst hr;go_wp2;go_ret;exact⟨rfl,kJ.out⟩
theorem U5 {lb:Nat->Nat->Bool} {N:List Nd} {t:FT} {s:Nat} {h:iU} (ha:FT.At N t s):
  (GA lb h t s=-1/\pullH lb t s h=gN h (t.root s) none)\/
  ∃t2 s2 i,GA lb h t s=((t2.root s2:Nat):Int)/\FT.At N t2 s2/\t2.size<t.size/\h (t2.root s2)=some i/\pullH lb t s h=pullH lb t2 s2 (gN h (t.root s) (some i)):=by
 cases t with
 |leaf a=>exact .inl ⟨rfl,rfl⟩
 |node l r=>
  have hsz:(FT.node l r).size=l.size+r.size+1:=rfl;have pl:=l.size_pos;have pr:=r.size_pos;cases e1:h (l.root s)with
  |none=>
   cases e2:h (r.root (s+l.size))with
   |none=>left;simp only[GA,pullH];rw[e1,e2];exact⟨rfl,rfl⟩
   |some j=>right;refine⟨r,s+l.size,j,?_,ha.right,by omega,e2,?_⟩<;>simp only[GA,pullH]<;>rw[e1,e2]
  |some i=>
   cases e2:h (r.root (s+l.size))with
   |none=>right;refine⟨l,s,i,?_,ha.left,by omega,e1,?_⟩<;>simp only[GA,pullH]<;>rw[e1,e2]
   |some j=>
    right;cases hb:lb i j with
    |true=>refine⟨l,s,i,?_,ha.left,by omega,e1,?_⟩<;>simp only[GA,pullH]<;>rw[e1,e2]<;>simp[hb]
    |false=>refine⟨r,s+l.size,j,?_,ha.right,by omega,e2,?_⟩<;>simp only[GA,pullH]<;>rw[e1,e2]<;>simp[hb]
theorem Qw:∀args w,(callFunc 194 args).run Tryz.prog w=.ok (.enter 194 args) w:=dF Tryz.func194 (by kernel_rfl) rfl
theorem Qx {w:World} {lo hi tb fb:Nat} {R:List Pt} {h:iU} {cnt:Int} {V:oF} (H:dC w lo hi tb fb R h cnt V) (tc ac x k:Nat) (kU:w.cell? (ah tc 0)=some (ay tb)) (hac:w.cell? (ah ac 0)=some (ag x)) (hk:k<(aZ R.length).length) (hR:R.length<=20000):
  aO 194 #[ag k,ay tc,ay ac] w (iX w (.bool (decide (h k=some x)))):=by
 have h0:0<R.length:=by have:=dA R.length;omega
 have hM:(aZ R.length).length<=40000:=by rw[dA];omega
 obtain⟨gh,ch,rV,-,-,-,-,FE,hcs,-⟩:=H.holds h0;have hb':=H.blk;rw[rV]at hb';have c4:w.cell? (ah tb 4)=some (aD gh (aZ R.length).length ch):=by simp[World.cell?,hb']
 have e0:=(hcs k hk).1;have hdd:decide (h k=some x)=decide (pV (h k)=(x:Int)):=by rw[wW,adN]
 rw[hdd];have HB:Hid (∀n,Below w.heap.size w (w.drewN n)):=fun n=>Below.bP _ _;clear hcs hb' rV H hdd;generalize(aZ R.length).length=M at*;generalize pV (h k)=v at*;go_enter Tryz.func194,Tryz.ntmps194
 go_upto_region 1 with fail
 by_cases hv:v=x
 .have d1:(v==(x:Int))=true:=by simp[hv]
  have d2:decide (v=(x:Int))=true:=by simp[hv]
  clear hv
  go_quiet (fail)
  go_wp2;go_ret;rw[d2];exact⟨rfl,HB.out _⟩
 .have d1:(v==(x:Int))=false:=by simp[hv]
  have d2:decide (v=(x:Int))=false:=by simp[hv]
  clear hv
  go_quiet (fail)
  go_wp2;go_ret;rw[d2];exact⟨rfl,HB.out _⟩
def anx (w:World) (h:iU) (x:Nat) (P:List Nat) (e:Ending) (w':World):Prop:=
 ∃r:Int,e=.returned (ag r)/\Below w.heap.size w w'/\((r=-1/\∀k∈P,h k≠some x)\/∃j k:Nat,r=j/\P[j]? =some k/\h k=some x/\∀i<j,∀k',P[i]? =some k'->h k'≠some x)
theorem Zh {w:World} {lo hi tb fb:Nat} {R:List Pt} {h:iU} {cnt:Int} {V:oF} (H:dC w lo hi tb fb R h cnt V) (hR:R.length<=20000) (tc ac x:Nat) (kU:w.cell? (ah tc 0)=some (ay tb)) (hac:w.cell? (ah ac 0)=some (ag x))
  (P:List Nat) (hP:∀k∈P,k<(aZ R.length).length) (pa:Option Addr) (pc:Nat) (hp:Rd fF w pa P) (hlen:P.length<=40000):
  aO 193 #[.slice pa P.length pc,.func (.func 194) #[] #[ay tc,ay ac]] w (anx w h x P):=by
 have jk:=iD w _ kU;have xE:=iD w _ hac;simp only at jk xE;have HC:Hid (∀W k,Below w.heap.size w W->k∈P->aO 194 #[ag k,ay tc,ay ac] W (iX W (.bool (decide (h k=some x))))):=fun W k hb hk=>
  Qx (H.below hb H.fo.2.2.2.2) tc ac x k ((hb.cell (p:=(ah tc 0)) jk).trans kU) ((hb.cell (p:=(ah ac 0)) xE).trans hac) (hP k hk) hR
 have HP:=ae hp;have eg:=Qw;clear H hp hP kU hac;unfold anx;obtain⟨n,hn⟩:∃n,n=P.length:=⟨_,rfl⟩;have HN:=ae hn;rw[<-hn]at hlen |-;clear hn;go_enter Tryz.func193,Tryz.ntmps193;go_wp2
 go_loopg [8] n (fun kx s8 wr=>∃j:Nat,s8=.int .i64 j/\j<=n/\n-j<=kx/\Hid (Below w.heap.size w wr)/\Hid (∀i<j,∀k',P[i]? =some k'->h k'≠some x))
 case atStart=>exact⟨0,rfl,bC _,by omega,aM _ _,fun i hi=>absurd hi (ll _)⟩
 case round=>
  obtain⟨j,rfl,hj,PH,HBw,HF⟩:=hrel;by_cases hlt:j<n
  .have jl:j<P.length:=by have:=HN.out;omega
   obtain⟨b,off,ea,hbl,hcs⟩:=(HP.out.below HBw.out).get (by omega);have x0:=hcs j jl;simp only[fF]at x0;have HK:=ae (HC.out wr P[j] HBw.out (bW jl));have HG:Hid (P[j]? =some P[j]):=dD jl;have EA:=ae ea;clear hcs ea;generalize P[j]=k at*;obtain rfl:=EA.out;clear EA jl;by_cases hh:h k=some x
   .have hd:decide (h k=some x)=true:=by simp[hh]
    rw[hd]at HK;have HH:=ae hh;clear hd hh
    go_wp2_with (go_at_fn 194;refine HK.out.mono ?_;rintro e w' ⟨rfl,hb'⟩)
    go_ret;exact⟨_,rfl,HBw.out.trans (hb'.mono HBw.out.size),.inr ⟨j,k,rfl,HG.out,HH.out,HF.out⟩⟩
   .have hd:decide (h k=some x)=false:=by simp[hh]
    rw[hd]at HK;have HH:=ae hh;clear hd hh
    go_wp2_with (go_at_fn 194;refine HK.out.mono ?_;rintro e w' ⟨rfl,hb'⟩)
    go_roundg (n-(j+1))
    case measure=>omega
    case rel=>
     refine⟨j+1,by go_num,by omega,aG _,HBw.out.trans (hb'.mono HBw.out.size),fun i hi k' Bo=>?_⟩;by_cases e:i=j
     .subst e;have:=HG.out;rw[Bo]at this;injection this with this;rw[this];exact HH.out
     .exact HF.out i (by omega) k' Bo
  .obtain rfl:j=n:=by omega
   have eU:Hid (∀k∈P,h k≠some x):=fun k hk=>by
    obtain⟨i,hi,rfl⟩:=jA hk;exact HF.out i (by have:=HN.out;omega) _ (dD hi)
   go_wp2;go_ret;exact⟨_,rfl,HBw.out,.inl ⟨rfl,eU.out⟩⟩
theorem M9:∀args w,(callFunc 191 args).run Tryz.prog w=.ok (.enter 191 args) w:=dF Tryz.func191 (by kernel_rfl) rfl
theorem Zi:∀args w,(callFunc 192 args).run Tryz.prog w=.ok (.enter 192 args) w:=dF Tryz.func192 (by kernel_rfl) rfl
def FJ (w:World) (tb:Nat) (px py pi:Int):World:=(w.alloc (.cells #[ay tb] 87)).alloc (.cells #[ag px,ag py,aJ pi] 29)
theorem Na (w:World) (tb:Nat) (px py pi:Int):Below w.heap.size w (FJ w tb px py pi)/\(FJ w tb px py pi).heap[w.heap.size]? =some (.cells #[ay tb] 87 (0,0))/\(FJ w tb px py pi).heap[w.heap.size+1]? =some (.cells #[ag px,ag py,aJ pi] 29 (0,0))/\(FJ w tb px py pi).heap.size=w.heap.size+2:=
 ⟨((aM _ _).alloc (aG _) _).alloc (by simp) _,OM w _ _,Jb w _ _,by simp[FJ]⟩
theorem FK {h:iU}:∀{t:FT} {s:Nat},∀p∈t.subs s,∀i∈held h p.1 p.2,i∈held h t s
 |.leaf a,s,p,hp,i,hi=>by
  have:p=(.leaf a,s):=by simpa[FT.subs]using hp
  subst this;exact hi
 |.node l r,s,p,hp,i,hi=>by
  simp only[FT.subs,df,mR]at hp;simp only[held,df];rcases hp with(hp|hp)|hp
  .exact .inr (.inl (FK p hp i hi))
  .exact .inr (.inr (FK p hp i hi))
  .subst hp;simpa only[held,df]using hi
def Qy (w:World) (lo hi tb fb:Nat) (R:List Pt) (h:iU) (cnt:Int) (V:oF) (x:Nat) (e:Ending) (w':World):Prop:=
 (x∉pU R h/\e=.returned (.bool false)/\Below w.heap.size w w')\/(x∈pU R h/\e=.returned (.bool true)/\dC w' lo hi tb fb R (Gz R x h) (cnt-1) V/\aC (fun k=>lo<=k/\k<hi) w w')
theorem J7 {w:World} {lo hi tb fb:Nat} {R:List Pt} {h:iU} {cnt:Int} {V:oF} (hA:dC w lo hi tb fb R h cnt V) (hW:nG R h) (hR:R.length<=20000) (hc0:0<=cnt) (hc1:cnt<=20000) {x:Nat} (hx:x<R.length) (p:Pt) (hp:R[x]=p):
  aO 126 #[ay tb,ku p.1 p.2.1 p.2.2] w (Qy w lo hi tb fb R h cnt V x):=by
 have hb:=hA.blk;have jk:=hA.KZ;have rQ:=hA.fo;obtain⟨ra,rc,er,-,-,jE⟩:=dU.aL cZ (by decide) hA.row;rw[er]at hb;have CB:=ae (fun W (hb:Below w.heap.size w W)=>YK ra R R.length rc p W rfl (by omega) (jE.below hb) hW.Ei);have RP:=JU hW.Ei hx;rw[hp]at RP;rw[RP.1,RP.2]at CB;have Df:=ae jE;have Xv:bY R x=p:=by rw[dI hx];exact hp
 have HP:=ae Xv;have GD:=ae hx;have HER:=ae er;obtain⟨px,py,pi⟩:=p;obtain⟨hb1,ht1,FI,hs1⟩:=Na w tb px py pi;obtain⟨w1,fJ⟩:∃w1,w1=FJ w tb px py pi:=⟨_,rfl⟩;rw[<-fJ]at hb1 ht1 FI hs1;unfold FJ at fJ;have UN:=(hb1.block tb jk).trans hb;have c0:w1.cell? (ah tb 0)=some (.slice ra R.length rc):=by simp[World.cell?,UN]
 have t0:w1.cell? (ah w.heap.size 0)=some (ay tb):=by simp[World.cell?,ht1]
 have p0:w1.cell? (ah (w.heap.size+1) 0)=some (ag px):=by simp[World.cell?,FI]
 have p1:w1.cell? (ah (w.heap.size+1) 1)=some (ag py):=by simp[World.cell?,FI]
 have p2:w1.cell? (ah (w.heap.size+1) 2)=some (aJ pi):=by simp[World.cell?,FI]
 have vE:0<R.length:=by omega
 have hxn:=hx;obtain⟨n,hn⟩:∃n,n=R.length:=⟨_,rfl⟩;rw[<-hn]at hR c0 CB vE hxn;have HN:=ae hn;have fK:=ae hb1;have HA:=ae hA;have HW:=ae hW;have yR:tb<w1.heap.size:=by omega
 have aij:w.heap.size<w1.heap.size:=by omega
 have Nb:w.heap.size+1<w1.heap.size:=by omega
 clear hA jE hb er hn hb1 ht1 FI UN hs1 RP hp hx hW Xv;have d0:((n:Int)==0)=false:=by simp;omega
 have d1:(n==0)=false:=by simp;omega
 have d2:decide (n=0)=false:=by simp;omega
 obtain⟨tc,kU⟩:∃tc,tc=w.heap.size:=⟨_,rfl⟩;have HTC:=ae kU;go_enter Tryz.func126,Tryz.ntmps126
 go_upto_region 1 with fail
 rw[<-fJ];clear fJ;rw[<-kU]at t0 p0 p1 p2 aij Nb |-;clear kU
 go_upto_region 3 with fail
 have F7:Hid (∀b:bg w1,aO 191 #[.slice ra n rc,ku px py pi,.func (.func 94) #[] #[]] b.W fun e w'=>e=.returned (.tuple #[ag (x:Nat),.bool true])/\Below b.W.heap.size b.W w'):=fun b=>CB.out b.W (fK.out.trans (b.h.mono fK.out.size));clear CB
 go_cut [5,6]from 5 (fun v5 v6 wx=>∃ab:Nat,v5=ay ab/\v6=.bool true/\Hid (Below w1.heap.size w1 wx)/\Hid (wx.heap[ab]? =some (.cells #[ag (x:Nat)] 3 (0,0))))
 case first=>
  have g0:=aj c0;have g1:=aj t0;have g2:=aj p0;have g3:=aj p1;have g4:=aj p2;refine aF (fun W=>∃p:bg w1,W=p.W) [11] [(0,true),(1,false),(2,false),(3,true),(4,true)] (by kernel_rfl) (by kernel_rfl) (fun _ _ d _ _ h=>by cases d<;>exact h) ⟨⟨_,(aM _ _).drew⟩,rfl⟩ 7 rfl (by kernel_rfl) ?_;simp only[bG,bz,bA,bu,aS,aT,aU]
  repeat(refine aI (fun K hK=>?_);go_simp;first|(refine hK _ ?_;clear hK K)|(apply Exists.intro;refine⟨fun _=>?_,hK _ ?_⟩;rfl;clear hK K))
  refine aQ ?_;have zA:Below w1.heap.size w1 w1.drew:=(aM _ _).drew;refine az [5,9] (by kernel_rfl) (by simp) ?_;refine ak.cons rfl (fun K hK=>?_) (ak.cons rfl (fun K hK=>?_) ak.nil)
  .refine bD M9 rfl _ _ rfl (vals:=#[.slice ra n rc,ku px py pi,.func (.func 94) #[] #[]]) rfl (F7.out ⟨w1.drew,zA⟩) ?_;rintro e w3 ⟨rfl,hb3⟩;have vY:Below w1.heap.size w1 w3:=zA.trans hb3;refine⟨_,rfl,hK _ _ (fun _ _=>⟨⟨_,vY⟩,rfl⟩) ?_⟩;clear hK K;refine cK [(6,false),(7,false),(8,false)] (by kernel_rfl) (fun _ _ d _ _ h=>by cases d<;>exact h) ⟨⟨_,vY⟩,rfl⟩ (by kernel_rfl) (by kernel_rfl) rfl ?_;simp only[bG,bz,bA,bu,aS,aT,aU]
   repeat(refine aI (fun K hK=>?_);go_simp;first|(refine hK _ ?_;clear hK K)|(apply Exists.intro;refine⟨fun _=>?_,hK _ ?_⟩;rfl;clear hK K))
   refine aQ ?_;have Ls:Hid (Below w1.heap.size w1 (w3.alloc (.cells #[ag (x:Nat)] 3))):=vY.alloc vY.size _;have HLX:=ae (dE w3 (.cells #[ag (x:Nat)] 3));refine az [9] (by kernel_rfl) (by simp) ?_;refine ak.cons rfl (fun K hK=>?_) ak.nil;go_simp;refine hK _ _ (fun _ _=>⟨⟨_,vY.alloc vY.size _⟩,rfl⟩) ?_;clear hK K;refine az [10] (by kernel_rfl) (by simp) ?_;refine ak.cons rfl (fun K hK=>?_) ak.nil;go_simp;refine hK _ _ (fun _ _=>⟨⟨_,Ls.out⟩,rfl⟩) ?_;clear hK K;refine aK [11] _ _ _ (by kernel_rfl) ?_;simp only[pick,bz,bA,bu,aS,aT];clear vY hb3;go_wp2;go_meet;exact⟨_,rfl,rfl,Ls.out,HLX.out⟩
  .obtain⟨w2,kI⟩:∃w2,w2=(w1.alloc (.cells #[ag 0] 3)).drew:=⟨_,rfl⟩;have hb2:Below w1.heap.size w1 w2:=by rw[kI];exact((aM _ _).alloc (aG _) _).drew
   have hx2:w2.heap[w1.heap.size]? =some (.cells #[ag 0] 3 (0,0)):=by rw[kI];exact dE w1 _
   go_simp;rw[<-kI];clear kI;refine hK _ _ (fun _ _=>⟨⟨_,hb2⟩,rfl⟩) ?_;clear hK K;refine az [5] (by kernel_rfl) (by simp) ?_;refine ak.cons rfl (fun K hK=>?_) ak.nil;refine bD M9 rfl _ _ rfl (vals:=#[.slice ra n rc,ku px py pi,.func (.func 94) #[] #[]]) rfl (F7.out ⟨w2,hb2⟩) ?_;rintro e w3 ⟨rfl,hb3⟩;have vY:Below w1.heap.size w1 w3:=hb2.trans (hb3.mono hb2.size);have hx3:=(hb3.block _ (bn.1 hx2).1).trans hx2;refine⟨_,rfl,hK _ _ (fun _ _=>⟨⟨_,vY⟩,rfl⟩) ?_⟩;clear hK K;refine cK [(6,false),(7,false),(8,false)] (by kernel_rfl) (fun _ _ d _ _ h=>by cases d<;>exact h) ⟨⟨_,vY⟩,rfl⟩ (by kernel_rfl) (by kernel_rfl) rfl ?_;simp only[bG,bz,bA,bu,aS,aT,aU]
   repeat(refine aI (fun K hK=>?_);go_simp;first|(refine hK _ ?_;clear hK K)|(apply Exists.intro;refine⟨fun _=>?_,hK _ ?_⟩;rfl;clear hK K))
   refine aQ ?_;have y0:w3.cell? (ah w1.heap.size 0)=some (ag 0):=by simp[World.cell?,hx3]
   have z0:w3.frozen? (ah w1.heap.size 0)=false:=by simp[World.frozen?,hx3]
   have Ls:Hid (Below w1.heap.size w1 (w3.setCell (ah w1.heap.size 0) (.int .i64 (x:Nat)))):=⟨vY.os,vY.tape,vY.output,by simpa using vY.size,fun b hb=>(aH (show w1.heap.size≠b by omega)).trans (vY.block b hb)⟩;have HLX:Hid ((w3.setCell (ah w1.heap.size 0) (.int .i64 (x:Nat))).heap[w1.heap.size]? =some (.cells #[ag (x:Nat)] 3 (0,0))):=dH w3 _ 0 _ _ _ hx3;refine az [10] (by kernel_rfl) (by simp) ?_;refine ak.cons rfl (fun K hK=>?_) ak.nil;go_simp;refine hK _ _ (fun _ _=>⟨⟨_,Ls.out⟩,rfl⟩) ?_;clear hK K;refine aK [11] _ _ _ (by kernel_rfl) ?_;simp only[pick,bz,bA,bu,aS,aT];clear vY hb3 hb2 hx2 hx3 y0 z0;go_wp2;go_meet;exact⟨_,rfl,rfl,Ls.out,HLX.out⟩
 case rest=>
  obtain⟨ab,rfl,rfl,HBx,HAx⟩:=hcut;have hax:=HAx.out;have uY:=HBx.out;have U6:Hid (Below w.heap.size w wc):=fK.out.trans (uY.mono fK.out.size);have a0:wc.cell? (ah ab 0)=some (ag (x:Nat)):=by simp[World.cell?,hax]
  have xE:ab<wc.heap.size:=(bn.1 hax).1;have c0:=(uY.cell (p:=(ah tb 0)) yR).trans c0;have t0:=(uY.cell (p:=(ah tc 0)) aij).trans t0;have p0:=(uY.cell (p:=(ah (tc+1) 0)) Nb).trans p0;have p1:=(uY.cell (p:=(ah (tc+1) 1)) Nb).trans p1;have p2:=(uY.cell (p:=(ah (tc+1) 2)) Nb).trans p2;have FM:tc<wc.heap.size:=bJ aij uY.size;have HMC:Hid (dC wc lo hi tb fb R h cnt V):=HA.out.below U6.out rQ.2.2.2.2;have vS:=HMC.out.blk;have c2:wc.cell? (ah tb 2)=some (ay fb):=by simp[World.cell?,vS]
  obtain⟨b,off,ea,iY,hcs⟩:=(Df.out.below U6.out).get (by have:=HN.out;omega);have r0:=hcs x GD.out 0 (by omega);have r1:=hcs x GD.out 1 (by omega);have r2:=hcs x GD.out 2 (by omega);rw[<-dI GD.out,HP.out]at r0 r1 r2;simp only[fH,aT,aS,eG]at r0 r1 r2;subst ea;have aC9:tb<wc.heap.size:=bJ yR uY.size;clear hcs hax uY vS HA
  go_upto_region 4 with fail
  go_quiet (fail)
  obtain⟨w3,jQ⟩:∃w3,w3=wc.drewN nq:=⟨_,rfl⟩;have hb3:Below wc.heap.size wc w3:=by rw[jQ];exact Below.bP _ _
  have a0:w3.cell? (ah ab 0)=some (ag (x:Nat)):=by rw[jQ];exact a0
  have t0:w3.cell? (ah tc 0)=some (ay tb):=by rw[jQ];exact t0
  have c2:w3.cell? (ah tb 2)=some (ay fb):=by rw[jQ];exact c2
  have Hf:Hid (dC w3 lo hi tb fb R h cnt V):=HMC.out.below hb3 HMC.out.fo.2.2.2.2;have jm:Hid (Below w.heap.size w w3):=U6.out.trans (hb3.mono U6.out.size);have xE:ab<w3.heap.size:=by rw[jQ];exact xE
  have FM:tc<w3.heap.size:=by rw[jQ];exact FM
  go_upto_region 6 with fail
  rw[<-jQ];clear jQ hb3 HMC U6 r0 r1 r2 p0 p1 p2 c0 iY;have zA:Below w3.heap.size w3 w3.drew:=(aM _ _).drew;have CP:=ae (xH lo fb n x V.fv (by omega) hxn w3.drew (by rw[HN.out];exact(Hf.out.below zA Hf.out.fo.2.2.2.2).iT));have g0:=aj t0;have g1:=aj c2;have g2:=aj a0;refine aF (fun W=>∃p:bg w3,W=p.W) [5,6,7,8,9,10] [(0,true),(1,false),(2,false),(3,true),(4,true)] (by kernel_rfl) (by kernel_rfl) (fun _ _ d _ _ h=>by cases d<;>exact h) ⟨⟨_,(aM _ _).drew⟩,rfl⟩ 6 rfl (by kernel_rfl) ?_;simp only[bG,bz,bA,bu,aS,aT,aU]
  repeat(refine aI (fun K hK=>?_);go_simp;first|(refine hK _ ?_;clear hK K)|(apply Exists.intro;refine⟨fun _=>?_,hK _ ?_⟩;rfl;clear hK K))
  refine aQ ?_;refine az [5] (by kernel_rfl) (by simp) ?_;refine ak.cons rfl (fun K hK=>?_) ak.nil;refine bD Zi rfl _ _ rfl (vals:=#[ay fb,ag (x:Nat)]) rfl CP.out ?_;rintro e w4 ⟨pv,rfl,Ec,hb4⟩;have Nc:Below w3.heap.size w3 w4:=zA.trans hb4;refine⟨_,rfl,hK _ _ (fun _ h=>absurd (by simp) h) ?_⟩;clear hK K;refine cK [(6,false),(7,false),(8,false)] (by kernel_rfl) (fun _ _ d _ _ h=>by cases d<;>exact h) ⟨⟨_,Nc⟩,rfl⟩ (by kernel_rfl) (by kernel_rfl) rfl ?_;simp only[bG,bz,bA,bu,aS,aT,aU]
  repeat(refine aI (fun K hK=>?_);go_simp;first|(refine hK _ ?_;clear hK K)|(apply Exists.intro;refine⟨fun _=>?_,hK _ ?_⟩;rfl;clear hK K))
  refine aQ ?_;refine aK [9,10] _ _ _ (by kernel_rfl) ?_;simp only[pick,bz,bA,bu,aS,aT];have Gv:Hid (dC w4 lo hi tb fb R h cnt V):=Hf.out.below Nc Hf.out.fo.2.2.2.2;have kJ:Hid (Below w.heap.size w w4):=jm.out.trans (Nc.mono jm.out.size);have t0:=(Nc.cell (p:=(ah tc 0)) FM).trans t0;have a0:=(Nc.cell (p:=(ah ab 0)) xE).trans a0;have FM:tc<w4.heap.size:=bJ FM Nc.size;have xE:ab<w4.heap.size:=bJ xE Nc.size;obtain⟨P,Qd⟩:∃P,P=(dO 0 n).path 0 x:=⟨_,rfl⟩;rw[<-Qd]at Ec;have hPl:P.length<=n+1:=by
   have h1:=FT.qj (dO 0 n) 0 x;have h2:=xA 0 n n (xn (IG));rw[Qd];omega
  obtain⟨hwT,hlT,hhT⟩:=bT 0 n vE;have hT0:=kH n vE;rw[fQ vE]at hT0;have hPk:∀k∈P,k<(aZ R.length).length:=fun k hk=>by
   rw[Qd]at hk;obtain⟨⟨t,s⟩,YN,ML,-,-⟩:=FT.oo (dO 0 n) 0 x hwT (by omega) (by omega) k hk;have ha:FT.At (aZ n) t s:=by rw[fQ vE];exact FT.lM _ 0 hT0 _ YN
   have:=ha.lt;simp only at ML;rw[<-HN.out];omega
  have hph:=Br (lt:=Cz R) (lb:=Gy R) (dO 0 n) 0 h x hwT (by have:=HW.out.ok (by have:=HN.out;omega);rw[<-HN.out]at this;exact this) (by omega) (by omega);rw[<-Qd]at hph;have V4:pU R h=held h (dO 0 n) 0:=by rw[pE (by have:=HN.out;omega),HN.out]
  have HPH:Hid (((∀k∈P,h k≠some x)->x∉pU R h)/\∀m k:Nat,P[m]? =some k->h k=some x->(∀i<m,∀k',P[i]? =some k'->h k'≠some x)->∃t' s',FT.At (aZ R.length) t' s'/\k=t'.root s'/\Gz R x h=pullH (Gy R) t' s' h/\x∈pU R h):=by
   refine⟨fun h9=>by rw[V4];exact hph.1 h9,fun m k h1 h2 h3=>?_⟩;obtain⟨t',s',q1,q2,q3⟩:=hph.2 m k h1 h2 h3;refine⟨t',s',?_,q2,?_,?_⟩
   .rw[<-HN.out,fQ vE];exact FT.lM _ 0 hT0 _ q1
   .unfold Gz;rw[<-HN.out];exact q3
   .rw[V4];refine FK _ q1 x ?_;obtain⟨L,eL⟩:=qH (t:=t') (s:=s') (h:=h) (by rw[<-q2];exact h2);rw[eL];simp
  obtain⟨pa,pc,rfl,-,-,hrp⟩:=Rd.aL (enc:=fF) Ec;have HPV:Hid (w4.ownsRow w3.heap.size 3 1 (.slice pa P.length pc) P.length (P.map fF)):=bR Ec (aG _);have hs3:w.heap.size<=w3.heap.size:=jm.out.size;have HRP:=ae hrp;have CI:=ae (Zh Gv.out (by have:=HN.out;omega) tc ab x t0 a0 P hPk pa pc hrp (by omega));clear hph V4 hPk Qd hwT hlT hhT hT0 Ec hrp Nc hb4 zA g0 g1 g2 CP Hf jm c2
  go_wp2_with fail
  refine CI.out.mono ?_;rintro e w5 ⟨ri,rfl,o7,anB⟩;have Yx:Hid (dC w5 lo hi tb fb R h cnt V):=Gv.out.below o7 Gv.out.fo.2.2.2.2;have om:Hid (Below w.heap.size w w5):=kJ.out.trans (o7.mono kJ.out.size);have t0:=(o7.cell (p:=(ah tc 0)) FM).trans t0;have FM:tc<w5.heap.size:=bJ FM o7.size;have aik:=ae (au HPV.out o7);clear o7 CI Gv kJ HRP a0 xE;rcases anB with⟨rfl,hnone⟩|⟨j,k,rfl,hjk,PH,Zj⟩
  .have eU:Hid (Qy w lo hi tb fb R h cnt V x (.returned (.bool false)) w5):=.inl ⟨HPH.out.1 hnone,rfl,om.out⟩;clear hnone;go_wp2;go_ret;exact eU.out
  .obtain⟨t',s',q1,q2,q3,q4⟩:=HPH.out.2 j k hjk PH Zj;have jl:j<P.length:=(gD.1 hjk).1;have hPj:P[j]=k:=(gD.1 hjk).2;have F6:=ae q1;have HKK:=ae q2;have MZ:=ae q3;have Di:=ae q4;have ail:=Yx.out.blk;have c5:w5.cell? (ah tb 5)=some (ag cnt):=by simp[World.cell?,ail]
   have z5:w5.frozen? (ah tb 5)=false:=by simp[World.frozen?,ail]
   have e0:decide ((j:Int)<0)=false:=by simp
   have aDb:=Yx.out.KZ;have Wp:j<P.length:=jl;have HPJ:=ae hPj;clear hPj ail q1 q2 q3 q4 hjk PH Zj
   go_upto_region 11 with fail
   obtain⟨w6,rO⟩:∃w6,w6=w5.setCell (ah tb 5) (.int .i64 (cnt-1)):=⟨_,rfl⟩;have HM6:Hid (dC w6 lo hi tb fb R h (cnt-1) V):=by rw[rO];exact Yx.out.Fg (cnt-1)
   have hk6:aC (fun k=>k=tb) w5 w6:=by rw[rO];exact(aC.refl (fun k=>k=tb) w5).set (a:=(ah tb 5)) _ (.inl rfl)
   have lD:Hid (aC (fun k=>lo<=k/\k<hi) w w6):=((aC.refl _ w).below om.out).trans (hk6.mono fun k h=>by subst h;exact⟨rQ.1,rQ.2.1⟩);have auS:tc≠tb:=by have:=HTC.out;omega
   have t0:=((di hk6 FM auS).1 0).trans t0;have FM:tc<w6.heap.size:=bJ FM hk6.size;have adU:=aY aik.out hk6 (fun g e h9=>by have:=(aik.out.lt g e).1;omega);obtain⟨gp,cp,ep,-,-⟩:=bf adU (by omega);rw[ep]at adU;injection ep with ep1 ep2 ep3;have x0:=adU.cellAt j (by omega);rw[iO,dD Wp,HPJ.out]at x0;simp only[aU,fF]at x0;rw[<-rO];subst ep1;clear rO c5 z5 hk6 adU ep2 ep3 Yx om aik HPV Wp
   go_wp2_with fail
   go_loopg [10] t'.size (fun kx s10 wr=>∃(t:FT) (s:Nat) (hc:iU),s10=.int .i64 (t.root s:Nat)/\t.size<=kx/\Hid (FT.At (aZ R.length) t s)/\Hid (dC wr lo hi tb fb R hc (cnt-1) V)/\Hid (pullH (Gy R) t s hc=Gz R x h)/\Hid (∀k i,k<(aZ R.length).length->hc k=some i->i<R.length)/\Hid (aC (fun k=>lo<=k/\k<hi) w wr)/\wr.cell? (ah tc 0)=some (ay tb))
   case atStart=>exact⟨t',s',h,by rw[HKK.out],aG _,F6,HM6,MZ.out.symm,fun k i hk e=>HW.out.pl hk e,lD,t0⟩
   case round=>
    obtain⟨t,s,hc,rfl,PH,HAr,vD,HPr,HLr,Wo,tr⟩:=hrel;have CL:=ae (M8 vD.out (by have:=HN.out;omega) HAr.out HLr.out);have hps:=U5 (lb:=Gy R) (h:=hc) HAr.out;have gU:=HAr.out.lt;have aDh:=vD.out.KZ;have Zk:tc<wr.heap.size:=iD wr _ tr;rcases hps with⟨e1,e2⟩|⟨t2,s2,i,e1,e2,e3,e4,e5⟩
    .rw[e1]at CL;have PN:=ae e2;clear e1 e2
     go_wp2_with fail
     refine CL.out.mono ?_;rintro e w7 ⟨rfl,uL⟩;have Ht:Hid (dC w7 lo hi tb fb R hc (cnt-1) V):=vD.out.below uL vD.out.fo.2.2.2.2;have sw:Hid (aC (fun k=>lo<=k/\k<hi) w w7):=Wo.out.below uL;have t7:=(uL.cell (p:=(ah tc 0)) Zk).trans tr;obtain⟨gh,ch,rV,hg1,hg2,-,-,FE,hcs,-⟩:=Ht.out.holds (by have:=HN.out;omega);obtain⟨y0,z0⟩:=hcs _ gU;have Qz:=Ht.out.blk;rw[rV]at Qz;have c4:w7.cell? (ah tb 4)=some (aD gh (aZ R.length).length ch):=by simp[World.cell?,Qz]
     have eU:Hid (Qy w lo hi tb fb R h cnt V x (.returned (.bool true)) (w7.setCell (ah gh (t.root s)) (.int .i64 (-1)))):=by
      refine .inr ⟨Di.out,rfl,?_,sw.out.set (a:=(ah gh (t.root s))) _ (.inl ⟨hg1,hg2⟩)⟩;have:=Ht.out.pF rV gU none;rw[<-PN.out,HPr.out]at this;exact this
     clear uL Qz hcs rV Ht sw CL tr Zk;generalize t.root s=kr at*;generalize(aZ R.length).length=M at*;go_wp2;go_ret;exact eU.out
    .rw[e1]at CL;have PN:=ae e5;have HA2:=ae e2;have HSZ:=ae e3;have HE4:=ae e4;have Uw:=e2.lt;clear e1 e2 e3 e4 e5
     go_wp2_with fail
     refine CL.out.mono ?_;rintro e w7 ⟨rfl,uL⟩;have Ht:Hid (dC w7 lo hi tb fb R hc (cnt-1) V):=vD.out.below uL vD.out.fo.2.2.2.2;have sw:Hid (aC (fun k=>lo<=k/\k<hi) w w7):=Wo.out.below uL;have t7:=(uL.cell (p:=(ah tc 0)) Zk).trans tr;have auV:tc<w7.heap.size:=bJ Zk uL.size;obtain⟨gh,ch,rV,hg1,hg2,-,-,FE,hcs,-⟩:=Ht.out.holds (by have:=HN.out;omega);obtain⟨y0,z0⟩:=hcs _ gU;obtain⟨y1,-⟩:=hcs _ Uw;rw[HE4.out]at y1;simp only[pV]at y1;have Qz:=Ht.out.blk;rw[rV]at Qz;have c4:w7.cell? (ah tb 4)=some (aD gh (aZ R.length).length ch):=by simp[World.cell?,Qz]
     have aDi:=Ht.out.KZ;have hiR:=HLr.out _ i Uw HE4.out;have eU:Hid (∀wz,wz=w7.drew.setCell (ah gh (t.root s)) (.int .i64 (i:Nat))->dC wz lo hi tb fb R (gN hc (t.root s) (some i)) (cnt-1) V/\aC (fun k=>lo<=k/\k<hi) w wz/\wz.cell? (ah tc 0)=some (ay tb)):=fun wz ez=>by
      subst ez;have zA:Below w7.heap.size w7 w7.drew:=(aM _ _).drew;have hmd:=Ht.out.below zA Ht.out.fo.2.2.2.2;refine⟨hmd.pF rV gU (some i),(sw.out.below zA).set (a:=(ah gh (t.root s))) _ (.inl ⟨hg1,hg2⟩),?_⟩;have hk9:aC (fun k=>k=gh) w7.drew (w7.drew.setCell (ah gh (t.root s)) (.int .i64 (i:Nat))):=(aC.refl (fun k=>k=gh) _).set (a:=(ah gh (t.root s))) _ (.inl rfl);exact((di hk9 (show tc<w7.drew.heap.size from auV) (by have:=HTC.out;omega)).1 0).trans t7
     have HLN:Hid (∀k j,k<(aZ R.length).length->gN hc (t.root s) (some i) k=some j->j<R.length):=fun k j hk hj=>by
      by_cases e:k=t.root s
      .subst e;rw[gB]at hj;injection hj with hj;omega
      .rw[iM e]at hj;exact HLr.out k j hk hj
     have HPN:Hid (pullH (Gy R) t2 s2 (gN hc (t.root s) (some i))=Gz R x h):=by
      show _=_;rw[<-PN.out];exact HPr.out
     clear uL Qz hcs rV Ht sw CL tr Zk PN HE4 HLr HPr;obtain⟨kr,Dg⟩:∃kr,kr=t.root s:=⟨_,rfl⟩;obtain⟨k2,hk2⟩:∃k2,k2=t2.root s2:=⟨_,rfl⟩;obtain⟨M,hM⟩:∃M,M=(aZ R.length).length:=⟨_,rfl⟩;rw[<-Dg]at y0 z0 gU eU HPN HLN |-;rw[<-hk2]at y1 Uw |-;rw[<-hM]at c4 gU Uw;have vR:=ae hk2;have HKR:=ae Dg;clear Dg hk2 hM;have g0:=aj t7;have g1:=aj c4;have g2:=aj y1
     go_upto_region 16 with fail
     refine aF (fun W=>∃p:bg w7,W=p.W) [12,13] [(0,true),(1,false),(2,false),(3,true),(4,false),(5,true),(6,false),(7,false),(8,true),(9,false),(10,false),(11,true)] (by kernel_rfl) (by kernel_rfl) (fun _ _ d _ _ h=>by cases d<;>exact h) ⟨⟨_,(aM _ _).drew⟩,rfl⟩ 2 rfl (by kernel_rfl) ?_;simp only[bG,bz,bA,bu,aS,aT,aU]
     repeat(refine aI (fun K hK=>?_);go_simp;first|(refine hK _ ?_;clear hK K)|(apply Exists.intro;refine⟨fun _=>?_,hK _ ?_⟩;rfl;clear hK K))
     refine aQ ?_;refine aK [12,13] _ _ _ (by kernel_rfl) ?_;simp only[pick,bz,bA,bu,aS,aT];have y0:w7.drew.cell? (ah gh kr)=some (ag (pV (hc kr))):=y0;have z0:w7.drew.frozen? (ah gh kr)=false:=z0;clear g0 g1 g2 y1 t7 c4;generalize w7.drew=w8 at*;go_wp2
     go_roundg (t2.size)
     case measure=>have:=HSZ.out;omega
     case rel=>
      obtain⟨f1,f2,f3⟩:=eU.out _ rfl;exact⟨t2,s2,_,by rw[vR.out],aG _,HA2,f1,HPN,HLN,f2,f3⟩
theorem U7 {P:Program} {ops:Array Oper} {rest:List Oper} {op:Oper} {a:Act} {Q:Exit->Act->World->Prop} {α:Type} {enc:α->Value} {t e:TypeId} {bytes:Nat} (E:eQ P t e 1 bytes) {W:World} {ad:Option Addr} {l:List α} {c n:Nat} (hl:Rd enc W ad l) (hn:l.length=n) (hc:n<=c) (lo hi:Nat) (h1:lo<=hi) (h2:hi<=n)
  (hgd:op.guard=none) (x:Operand) (low high:Option Operand) (ho:op.op=.slice t x low high none) (hx:a.eval x=.slice ad n c)
  (nY:(low.map a.eval).getD (.int .i64 0)=.int .i64 lo) (gI:(high.map a.eval).getD (.int .i64 n)=.int .i64 hi)
  (h:∀Ep,dU (fun x=>[enc x]) 1 W Ep ((l.take hi).drop lo)->wpList P ops Q rest (a.put op.dst (.slice Ep (hi-lo) (c-lo))) W):wpList P ops Q (op::rest) a W:=by
 subst hn;exact TI E hl.toK hc lo hi h1 h2 hgd x low high ho hx nY gI h
theorem Rd.ofK {α:Type} {enc:α->Value} {w:World} {a:Option Addr} {l:List α} (h:dU (fun x=>[enc x]) 1 w a l):Rd enc w a l:=by
 rcases h with h|⟨b,off,rfl,hb,hc⟩
 .exact .inl h
 .exact .inr ⟨b,off,rfl,hb,fun i hi=>by simpa using hc i hi 0 (by omega)⟩
def Off (a:Option Addr) (v:Value):Prop:=∀ad,a=some ad->v.ownBlock≠some ad.block
def FN (W:World) (lo hi tb fb:Nat) (R:List Pt) (h':iU) (cnt:Int) (V:oF) (e:Ending) (w':World):Prop:=
 e=.returned (.tuple #[])/\dC w' lo hi tb fb R h' cnt V/\aC (fun k=>V.hv.ownBlock=some k) W w'
theorem sD (p:Nat->Bool) (L:List Nat) {i:Nat} (h:i<L.length):(L.take (i+1)).filter p=(L.take i).filter p++(if p L[i]then[L[i]]else[]):=by
 rw[fG h,mU];congr 1;rw[mV];split<;>rfl
theorem FO {lo hi tb fb:Nat} {R:List Pt} {cnt:Int} {V:oF} (hR:R.length<=20000) (t:FT) (s:Nat) (ha:FT.At (aZ R.length) t s) (hw:t.wf) (hhi:t.hi<=R.length) (L:List Nat) (W:World) (h:iU) (pa:Option Addr) (pc:Nat)
  (H:dC W lo hi tb fb R h cnt V) (hp:Rd fF W pa L) (hlen:L.length<=20000) (Cx:L.length<=pc) (anD:Off pa V.hv) (anE:∀i∈L,i<=1000000)
  (Jm:∀l r,t=.node l r->(∀(L:List Nat) (W:World) (h:iU) (pa:Option Addr) (pc:Nat),dC W lo hi tb fb R h cnt V->Rd fF W pa L->L.length<=20000->L.length<=pc->Off pa V.hv->(∀i∈L,i<=1000000)->
    aO 101 #[ay tb,ag (l.root s:Nat),.slice pa L.length pc] W (FN W lo hi tb fb R (fillH l s L h) cnt V))/\
    ∀(L:List Nat) (W:World) (h:iU) (pa:Option Addr) (pc:Nat),dC W lo hi tb fb R h cnt V->Rd fF W pa L->L.length<=20000->L.length<=pc->Off pa V.hv->(∀i∈L,i<=1000000)->
    aO 101 #[ay tb,ag (r.root (s+l.size):Nat),.slice pa L.length pc] W (FN W lo hi tb fb R (fillH r (s+l.size) L h) cnt V)):
  aO 101 #[ay tb,ag (t.root s:Nat),.slice pa L.length pc] W (FN W lo hi tb fb R (fillH t s L h) cnt V):=by
 have gU:=ha.lt;have h0:0<R.length:=by have:=t.fe hw;omega
 cases L with
 |nil=>
  rw[Bp];have HQ:Hid (FN W lo hi tb fb R h cnt V (.returned (.tuple #[])) W):=⟨rfl,H,aC.refl _ _⟩;clear H hp Jm;simp only[iG];go_enter Tryz.func101,Tryz.ntmps101;go_wp2
  go_end0
  exact HQ.out
 |cons i L=>
  obtain⟨gn,off,cn,env,M7⟩:=H.nodes h0;obtain⟨gh,ch,rV,hg1,hg2,-,-,FE,hcs,-⟩:=H.holds h0;obtain⟨y0,z0⟩:=hcs _ gU;have hb':=H.blk;rw[env,rV]at hb';have c4:W.cell? (ah tb 4)=some (aD gh (aZ R.length).length ch):=by simp[World.cell?,hb']
  obtain⟨b,o,ea,hbl,NS⟩:=hp.get (by simp);have x0:=NS 0 (by simp);simp only[wM,fF,eG]at x0;have hne:b≠gh:=fun e=>by
   have:=anD _ ea;rw[rV]at this;exact this (by rw[e];rfl)
  obtain⟨w1,fJ⟩:∃w1,w1=W.drew.setCell (ah gh (t.root s)) (.int .i64 (i:Nat)):=⟨_,rfl⟩;have ru:aC (fun k=>k=gh) W w1:=by rw[fJ];exact((aC.refl (fun k=>k=gh) W).drew).set (a:=(ah gh (t.root s))) _ (.inl rfl)
  have EZ:Hid (dC w1 lo hi tb fb R (gN h (t.root s) (some i)) cnt V):=by
   rw[fJ];exact(H.below (aM W.heap.size W).drew H.fo.2.2.2.2).pF rV gU (some i)
  have nL:Hid (aC (fun k=>V.hv.ownBlock=some k) W w1):=ru.mono fun k e=>by subst e;rw[rV];rfl
  have FI:Rd fF w1 (some (ah b o)) (i::L):=.inr ⟨b,o,rfl,bJ hbl ru.size,fun j hj=>((di ru hbl hne).1 _).trans (NS j hj)⟩;have NR:=ae FI;have aim:=ae anE;have Jn:=ae Jm;have F6:=ae ha;have HG:=ae rV;have N7:=ae hw;have hM:(aZ R.length).length<=40000:=by rw[dA];omega
  simp only[fU]at hlen Cx |-;have d0:(((L.length+1:Nat):Int)==0)=false:=by first|(simp;done)|(simp;omega)
  subst ea;clear hcs hb' env rV H hp NS anD anE Jm ru FI ha M7 hw;obtain⟨n,hn⟩:∃n,n=L.length:=⟨_,rfl⟩;have HN:=ae hn;rw[<-hn]at hlen Cx d0 |-;obtain⟨K,hK⟩:∃K,K=t.root s:=⟨_,rfl⟩;have HK:=ae hK;obtain⟨M,La⟩:∃M,M=(aZ R.length).length:=⟨_,rfl⟩;have Ey:=ae La;rw[<-hK]at y0 z0 gU fJ |-;rw[<-La]at c4 gU hM;clear hn hK La;have g0:=aj c4;have g1:=aj x0;go_enter Tryz.func101,Tryz.ntmps101
  go_upto_region 1 with fail
  refine aF (fun W'=>∃p:bg W,W'=p.W) [8,9] [(0,false),(1,false),(2,false),(3,true),(4,false),(5,false),(6,false),(7,true)] (by kernel_rfl) (by kernel_rfl) (fun _ _ d _ _ h=>by cases d<;>exact h) ⟨⟨_,(aM _ _).drew⟩,rfl⟩ 2 rfl (by kernel_rfl) ?_;simp only[bG,bz,bA,bu,aS,aT,aU]
  repeat(refine aI (fun K hK=>?_);go_simp;first|(refine hK _ ?_;clear hK K)|(apply Exists.intro;refine⟨fun _=>?_,hK _ ?_⟩;rfl;clear hK K))
  refine aQ ?_;refine aK [8,9] _ _ _ (by kernel_rfl) ?_;simp only[pick,bz,bA,bu,aS,aT];have y0:W.drew.cell? (ah gh K)=some (ag (pV (h K))):=y0;have z0:W.drew.frozen? (ah gh K)=false:=z0;clear g0 g1 c4 x0
  go_upto_region 2 with fail
  rw[show(W.setCell (ah gh K) (.int .i64 (i:Nat))).drew=w1 by rw[fJ];rfl];clear fJ y0 z0;obtain⟨gn,off,cn,env,M7⟩:=EZ.out.nodes h0;have hb1:=EZ.out.blk;rw[env]at hb1;have c3:w1.cell? (ah tb 3)=some (.slice (some (ah gn off)) M cn):=by simp[World.cell?,hb1];exact Ey.out.symm
  obtain⟨Rm,n0,n1,n2,n3,n4,n5,n6⟩:=nW M7 F6.out.get;rw[<-HK.out]at n0 n1 n2 n3 n4 n5 n6;have yR:=EZ.out.KZ;have HRN:=ae M7;obtain⟨d,hd⟩:∃d,d=t.top s:=⟨_,rfl⟩;rw[<-hd]at n0 n1 n2 n3 n4 n6;have HD:=ae hd;clear hd;obtain⟨w2,kI⟩:∃w2,w2=w1.alloc (.cells #[.int .u8 d.kind,ag d.l,ag d.r,ag d.fr,ag d.Ri,ag 0,ag d.item] 163):=⟨_,rfl⟩;have hb2:Below w1.heap.size w1 w2:=by rw[kI];exact(aM _ _).alloc (aG _) _
  have hx2:w2.heap[w1.heap.size]? =some (.cells #[.int .u8 d.kind,ag d.l,ag d.r,ag d.fr,ag d.Ri,ag 0,ag d.item] 163 (0,0)):=by rw[kI];exact dE w1 _
  have x0:w2.cell? (ah w1.heap.size 0)=some (.int .u8 d.kind):=by simp[World.cell?,hx2]
  have x1:w2.cell? (ah w1.heap.size 1)=some (ag d.l):=by simp[World.cell?,hx2]
  have x2:w2.cell? (ah w1.heap.size 2)=some (ag d.r):=by simp[World.cell?,hx2]
  have q3:=(hb2.cell (p:=(ah tb 3)) yR).trans c3;have nD:w1.heap.size<w2.heap.size:=(bn.1 hx2).1;have fP:=ae hb2;have vT:Hid (dC w2 lo hi tb fb R (gN h (t.root s) (some i)) cnt V):=EZ.out.below hb2 EZ.out.fo.2.2.2.2;have vR:Hid (aC (fun k=>V.hv.ownBlock=some k) W w2):=nL.out.below hb2;have V5:Hid (Rd fF w2 (some (ah b o)) (i::L)):=NR.out.below hb2;clear env M7 hb1 hb2 hx2
  go_upto_region 3 with fail
  rw[<-kI];clear kI n0 n1 n2 n3 n4 n5 n6 c3;cases t with
  |leaf a=>
   have d1:(d.kind !=(2:Int))=true:=by rw[HD.out];rfl
   have eU:Hid (FN W lo hi tb fb R (fillH (.leaf a) s (i::L) h) cnt V (.returned (.tuple #[])) w2):=⟨rfl,vT.out,vR.out⟩;clear x1 x2 Jn;go_wp2
   go_end0
   exact eU.out
  |node l r=>
   have d1:(d.kind !=(2:Int))=false:=by rw[HD.out];rfl
   have uy:=F6.out.left.lt;have ym:=F6.out.right.lt;have zM:d.l=((l.root s:Nat):Int):=by rw[HD.out];show((s+l.size:Nat):Int)-1=_;unfold FT.root;have:=l.size_pos;omega
   have hdr:d.r=((r.root (s+l.size):Nat):Int):=by rw[HD.out];show((s+l.size+r.size:Nat):Int)-1=_;unfold FT.root;have:=r.size_pos;omega
   rw[zM]at x1;rw[hdr]at x2;obtain⟨U2,U3⟩:=Jn.out l r rfl;have EB:=ae U2;have kV:=ae U3;obtain⟨m0,m1,m2,m3,m4,m5,m6,m7⟩:=nW (HRN.out.below fP.out) F6.out.left.get;rw[FT.xB]at m5;have hlh:=N7.out;have alA:l.hi<=20000:=by
    have:=FT.fe r hlh.2.1;have h3:(FT.node l r).hi=r.hi:=rfl;have:=hlh.2.2;omega
   have HLM:Hid (∃mid,mid=l.hi):=⟨_,rfl⟩;rw[<-Ey.out]at uy ym;clear zM hdr U2 U3 Jn m1 m2 m3 m4 m6 m7 hlh HRN;have MZ:Hid (fillH (.node l r) s (i::L) h=fillH r (s+l.size) (L.filter fun j=>!decide (j<l.hi)) (fillH l s (L.filter fun j=>decide (j<l.hi)) (gN h ((FT.node l r).root s) (some i)))):=rfl;obtain⟨mid,hmd⟩:∃mid,mid=l.hi:=⟨_,rfl⟩;obtain⟨kl,anF⟩:∃kl,kl=l.root s:=⟨_,rfl⟩;obtain⟨kr,anG⟩:∃kr,kr=r.root (s+l.size):=⟨_,rfl⟩;rw[<-hmd]at m5 alA MZ;rw[<-anF]at m5 x1 EB uy;rw[<-anG]at x2 kV ym;clear hmd anF anG HLM
   go_upto_region 5 with fail
   have sM:(i::L).length=n+1:=by simp[HN.out]
   have Ez:=ae sM;clear sM
   go_wp2_with (refine U7 oU V5.out Ez.out Cx 1 (n+1) (by omega) (aG _) rfl _ _ _ rfl rfl rfl rfl ?_;intro Ep hr;simp only[Nat.add_sub_cancel])
   have hLr:Rd fF w2 Ep L:=by
    have h9:=Rd.ofK hr;rw[<-Ez.out,mW]at h9;exact h9
   have HLR:=ae hLr;clear hr hLr;obtain⟨nw,Sk⟩:∃nw,nw=w1.heap.size:=⟨_,rfl⟩;have anH:gh<w1.heap.size:=bJ FE nL.out.size;rw[<-Sk]at x0 x1 x2 nD anH |-;clear Sk;have Ue:tb<w2.heap.size:=vT.out.KZ;have alS:gn<w2.heap.size:=bJ Rm fP.out.size;have amK:hi<=w2.heap.size:=vT.out.fo.2.2.2.2
   go_loopg [7,8,36] n (fun kx s7 s8 s36 wr=>∃(j:Nat) (va vb:Value),s36=.int .i64 j/\s7=va/\s8=vb/\j<=n/\n-j<=kx/\Hid (Below w2.heap.size w2 wr)/\
    Hid (wr.ownsRow w2.heap.size 3 1 va ((L.take j).filter fun k=>decide (k<mid)).length (((L.take j).filter fun k=>decide (k<mid)).map fF))/\
    Hid (wr.ownsRow w2.heap.size 3 1 vb ((L.take j).filter fun k=>!decide (k<mid)).length (((L.take j).filter fun k=>!decide (k<mid)).map fF))/\Hid (∀g,va.ownBlock=some g->vb.ownBlock≠some g))
   case atStart=>exact⟨0,_,_,rfl,rfl,rfl,bC _,by omega,aM _ _,dL _ _ _ _,dL _ _ _ _,fun g h=>by cases h⟩
   case round=>
    obtain⟨j,va,vb,rfl,rfl,rfl,hj,PH,Nf,Oe,HOb,vP⟩:=hrel;obtain⟨aa,ca,rfl⟩:=fI Oe.out;obtain⟨ab,cb,rfl⟩:=fI HOb.out;by_cases hlt:j<n
    .have jl:j<L.length:=by have:=HN.out;omega
     obtain⟨b',o',ea,auW,hcs⟩:=(HLR.out.below Nf.out).get (by omega);have xj:=hcs j jl;simp only[fF]at xj;have Wl:=ae (sD (fun k=>decide (k<mid)) L jl);have HT2:=ae (sD (fun k=>!decide (k<mid)) L jl);have hkb:=aim.out L[j] (lU _ (bW jl));obtain⟨k,hk⟩:∃k,k=L[j]:=⟨_,rfl⟩;rw[<-hk]at xj Wl HT2 hkb;have VV:((L.take j).filter fun k=>decide (k<mid)).length<=n:=bO (gG _ _) (by rw[eF];omega);have Sl:((L.take j).filter fun k=>!decide (k<mid)).length<=n:=bO (gG _ _) (by rw[eF];omega);generalize(L.take j).filter (fun k=>decide (k<mid))=A at*;generalize(L.take j).filter (fun k=>!decide (k<mid))=B at*;have q3:=(Nf.out.cell (p:=(ah tb 3)) Ue).trans q3;have x1:=(Nf.out.cell (p:=(ah nw 1)) nD).trans x1;have m5:=(Nf.out.cell (p:=(ah gn (off+kl*7+4))) alS).trans m5;have EA:=ae ea;clear hcs hk ea;obtain⟨nA,hnA⟩:∃nA,nA=A.length:=⟨_,rfl⟩;obtain⟨nB,hnB⟩:∃nB,nB=B.length:=⟨_,rfl⟩;rw[<-hnA]at VV Oe vP |-;rw[<-hnB]at Sl HOb vP |-;have HNA:Hid (nA=A.length/\nB=B.length):=⟨hnA,hnB⟩;clear hnA hnB;have F:∀q,Below w2.heap.size w2 (wr.drewN q)/\(wr.drewN q).ownsRow w2.heap.size 3 1 (.slice aa nA ca) nA (A.map fF)/\(wr.drewN q).ownsRow w2.heap.size 3 1 (.slice ab nB cb) nB (B.map fF)/\w2.heap.size<=(wr.drewN q).heap.size:=fun q=>
      ⟨Nf.out.trans ((Below.bP _ q).mono Nf.out.size),Oe.out.bP q,HOb.out.bP q,Nf.out.size⟩
     have HF:=ae F;clear F;obtain rfl:=EA.out;clear EA Oe HOb jl;by_cases hkm:k<mid
     .have e1:decide ((k:Int)<(mid:Int))=true:=by simp;omega
      have e2:decide (k<mid)=true:=by simp;omega
      rw[e2]at Wl HT2
      go_upto_region 8 with fail
      go_quiet (fail)
      obtain⟨f1,f2,f3,f4⟩:=HF.out nq;have om:=ae f1;have QB:=ae f2;have QC:=ae f3;obtain⟨w5,JH⟩:∃w5,w5=wr.drewN nq:=⟨_,rfl⟩;rw[<-JH]at om QB QC f4 |-;clear JH f1 f2 f3 HF q3 x1 m5 xj
      go_wp2_with (at_builtin;refine cz oU w2.heap.size QB.out [.int .i64 k] rfl (by simp[Value.oneCell']) rfl _ _ rfl rfl _ rfl (by unfold maxLen;omega) (by omega) f4 ?_;intro v' w6 hown' hg hblk)
      go_roundg (n-(j+1))
      case measure=>omega
      case rel=>
       have yJ:∀g,(Value.slice ab nB cb).ownBlock=some g->(Value.slice aa nA ca).ownBlock≠some g:=fun g h1 h2=>vP.out g h2 h1;have K:aC (fun q=>(Value.slice aa nA ca).ownBlock=some q) w5 w6:=(aC.refl _ w5).grown hg (fun q hq=>.inl hq);refine⟨j+1,v',_,by go_num,rfl,rfl,by omega,aG _,eH om.out QB.out hg om.out.size (aG _),?_,?_,?_⟩
       .show World.ownsRow _ _ _ _ _ _ _;rw[Wl.out];simp only[gV];rw[dh,bF,<-HNA.out.1];exact hown'
       .show World.ownsRow _ _ _ _ _ _ _;rw[HT2.out];simp only[D8,rY,jU,jD];rw[<-HNA.out.2];exact aY QC.out K (fun g h1 h2=>yJ g h1 h2)
       .intro g e h9;rcases gm hblk with h8|⟨q,h8,h7⟩
        .exact yJ g h9 (h8▸e)
        .rw[h8]at e;injection e with e;have:=(QC.out.lt g h9).2;omega
     .have e1:decide ((k:Int)<(mid:Int))=false:=by simp;omega
      have e2:decide (k<mid)=false:=by simp;omega
      rw[e2]at Wl HT2
      go_upto_region 8 with fail
      go_quiet (fail)
      obtain⟨f1,f2,f3,f4⟩:=HF.out nq;have om:=ae f1;have QB:=ae f2;have QC:=ae f3;obtain⟨w5,JH⟩:∃w5,w5=wr.drewN nq:=⟨_,rfl⟩;rw[<-JH]at om QB QC f4 |-;clear JH f1 f2 f3 HF q3 x1 m5 xj
      go_wp2_with (at_builtin;refine cz oU w2.heap.size QC.out [.int .i64 k] rfl (by simp[Value.oneCell']) rfl _ _ rfl rfl _ rfl (by unfold maxLen;omega) (by omega) f4 ?_;intro v' w6 hown' hg hblk)
      go_roundg (n-(j+1))
      case measure=>omega
      case rel=>
       have K:aC (fun q=>(Value.slice ab nB cb).ownBlock=some q) w5 w6:=(aC.refl _ w5).grown hg (fun q hq=>.inl hq);refine⟨j+1,_,v',by go_num,rfl,rfl,by omega,aG _,eH om.out QC.out hg om.out.size (aG _),?_,?_,?_⟩
       .show World.ownsRow _ _ _ _ _ _ _;rw[Wl.out];simp only[rY,jU,jD];rw[<-HNA.out.1];exact aY QB.out K (fun g h1 h2=>vP.out g h1 h2)
       .show World.ownsRow _ _ _ _ _ _ _;rw[HT2.out];simp only[Bool.not_false,gV];rw[dh,bF,<-HNA.out.2];exact hown'
       .intro g e h9;rcases gm hblk with h8|⟨q,h8,h7⟩
        .exact vP.out g e (h8▸h9)
        .rw[h8]at h9;injection h9 with h9;have:=(QB.out.lt g e).2;omega
    .obtain rfl:j=n:=by omega
     have hTK:L.take j=L:=by rw[HN.out,mW]
     rw[hTK]at Oe HOb vP |-;have Yx:Hid (dC wr lo hi tb fb R (gN h ((FT.node l r).root s) (some i)) cnt V):=vT.out.below Nf.out amK;have mo:Hid (aC (fun k=>V.hv.ownBlock=some k) W wr):=vR.out.below Nf.out;have hbA:∀k∈L.filter (fun k=>decide (k<mid)),k<=1000000:=fun k hk=>aim.out k (lU _ (bQ.1 hk).1);have hbB:∀k∈L.filter (fun k=>!decide (k<mid)),k<=1000000:=fun k hk=>aim.out k (lU _ (bQ.1 hk).1);have VV:(L.filter fun k=>decide (k<mid)).length<=j:=bO (gG _ _) (by rw[HN.out];exact aG _);have Sl:(L.filter fun k=>!decide (k<mid)).length<=j:=bO (gG _ _) (by rw[HN.out];exact aG _);generalize L.filter (fun k=>decide (k<mid))=A at*;generalize L.filter (fun k=>!decide (k<mid))=B at*;have x1:=(Nf.out.cell (p:=(ah nw 1)) nD).trans x1;have x2:=(Nf.out.cell (p:=(ah nw 2)) nD).trans x2;have su:nw<wr.heap.size:=bJ nD Nf.out.size;obtain⟨aA,cA,eA,-,hcA,hrA⟩:=Rd.aL (enc:=fF) Oe.out;injection eA with eA1 eA2 eA3;subst eA1 eA3;have aDm:gh<w2.heap.size:=xq anH nD;have Zl:∀{v:Value} {m:Nat} {X:List Value} {a:Option Addr} {n' c':Nat} {w':World},w'.ownsRow w2.heap.size 3 1 v m X->v=.slice a n' c'->Off a V.hv:=fun{v m X a n' c' w'} h1 h2 ad e h3=>by
      subst h2 e;rcases h1.2 with⟨h4,-⟩|⟨g,cap,cur,h4,h5,-⟩
      .cases h4
      .injection h4 with h4;injection h4 with h4;subst h4;rw[HG.out]at h3;injection h3 with h3;simp only at h3;omega
     have C1:=ae (EB.out A wr _ aa ca Yx.out hrA (by omega) hcA (Zl Oe.out rfl) hbA);have HHB:=ae hbB;have HOF:Hid (Off ab V.hv):=Zl HOb.out rfl;clear hTK hrA Oe Zl hbA hbB EB m5 q3 eA2;obtain⟨nA,hnA⟩:∃nA,nA=A.length:=⟨_,rfl⟩;rw[<-hnA]at C1 hcA VV vP |-;clear hnA
     go_wp2_with fail
     refine C1.out.mono ?_;rintro e w6 ⟨rfl,hM6,NY⟩;have hng:¬V.hv.ownBlock=some nw:=fun e=>by
      rw[HG.out]at e;have e:gh=nw:=I6 e;omega
     have x2:=((di NY su hng).1 2).trans x2;have anK:=aY HOb.out NY (fun g h1 h2=>by
      rw[HG.out]at h2;have h2:gh=g:=I6 h2;have:=(HOb.out.lt g h1).1;omega)
     obtain⟨aB,cB,eB,-,hcB,hrB⟩:=Rd.aL (enc:=fF) anK;injection eB with eB1 eB2 eB3;subst eB1 eB3;have C2:=ae (kV.out B w6 _ ab cb hM6 hrB (by omega) hcB HOF.out HHB.out);have lD:Hid (aC (fun k=>V.hv.ownBlock=some k) W w6):=mo.out.trans NY;clear anK hrB hM6 NY hng C1 kV HOb eB2;obtain⟨nB,hnB⟩:∃nB,nB=B.length:=⟨_,rfl⟩;rw[<-hnB]at C2 hcB Sl vP |-;clear hnB
     go_wp2_with fail
     refine C2.out.mono ?_;rintro e w7 ⟨rfl,hM7,Ng⟩;have eU:Hid (FN W lo hi tb fb R (fillH (.node l r) s (i::L) h) cnt V (.returned (.tuple #[])) w7):=by
      rw[MZ.out];exact⟨rfl,hM7,lD.out.trans Ng⟩
     clear hM7 Ng;go_wp2
     go_end0
     exact eU.out
theorem U8 {lo hi tb fb:Nat} {R:List Pt} {cnt:Int} {V:oF} (hR:R.length<=20000):∀(t:FT) (s:Nat),FT.At (aZ R.length) t s->t.wf->t.hi<=R.length->∀(L:List Nat) (W:World) (h:iU) (pa:Option Addr) (pc:Nat),
  dC W lo hi tb fb R h cnt V->Rd fF W pa L->L.length<=20000->L.length<=pc->Off pa V.hv->(∀i∈L,i<=1000000)->
  aO 101 #[ay tb,ag (t.root s:Nat),.slice pa L.length pc] W (FN W lo hi tb fb R (fillH t s L h) cnt V):=by
 intro t
 induction t with
 |leaf a=>exact fun s ha hw hh L W h pa pc H hp h1 h2 h3 h4=>FO hR _ s ha hw hh L W h pa pc H hp h1 h2 h3 h4 (fun l r e=>by cases e)
 |node l r il ir=>
  intro s ha hw hh L W h pa pc H hp h1 h2 h3 h4;refine FO hR _ s ha hw hh L W h pa pc H hp h1 h2 h3 h4 fun l' r' e=>?_;cases e;have k1:=FT.fe r hw.2.1;have k2:=hw.2.2;have k3:(FT.node l r).hi=r.hi:=rfl;exact⟨fun L W h pa pc H hp h1 h2 h3 h4=>il s ha.left hw.1 (by omega) L W h pa pc H hp h1 h2 h3 h4,fun L W h pa pc H hp h1 h2 h3 h4=>ir _ ha.right hw.2.1 (by omega) L W h pa pc H hp h1 h2 h3 h4⟩
theorem Nh:∃i,Tryz.prog.info? 3=some i/\i.zero=some (.int .i64 0)/\i.size=1/\i.bytes=8:=by
 have h:(Tryz.prog.info? 3).map (fun i=>(i.zero,i.size,i.bytes))=some (some (.int .i64 0),1,8):=by kernel_rfl
 cases hi:Tryz.prog.info? 3 with
 |none=>rw[hi]at h;cases h
 |some i=>rw[hi]at h;injection h with h;injection h with h1 h2;injection h2 with h2 h3;exact⟨i,rfl,h1,h2,h3⟩
theorem Ni:(Tryz.prog.info? 3).map (·.size)=some 1:=by
 obtain⟨i,h1,h2,h3,h4⟩:=Nh;rw[h1];simp[h3]
theorem Sm (n:Nat) (hn:n<=1000000) (W:World):(Instr.makeSlice 148 (.int .i64 n) (.int .i64 n)).run Tryz.prog W=.ok (aD W.heap.size n n) (W.alloc (.cells (madeCells #[ag 0] n) 3)):=by
 obtain⟨i,hi,hz,hs,hb⟩:=Nh;have h:=run_make (P:=Tryz.prog) W 148 3 i (.int .i64 0) zT hi hz .i64 .i64 n n (by omega) (Int.le_refl _) (by rw[hb];omega) (by omega);rw[h,iF,hs,lC];rfl
theorem FP (W:World) (n:Nat):(W.alloc (.cells (madeCells #[ag 0] n) 3)).heap[W.heap.size]? =some (.cells (List.replicate n (ag 0)).toArray 3 (0,0)):=by
 rw[dE];congr 2;apply Array.ext';rw[toList_madeCells_one]
theorem H8 {w:World} {base g n:Nat} {xs:List Value} (hg:w.heap[g]? =some (.cells xs.toArray 3 (0,0))) (hb:base<=g) (hn:xs.length=n) (hm:n<=maxLen):w.ownsRow base 3 1 (aD g n n) n xs:=
 ⟨by simpa using hn,.inr ⟨g,n,xs.toArray,rfl,hb,hg,aG _,hm,by simpa using hn,by rw[lC];exact kZ (by simp;omega)⟩⟩
theorem wK {P:Program} {ops:Array Oper} {o:Oper} {a:Act} {C:World->Prop} {b:Bool} {K:Act->Prop} {E0:Prop} {sz:Nat} {t e:TypeId} {bytes:Nat} (E:eQ P t e sz bytes) (ad:Option Addr) (n c lo hi:Nat) (h1:lo<=hi) (h2:hi<=c)
  (hgd:o.guard=none) (x:Operand) (low high:Option Operand) (ho:o.op=.slice t x low high none) (hx:a.eval x=.slice ad n c) (nY:(low.map a.eval).getD (.int .i64 0)=.int .i64 lo) (gI:(high.map a.eval).getD (.int .i64 n)=.int .i64 hi)
  (h:K (a.put o.dst (.slice (if c=lo then ad else ad.map (·.add (lo*sz))) (hi-lo) (c-lo)))):
  if Region.wanted o (yielded ops a.tmps)=true then Oper.fM P o a C b K else E0:=by
 have hw:Region.wanted o (yielded ops a.tmps)=true:=by simp[Region.wanted,hgd]
 rw[aR hw];obtain⟨ht,⟨i,z,hi',hz,hsize,hby,hzs⟩,hsz⟩:=E;have hu:∀W',(underlying t).run P W'=.ok (.slice e) W':=fun W'=>pM ht W';have hs:∀W',(sizeOf e).run P W'=.ok sz W':=fun W'=>by simp[sizeOf,typeInfo,hi',hsize]
 refine⟨_,fun w _=>?_,h⟩;unfold execOp;rcases low with _|lw
 .simp only[nS,oQ,mE,mH]at nY;obtain rfl:lo=0:=by omega
  rcases high with _|hg
  .simp only[nS,oQ,mE,mH]at gI;obtain rfl:hi=n:=by omega
   simp[ho,hx,Instr.sliceAt,Instr.slice,Instr.sliceBounds,Instr.sliceBound,hu,hs,asIntOf,h2]
  .simp only[aU,fV]at gI;simp[ho,hx,gI,Instr.sliceAt,Instr.slice,Instr.sliceBounds,Instr.sliceBound,hu,hs,asIntOf,h2]
 .simp only[aU,fV]at nY;rcases high with _|hg
  .simp only[nS,oQ,mE,mH]at gI;obtain rfl:hi=n:=by omega
   simp[ho,hx,nY,Instr.sliceAt,Instr.slice,Instr.sliceBounds,Instr.sliceBound,hu,hs,asIntOf,h1]
  .simp only[aU,fV]at gI;simp[ho,hx,nY,gI,Instr.sliceAt,Instr.slice,Instr.sliceBounds,Instr.sliceBound,hu,hs,asIntOf,h1,h2]
def uO (M k:Nat):List Value:=List.replicate k (.int .i64 (-1))++List.replicate (M-k) (.int .i64 0)
theorem Nj {M k:Nat} (h:k<=M):(uO M k).length=M:=by simp[uO];omega
theorem U9 (M:Nat):uO M 0=List.replicate M (.int .i64 0):=by simp[uO]
theorem Va (M:Nat):uO M M=List.replicate M (.int .i64 (-1)):=by simp[uO]
theorem Ch {M k m:Nat} (h:k+m<=M):splice (uO M k) k (List.replicate m (.int .i64 (-1)))=uO M (k+m):=by
 unfold splice uO;rw[Io (by simp),kZ (by simp),iN,List.drop_append];rw[rX (by simp),iV,List.drop_replicate,iN,<-ek,List.replicate_append_replicate];congr 2;omega
theorem Zm {M k j:Nat} (h:j<k):(uO M k)[j]? =some (.int .i64 (-1)):=by
 unfold uO;rw[mP (by simpa using h),sS,aR h]
theorem Zn (w:World) (g0 M:Nat) (hg0:w.heap[g0]? =some (.cells #[ag (-1)] 3 (0,0))) (hM:M<=1000000):
  aO 100 #[aD g0 1 1,ag M] w fun e w'=>∃v,e=.returned v/\w'.ownsRow w.heap.size 3 1 v M (List.replicate M (.int .i64 (-1)))/\Below w.heap.size w w':=by
 have hmk:=Sm M hM;have CM:=ae (fun W=>Tryz.bits_Mul 1 M (by omega) (by omega) W);have e1:1*M/18446744073709551616=0:=by omega
 have e2:1*M%18446744073709551616=M:=by omega
 rw[e1,e2]at CM;have HC:=ae (FP w M);have Uk:g0<w.heap.size:=(bn.1 hg0).1;have hc0:(w.alloc (.cells (madeCells #[ag 0] M) 3)).cell? (ah g0 0)=some (ag (-1)):=by
  have h9:=(dB w (.cells (madeCells #[ag 0] M) 3) _ Uk).trans hg0;simp[World.cell?,h9]
 have Jv:=ae hc0;have d0:decide ((M:Int)<0)=false:=by simp
 have d3:decide ((M:Int)>9223372036854775807)=false:=by simp;omega
 have d4:decide ((9223372036854775807:Int)<(M:Int))=false:=by simp;omega
 have d5:decide (9223372036854775807<M)=false:=by simp;omega
 clear e1 e2 hg0 hc0;go_enter Tryz.func100,Tryz.ntmps100
 go_wp2_with fail
 refine(CM.out w).mono ?_;rintro e w' ⟨rfl,JE⟩;subst JE
 go_upto_region 7 with fail
 obtain⟨w1,fJ⟩:∃w1,w1=w'.alloc (.cells (madeCells #[ag 0] M) 3):=⟨_,rfl⟩;obtain⟨g,hg⟩:∃g,g=w'.heap.size:=⟨_,rfl⟩;have hb1:Below w'.heap.size w' w1:=by rw[fJ];exact(aM _ _).alloc (aG _) _
 have hgg:w'.heap.size<=g:=Ay hg.symm;have hx1:w1.heap[g]? =some (.cells (uO M 0).toArray 3 (0,0)):=by rw[fJ,hg,U9];exact HC.out
 have nu:Hid (w1.cell? (ah g0 0)=some (ag (-1))):=by rw[fJ];exact Jv.out
 have hne:g0≠g:=by omega
 rw[<-fJ,<-hg];have Jt:=ae hx1;have fK:=ae hb1;clear fJ hmk HC Jv CM hx1 hb1 hg d0 d3 d4 d5;obtain⟨m,hm⟩:∃m,m=Nat.min 1 M:=⟨_,rfl⟩;have Ey:=ae hm;have G7:m<=M:=by rw[hm];exact Nat.min_le_right _ _
 have hmp:0<M->0<m:=fun h=>by rw[hm];exact Nat.lt_min.2 ⟨by omega,h⟩
 have HMP:=ae hmp;clear hm hmp;have ht:∀j v,(List.replicate m (ag (-1)))[j]? =some v->w1.cell? (((ah g0 0):Addr).add j)=some v:=fun j v h=>by
  rw[sS]at h;split at h
  .rename_i hj;injection h with h;have:j=0:=by have h8:=Ey.out;have h9:Nat.min 1 M<=1:=Nat.min_le_left _ _;omega
   subst this;rw[<-h];simpa[Addr.add]using nu.out
  .cases h
 have Lx:=ae ht;clear ht
 go_wp2_with (refine wpList_copy_splice rfl _ _ _ _ rfl 3 zT Ni _ _ _ _ _ _ rfl rfl g 0 (uO M 0) 3 Jt.out (List.replicate m (.int .i64 (-1))) (by rw[iN];exact Ey.out) (fun _=>⟨rfl,_,rfl,Lx.out⟩) (by rw[iN,Nj (by omega)];omega) (fun v hv=>by rw[List.eq_of_mem_replicate hv];rfl) w'.heap.size w' fK.out hgg ?_;intro w2 hg2 hb2;simp only[iN,goInt];rw[Ch (M:=M) (k:=0) (m:=m) (by omega),lu]at hg2;have fP:=ae hb2;clear hb2)
 clear Jt fK Lx nu
 go_loopg [8] M (fun kx s8 wr=>∃k:Nat,s8=.int .i64 k/\k<=M/\M-k<=kx/\Hid (0<M->0<k)/\Hid (wr.heap[g]? =some (.cells (uO M k).toArray 3 (0,0)))/\Hid (Below w'.heap.size w' wr))
 case atStart=>exact⟨m,rfl,G7,by omega,HMP,hg2,fP⟩
 case round=>
  obtain⟨k,rfl,hk,PH,HP,HG,HB⟩:=hrel;by_cases hlt:k<M
  .have VW:=HP.out (by omega);obtain⟨m2,Wi⟩:∃m2,m2=Nat.min k (M-k):=⟨_,rfl⟩;have aDs:k+m2<=M:=by have h9:Nat.min k (M-k)<=M-k:=Nat.min_le_right _ _;omega
   have aDt:0<m2:=by rw[Wi];exact Nat.lt_min.2 ⟨VW,by omega⟩
   have aDu:m2<=k:=by rw[Wi];exact Nat.min_le_left _ _
   have vT:=ae Wi;have HT2:Hid (∀W:World,W.heap[g]? =some (.cells (uO M k).toArray 3 (0,0))->∀j v,(List.replicate m2 (ag (-1)))[j]? =some v->W.cell? (((ah g 0):Addr).add j)=some v):=fun W hW j v h=>by
    rw[sS]at h;split at h
    .rename_i hj;have h9:=Zm (M:=M) (k:=k) (j:=j) (by omega);rw[<-h];have j6:((ah g 0):Addr).add j=(ah g j):=by unfold Addr.add;split<;>simp_all
     rw[j6];simp[World.cell?,hW,h9]
    .cases h
   clear Wi;have e1:decide ((k:Int)<(M:Int))=true:=by simp;omega
   have e2:decide (k<M)=true:=by simp;omega
   go_upto_region 9 with fail
   refine aF (fun _=>True) [7,8,9] [(0,false),(1,false),(2,false),(3,false),(4,false),(5,false),(6,false)] (by kernel_rfl) (by kernel_rfl) (fun _ _ d _ _ h=>by cases d<;>exact h) trivial 3 rfl (by kernel_rfl) ?_;simp only[bG,bz,bA,bu,aS,aT,aU]
   iterate 3 (refine aI (fun K hK=>?_);go_simp;first|(refine hK _ ?_;clear hK K)|(apply Exists.intro;refine⟨fun _=>?_,hK _ ?_⟩;rfl;clear hK K))
   refine aI (fun K hK=>?_);refine wK oU (some (ah g 0)) M M k M (by omega) (aG _) rfl _ _ _ rfl rfl rfl rfl (hK _ ?_);clear hK K;rw[aP (by omega)]
   iterate 2 (refine aI (fun K hK=>?_);go_simp;first|(refine hK _ ?_;clear hK K)|(apply Exists.intro;refine⟨fun _=>?_,hK _ ?_⟩;rfl;clear hK K))
   refine aI (fun K hK=>?_);refine wK oU (some (ah g 0)) M M 0 k (by omega) (by omega) rfl _ _ _ rfl rfl rfl rfl (hK _ ?_);clear hK K;rw[aP (by omega)];refine aQ ?_;refine az [7] (by kernel_rfl) (by simp) ?_;refine ak.cons rfl (fun K hK=>?_) ak.nil;have hgd:wr.drew.heap[g]? =some (.cells (uO M k).toArray 3 (0,0)):=HG.out;have zA:Below w'.heap.size w' wr.drew:=HB.out.drew;refine step_copy_splice rfl _ _ _ _ rfl 3 zT Ni (some (ah g k)) (some (ah g 0)) (M-k) (M-k) k M (by simp[Act.eval,Act.put,Addr.add]) (by simp[Act.eval,Act.put,Addr.add]) g k (uO M k) 3 hgd (List.replicate m2 (.int .i64 (-1))) (by rw[iN];exact vT.out) (fun _=>⟨rfl,_,rfl,HT2.out _ hgd⟩) (by rw[iN,Nj (by omega)];omega) (fun v hv=>by rw[List.eq_of_mem_replicate hv];rfl) w'.heap.size w' zA hgg ?_;intro w3 hg3 hb3;simp only[iN,goInt];rw[Ch (M:=M) (k:=k) (m:=m2) (by omega)]at hg3;have HG3:=hg3;have jm:=ae hb3;clear hb3 hgd zA;refine hK _ _ (fun _ h=>absurd (by simp) h) ?_;clear hK K;refine aK [8,9] _ _ _ (by kernel_rfl) ?_;simp only[pick,bz,bA,bu,aS,aT];go_wp2
   go_roundg (M-(k+m2))
   case measure=>omega
   case rel=>exact⟨k+m2,by go_num,by omega,aG _,fun _=>by omega,HG3,jm⟩
  .obtain rfl:k=M:=by omega
   have eU:Hid (wr.ownsRow w'.heap.size 3 1 (aD g k k) k (List.replicate k (.int .i64 (-1)))):=by
    have:=HG.out;rw[Va]at this;exact H8 this hgg (by simp) (by unfold maxLen;omega)
   go_wp2;go_ret;exact⟨_,rfl,eU.out,HB.out⟩
theorem QD:∀args w,(callFunc 99 args).run Tryz.prog w=.ok (.enter 99 args) w:=dF Tryz.func99 (by kernel_rfl) rfl
theorem adW {W:World} {tb tc:Nat} {ra:Option Addr} {rc n:Nat} {R:List Pt} (kU:W.cell? (ah tc 0)=some (ay tb)) (c0:W.cell? (ah tb 0)=some (.slice ra n rc)) (hr:dU fH 3 W ra R) (hn:R.length=n) (i j:Nat) (hi:i<n) (hj:j<n) (zL:n<=1000000):
  aO 99 #[ag i,ag j,ay tc] W fun e w'=>e=.returned (ag (pO (bY R i) (bY R j)))/\zN W w':=by
 have hiR:i<R.length:=by omega
 have hjR:j<R.length:=by omega
 obtain⟨rb,ro,era,hrb,rH⟩:=hr.get (by omega);have r0:=rH i hiR 0 (by omega);have r1:=rH i hiR 1 (by omega);have r2:=rH i hiR 2 (by omega);have v0:=rH j hjR 0 (by omega);have v1:=rH j hjR 1 (by omega);have v2:=rH j hjR 2 (by omega);simp only[fH,aT,aS,eG]at r0 r1 r2 v0 v1 v2;rw[<-dI hiR]at r0 r1 r2;rw[<-dI hjR]at v0 v1 v2;subst era;clear rH hiR hjR hr hn;generalize bY R i=p at*;generalize bY R j=q at*;have HC:=ae (fun W=>ahm p q W);generalize pO p q=od at*;obtain⟨px,py,pi⟩:=p;obtain⟨qx,qy,qi⟩:=q;simp only at r0 r1 r2 v0 v1 v2;have g0:=aj kU;have g1:=aj c0;have k1:=aj r0;have k2:=aj r1;have k3:=aj r2;have k4:=aj v0;have k5:=aj v1;have k6:=aj v2;go_enter Tryz.func99,Tryz.ntmps99
 go_upto_region 1 with fail
 refine aF (fun W'=>∃p:bg W,W'=p.W) [14,15] [(0,true),(1,false),(2,false),(3,true),(4,false),(5,false),(6,true),(7,true),(8,false),(9,false),(10,true),(11,false),(12,false),(13,true)] (by kernel_rfl) (by kernel_rfl) (fun _ _ d _ _ h=>by cases d<;>exact h) ⟨⟨_,(aM _ _).drew⟩,rfl⟩ 2 rfl (by kernel_rfl) ?_;simp only[bG,bz,bA,bu,aS,aT,aU]
 repeat(refine aI (fun K hK=>?_);go_simp;first|(refine hK _ ?_;clear hK K)|(apply Exists.intro;refine⟨fun _=>?_,hK _ ?_⟩;rfl;clear hK K))
 refine aQ ?_;refine az [14] (by kernel_rfl) (by simp) ?_;refine ak.cons rfl (fun K hK=>?_) ak.nil;refine bD EM rfl _ _ rfl (vals:=#[ku px py pi,ku qx qy qi]) rfl (HC.out W.drew) ?_;rintro e w2 ⟨rfl,hg⟩;refine⟨_,rfl,hK _ _ (fun _ h=>absurd (by simp) h) ?_⟩;clear hK K;refine aK [15] _ _ _ (by kernel_rfl) ?_;simp only[pick,bz,bA,bu,aS,aT];have HG:Hid (zN W w2):=((zN.refl W).drew).trans hg;clear hg;go_wp2;go_ret;exact⟨rfl,HG.out⟩
theorem au0 (R:List Pt) (n:Nat):SWO (ltOf fun i j:Fin n=>pO (bY R i) (bY R j)):=
 ⟨fun x=>ac2.irrefl (bY R x),fun x y z=>ac2.trans (bY R x) (bY R y) (bY R z),fun x y z=>ac2.ntrans (bY R x) (bY R y) (bY R z)⟩
theorem adX {w:World} {base g c n tb tc:Nat} {ra:Option Addr} {rc:Nat} {R:List Pt} (hu:(ids R).Nodup) (hx:R.Pairwise sK) (hn:R.length=n) (h0:0<n) (zL:n<=1000000) (hrow:w.ownsRow base 3 1 (aD g n c) n ((List.range n).map fF))
  (kU:w.cell? (ah tc 0)=some (ay tb)) (c0:w.cell? (ah tb 0)=some (.slice ra n rc)) (hr:dU fH 3 w ra R) (h1:tc≠g) (h2:tb≠g) (h3:∀ad,ra=some ad->ad.block≠g):
  aO 98 #[aD g n c,.func (.func 99) #[] #[ay tc]] w fun e w'=>
   e=.returned (.tuple #[])/\w'.ownsRow base 3 1 (aD g n c) n ((dQ R).map fF)/\aC (fun k=>k=g) w w':=by
 haveI:Inhabited (Fin n):=⟨⟨0,h0⟩⟩
 obtain⟨cur,hg,hh,hc,hm,hs,ht⟩:∃cur:Array Value,base<=g/\w.heap[g]? =some (.cells cur 3 (0,0))/\n<=c/\c<=maxLen/\cur.size=c/\cur.toList.take n=(List.range n).map fF:=by
  rcases hrow.2 with⟨e,-⟩|⟨g',cap,cur,e,q1,q2,q3,q4,q5,q6⟩
  .cases e
  .injection e with e1 e2 e3;injection e1 with e1;injection e1 with e1 _ _;subst e1 e3;exact⟨cur,q1,q2,q3,q4,by omega,by rwa [lC]at q6⟩
 obtain⟨l,hl⟩:∃l:List (Fin n),l=List.finRange n:=⟨_,rfl⟩;have uy:l.length=n:=by rw[hl];simp
 have hlm:l.map (fun i:Fin n=>(i:Nat))=List.range n:=by rw[hl];exact tO (by simp) (fun i h1 h2=>by simp)
 obtain⟨enc,adY⟩:∃enc:Fin n->Value,enc=fun i=>fF i.val:=⟨_,rfl⟩;have hle:l.map enc=(List.range n).map fF:=by rw[<-hlm,xu,adY];rfl
 have hH:Holds enc w g 0 l.toArray:=holds_of_block hh (by rw[uy,ht,hle]);have hlt:g<w.heap.size:=(bn.1 hh).1;have afq:∀(m:Nat) (os:Array Obj) (dk:Array (Fin n)),aC (fun k=>k=g) w (sortWorld enc w g 0 m dk os):=fun m os dk=>by
  refine⟨rfl,rfl,rfl,?_,fun k hk hne=>?_⟩
  .show w.heap.size<=((w.heap.modify g _)++os).size;simp
  .show((w.heap.modify g _)++os)[k]? =_;rw[zQ (by simp;omega),zS,aP (fun e=>hne e.symm)]
 have jk:=iD w _ kU;have au1:=iD w _ c0;have agO:CmpLays1 Tryz.prog 99 #[ay tc] enc (fun i j:Fin n=>pO (bY R i) (bY R j)) g 0 l.toArray.size w:=fun m os dk _ x y=>by
  have K:=afq m os dk;rw[adY]at K |-;refine(adW (((di K jk h1).1 0).trans kU) (((di K au1 h2).1 0).trans c0) ?_ hn x y x.2 y.2 zL).mono fun e w' ⟨he,q,os',hw⟩=>⟨he,q,os',hw⟩;rcases hr with hr|⟨b,off,rfl,hb,hcs⟩
  .exact .inl hr
  .exact .inr ⟨b,off,rfl,bJ hb K.size,fun i hi j hj=>((di K hb (h3 _ rfl)).1 _).trans (hcs i hi j hj)⟩
 have hC:=Any.slices_SortFunc Tryz.MU enc (fun x=>by rw[adY];rfl) (fun i j:Fin n=>pO (bY R i) (bY R j)) (au0 R n) 99 #[ay tc] g 0 c l.toArray w QD agO hH hlt (by simp[uy];omega);change aO 98 _ _ _ at hC;rw[show l.toArray.size=n by simpa using uy]at hC;refine hC.mono ?_;rintro e w' ⟨he,d',m,os,hp,hso,rfl⟩;have hpl:=uq (d:=l.toArray) (d':=d') (by rw[show l.toArray.size=n by simpa using uy];exact hp);have zM:d'.toList.length=n:=by rw[hpl.length_eq];simpa using uy
 have hW:=pz hx hu;have ja:(d'.toList.map fun i:Fin n=>(i:Nat)).Pairwise (Cz R):=by
  refine dG.2 ?_;have xI:d'.toList.Nodup:=hpl.nodup_iff.2 (by rw[hl];simpa using List.nodup_finRange n);have hsp:d'.toList.Pairwise fun i j:Fin n=>¬pO (bY R j) (bY R i)<0:=by
   rw[iq];intro i j hi hj oV;have hz:d'.size=n:=by simpa using zM
   have h3:=hso i j (bC _) oV (by simp at hj |-;omega);simp at hi hj;rw[tV d' j (by omega),tV d' i (by omega)]at h3;unfold ltOf at h3;simpa using h3
  refine List.Pairwise.imp (fun{i j} h=>?_) (hsp.and xI);obtain⟨q1,q2⟩:=h;rw[rF]at q1;have hne:(i:Nat)≠(j:Nat):=fun e=>q2 (Fin.ext e);have:=Qj hu (i:=i) (k:=j) (by omega) (by omega) hne;unfold ko at this;unfold Cz;unfold vN at*;omega
 have he2:d'.toList.map (fun i:Fin n=>(i:Nat))=dQ R:=by
  refine xC (R:=Cz R) (fun i=>yF _) (fun h h'=>G5 h h') ja hW.ysY fun i=>?_;rw[(hpl.map _).mem_iff,hW.live,sS];show i∈l.map _↔_;rw[hlm,wZ];constructor
  .intro h;rw[aR (by omega)]
  .intro h;by_cases h9:i<R.length
   .omega
   .rw[aP h9]at h;cases h
 obtain⟨cur',-,-,-,h9⟩:=uf (enc:=enc) (l:=l) (l':=d'.toList) hg hh (by omega) hm hs (by omega) m os;rw[zM]at h9;have he3:d'.toList.map enc=(dQ R).map fF:=by rw[<-he2,xu,adY];rfl
 rw[he3]at h9;refine⟨he,?_,afq m os d'⟩;simpa[sortWorld]using h9
theorem Nk (a:Option Addr) (c:Nat) (l:List Pt) (w:World) (hl:dU fH 3 w a l) (hn:l.length<=1000000) (hw:Mm l):
  aO 97 #[.slice a l.length c] w (iX w (.bool (Eg l))):=by
 have HR:=ae hl;have HW:=ae hw;clear hl hw;have XR:=@run_makeMap Tryz.prog;go_enter Tryz.func97,Tryz.ntmps97;go_wp2
 go_loopw [9] (fun iv wr=>∃i:Nat,iv=.int .i64 i/\i<=l.length/\Below w.heap.size w wr/\Hid (∃(D:DataW Unit),wr.ownsMap Tryz.prog 27 (plainElem Tryz.prog 3) w.heap.size i D/\pg D l i)) (fun iv _=>l.length-(intOf iv).toNat)
 case atStart=>exact⟨0,rfl,bC _,(aM _ _).alloc (aG _) _,⟨.map [],DF _ _ _ _,[],IsM.empty _ _⟩⟩
 case round=>
  obtain⟨i,rfl,hi,hb,HO⟩:=hrel;by_cases kE:i<l.length
  .obtain⟨b,off,ea,hbl,hcs⟩:=(HR.out.below hb).get (by omega);have x0:=hcs i kE 0 (by omega);have x1:=hcs i kE 1 (by omega);have x2:=hcs i kE 2 (by omega);simp only[fH,aT,aS,eG]at x0 x1 x2;have hkey:Hid (keyOf Tryz.prog 27 (.int .u32 l[i].2.2)=some (.int .u32 l[i].2.2)):=keyOf_int_mk lh (HW.out _ (bW _));obtain⟨D,mf,hD⟩:=HO.out;have V8:=ae (hD.put kE);have hS2:=hb.size;have EA:=ae ea;clear HO hcs hD ea;generalize l[i]=p at*;obtain⟨px,py,pi⟩:=p;obtain rfl:=EA.out;clear EA;have hown:=mf.kept (sO wr (.cells #[ag px,ag py,aJ pi] 29) none) (by simp)
   go_wp2_with (at_mapUpdate;refine Dv _ rfl _ _ _ 26 rfl 27 3 (int_keyed lh) tK _ w.heap.size i _ rfl hown (by unfold maxLen;omega) _ _ _ rfl rfl hkey.out _ [] (Ao nQ (by simp[Lit.wf,IntKind.min,IntKind.max,IntKind.bits,IntKind.signed];omega)) ?_;intro w3 kF oq)
   have B3:Below w.heap.size wr w3:=(((aM _ wr).alloc (by omega) _)).grown oq (by simp;omega) (fun j ej=>by cases ej;omega);have Uj:Hid (∃(D:DataW Unit),w3.ownsMap Tryz.prog 27 (plainElem Tryz.prog 3) w.heap.size (i+1) D/\pg D l (i+1)):=⟨_,kF,V8.out⟩;have B4:=hb.trans B3;clear kF oq hown mf V8;go_wp2;go_roundw
   case rel=>exact⟨i+1,by go_num,by omega,B4,Uj⟩
   case measure=>simp[intOf];omega
  .obtain rfl:i=l.length:=by omega
   obtain⟨D,hown,hD⟩:=HO.out;have hsize:=hD.size;have HS:=ae hsize;clear hsize hD HO
   go_wp2_with (at_len;refine wpList_len_own _ rfl _ 26 rfl 27 3 tK _ w.heap.size _ _ rfl hown ?_)
   go_ret;exact⟨by rw[HS.out];rfl,hb⟩
theorem dC.grow {w:World} {lo hi hi' tb fb:Nat} {R:List Pt} {h:iU} {cnt:Int} {V:oF} (H:dC w lo hi tb fb R h cnt V) (h1:hi<=hi') (h2:hi'<=w.heap.size):dC w lo hi' tb fb R h cnt V:=
 ⟨H.blk,⟨H.fo.1,by have:=H.fo.2.1;omega,H.fo.2.2.1,by have:=H.fo.2.2.2.1;omega,h2⟩,H.row,H.xs,H.iT,H.jG,H.pU,fun v hv g e=>bJ (H.top v hv g e) h1⟩
theorem Zo (n:Nat):Og (fun _=>none) n=List.replicate n (.int .i64 (-1)):=by
 apply tO (by simp[Og]);intro i h1 h2;simp[Og,pV]
theorem Zp {w:World} {base n tb tc:Nat} {av:Value} {ra:Option Addr} {rc:Nat} {R:List Pt} (hu:(ids R).Nodup) (hx:R.Pairwise sK) (hn:R.length=n) (zL:n<=1000000) (hrow:w.ownsRow base 3 1 av n ((List.range n).map fF))
  (kU:w.cell? (ah tc 0)=some (ay tb)) (c0:w.cell? (ah tb 0)=some (.slice ra n rc)) (hr:dU fH 3 w ra R) (h1:∀g,av.ownBlock=some g->tc≠g/\tb≠g/\∀ad,ra=some ad->ad.block≠g):
  aO 98 #[av,.func (.func 99) #[] #[ay tc]] w fun e w'=>
   e=.returned (.tuple #[])/\w'.ownsRow base 3 1 av n ((dQ R).map fF)/\aC (fun k=>av.ownBlock=some k) w w':=by
 by_cases h0:n=0
 .subst h0;have hR:R=[]:=jw hn;subst hR;obtain⟨a,c,rfl⟩:=fI hrow;have hC:=Ol ({Tryz.MU with}) a c (.func (.func 99) #[] #[ay tc]) w;change aO 98 _ _ _ at hC;refine hC.mono ?_;rintro e w' ⟨he,rfl⟩;exact⟨he,by simpa[dQ,kY]using hrow,aC.refl _ _⟩
 .obtain⟨g,c,rfl,-,-,-,-⟩:=bf hrow (by omega);obtain⟨q1,q2,q3⟩:=h1 g rfl;refine(adX hu hx hn (by omega) zL hrow kU c0 hr q1 q2 q3).mono ?_;rintro e w' ⟨he,ho,hk⟩;exact⟨he,ho,hk.mono fun k e=>by subst e;rfl⟩
theorem QE:∀args w,(callFunc 100 args).run Tryz.prog w=.ok (.enter 100 args) w:=dF Tryz.func100 (by kernel_rfl) rfl
theorem Zq {w:World} {base:Nat} {e:TypeId} {sz:Nat} {a:Option Addr} {n c m:Nat} {xs:List Value} (h:w.ownsRow base e sz (.slice a n c) m xs):∀ad,a=some ad->(Value.slice a n c).ownBlock=some ad.block:=fun ad e9=>by
 subst e9;rcases h.2 with⟨e8,-⟩|⟨g,cap,cur,e8,-⟩
 .cases e8
 .injection e8 with e8;injection e8 with e8;subst e8;rfl
def J8 (w:World) (R:List Pt) (e:Ending) (w':World):Prop:=
 ∃tb fb V,e=.returned (.tuple #[ay tb,ag 0])/\dC w' w.heap.size w'.heap.size tb fb R (Fw R) R.length V/\Below w.heap.size w w'
structure HbR (w:World) (lo fb tb tc n:Nat) (rv nv fv:Value) (l:List Pt):Prop where
 row:w.ownsRow lo 29 3 rv n (l.flatMap fH)
 jG:w.ownsRow lo 163 7 nv (aZ n).length ((aZ n).flatMap qo)
 iT:o8 w lo fb n fv
 Sn:w.heap[tc]? =some (.cells #[ay tb] 87 (0,0))
 lof:lo<=fb
theorem HbR.kept {S:Nat->Prop} {w w':World} {lo fb tb tc n:Nat} {rv nv fv:Value} {l:List Pt} (h:HbR w lo fb tb tc n rv nv fv l) (K:aC S w w') (hS:∀k,k<w.heap.size->S k->∃cs t fr,w.heap[k]? =some (.cells cs t fr)/\t≠29/\t≠163/\t≠236/\t≠87):HbR w' lo fb tb tc n rv nv fv l:=by
 have blk:∀{b:Nat} {cs':Array Value} {t':TypeId} {fr':Nat×Nat},w.heap[b]? =some (.cells cs' t' fr')->(∀cs t fr,w.heap[b]? =some (.cells cs t fr)->S b->t≠t')->w'.heap[b]? =some (.cells cs' t' fr'):=fun hb h9=>bL K hb fun h8=>h9 _ _ _ hb h8 rfl;refine⟨qD h.row K fun k h1 h2=>?_,qD h.jG K fun k h1 h2=>?_,⟨bL K h.iT.blk fun h2=>?_,qD h.iT.row K fun k h1 h2=>?_⟩,bL K h.Sn fun h2=>?_,h.lof⟩
 .obtain⟨cs,t,fr,a,b,c,d,e⟩:=hS k h1 h2;exact⟨cs,t,fr,a,b⟩
 .obtain⟨cs,t,fr,a,b,c,d,e⟩:=hS k h1 h2;exact⟨cs,t,fr,a,c⟩
 .have hl:=(bn.1 h.iT.blk).1;obtain⟨cs,t,fr,a,b,c,d,e⟩:=hS fb hl h2;have:=a.symm.trans h.iT.blk;injection this with this;injection this with _ this _;exact d this
 .obtain⟨cs,t,fr,a,b,c,d,e⟩:=hS k h1 h2;exact⟨cs,t,fr,a,c⟩
 .have hl:=(bn.1 h.Sn).1;obtain⟨cs,t,fr,a,b,c,d,e⟩:=hS tc hl h2;have:=a.symm.trans h.Sn;injection this with this;injection this with _ this _;exact e this
theorem FQ {w:World} {base:Nat} {e:TypeId} {sz:Nat} {v:Value} {n:Nat} {xs:List Value} (h:w.ownsRow base e sz v n xs) {k:Nat} (hk:v.ownBlock=some k):∃cs fr,w.heap[k]? =some (.cells cs e fr):=by
 rcases h.2 with⟨rfl,-⟩|⟨g,cap,cur,rfl,-,hh,-⟩
 .cases hk
 .injection hk with hk;subst hk;exact⟨_,_,hh⟩
theorem QF (a:Option Addr) (c:Nat) (l:List Pt) (w:World) (hl:dU fH 3 w a l) (hn:l.length<=20000) (hw:Mm l) (hu:Eg l=true):
  aO 37 #[.slice a l.length c] w (J8 w (gM l)):=by
 have CU:=Nk a c l w hl (by omega) hw;rw[hu]at CU;have HL:=ae hl;obtain⟨n,KH⟩:∃n,n=l.length:=⟨_,rfl⟩;have CC:=ae (fun W (hb:Below w.heap.size w W)=>uu a l n c W KH.symm (hl.below hb) (by omega));have KI:=ae KH;rw[<-KH]at hn CU |-;have CF:=ae (fun W=>AU n (by omega) W);clear KH hl;have d1:decide ((n:Int)>2147483648)=false:=by simp;omega
 have d2:decide ((2147483648:Int)<(n:Int))=false:=by simp;omega
 have d3:decide (2147483648<n)=false:=by simp;omega
 have Zr:(ids l).Nodup:=by unfold Eg at hu;simpa using hu
 have HIU:=ae Zr;clear Zr hu hw;go_enter Tryz.func37,Tryz.ntmps37
 go_wp2_with (go_at_call 97;refine CU.mono ?_;rintro e w1 ⟨rfl,hb1⟩;clear CU)
 go_wp2_with fail
 refine(CF.out w1).mono ?_;rintro e w2 ⟨rfl,kI⟩;have fP:Hid (Below w.heap.size w w2):=by rw[kI];exact hb1.alloc hb1.size _
 have BR:Hid (w2.heap[w1.heap.size]? =some (ma 0 0 (aN) n)):=by rw[kI];exact dE w1 _
 obtain⟨fb,vS⟩:∃fb,fb=w1.heap.size:=⟨_,rfl⟩;have Cv:w.heap.size<=fb/\fb<w2.heap.size:=by rw[kI,vS];exact⟨hb1.size,by simp⟩
 rw[<-vS]at BR |-;clear kI hb1 vS CF
 go_wp2_with fail
 refine(CC.out w2 fP.out).mono ?_;rintro e w3 ⟨rv,rfl,hr3,hb3⟩;have hf3:=(hb3.block fb Cv.2).trans BR.out;have jm:Hid (Below w.heap.size w w3):=fP.out.trans (hb3.mono fP.out.size);have yz:=ae (bR hr3 fP.out.size);have CN:=ae (gX fb n (by omega) w3 hf3);have HF3:=ae hf3;obtain⟨ra,rc,rfl⟩:=fI hr3;clear hr3 hb3 hf3 CC BR fP
 go_wp2_with fail
 refine CN.out.mono ?_;rintro e w4 ⟨fv,nv,rfl,jP,su,Zt,hk4⟩;have hs3:=jm.out.size;have Zu:Hid (w4.ownsRow w.heap.size 29 3 (.slice ra n rc) n (l.flatMap fH)):=PL yz.out (by decide) HF3.out hk4;have QG:Hid (o8 w4 w.heap.size fb n fv):=⟨Zt,bR jP hs3⟩;have Zv:Hid (w4.ownsRow w.heap.size 163 7 nv (aZ n).length ((aZ n).flatMap qo)):=bR su hs3;have kJ:Hid (Below w.heap.size w w4):=jm.out.trans (hk4.toBelow hs3 (fun k h=>by have:=Cv.1;omega));obtain⟨na,nc,rfl⟩:=fI su;obtain⟨M,hM⟩:∃M,M=(aZ n).length:=⟨_,rfl⟩;have Ey:=ae hM;have hM4:M<=40000:=by rw[hM,dA];omega
 rw[<-hM];clear jP su Zt hk4 CN hM yz HF3 jm
 go_upto_region 9 with fail
 obtain⟨wc,ewc⟩:∃wc,wc=(w4.alloc (.cells #[.slice ra n rc,aN,ay fb,.slice na M nc,aN,ag n] 155)).alloc (.cells #[ay w4.heap.size] 87):=⟨_,rfl⟩;have QH:Below w4.heap.size w4 wc:=by rw[ewc];exact((aM _ _).alloc (aG _) _).alloc (by simp) _
 obtain⟨tb,Wj⟩:∃tb,tb=w4.heap.size:=⟨_,rfl⟩;have hT:wc.heap[tb]? =some (UZ (.slice ra n rc) (aN) fb (.slice na M nc) (aN) n):=by rw[ewc,Wj];exact OM w4 _ _
 have hTC:wc.heap[tb+1]? =some (.cells #[ay tb] 87 (0,0)):=by rw[ewc,Wj];exact Jb w4 _ _
 rw[<-ewc,<-Wj];have HR:Hid (HbR wc w.heap.size fb tb (tb+1) n (.slice ra n rc) (.slice na M nc) fv l):=by
  have K:aC (fun _=>False) w4 wc:=(aC.refl _ w4).below QH;exact⟨aY Zu.out K (fun _ _ h=>h),by rw[<-Ey.out];have:=aY Zv.out K (fun _ _ h=>h);rwa [<-Ey.out]at this,⟨bL K QG.out.blk (fun h=>h),aY QG.out.row K (fun _ _ h=>h)⟩,hTC,Cv.1⟩
 have HT:=ae hT;have HB:Hid (Below w.heap.size w wc):=kJ.out.trans (QH.mono kJ.out.size);have air:w.heap.size<=tb:=by rw[Wj];exact kJ.out.size
 obtain⟨tc,kU⟩:∃tc,tc=tb+1:=⟨_,rfl⟩;rw[<-kU]at HR hTC |-;clear ewc QH hT Zu QG Zv kJ Wj kU;have jk:=(bn.1 HT.out).1;have CS:=ae (Bb KI.out.symm (by omega) HR.out.row HIU.out);have hTT:=HT.out;have c0:wc.cell? (ah tb 0)=some (.slice ra n rc):=by simp[World.cell?,hTT]
 have t0:wc.cell? (ah tc 0)=some (ay tb):=by simp[World.cell?,hTC]
 clear hTT hTC
 go_wp2_with fail
 refine CS.out.mono ?_;rintro e w4 ⟨rfl,hr4,hk4⟩;have hR4:HbR w4 w.heap.size fb tb tc n (.slice ra n rc) (.slice na M nc) fv (gM l):=by
  have h:=HR.out;have h2:=h.kept (S:=fun k=>(Value.slice ra n rc).ownBlock=some k) hk4;refine⟨hr4,qD h.jG hk4 fun k h1 h2=>?_,⟨bL hk4 h.iT.blk fun h2=>?_,qD h.iT.row hk4 fun k h1 h2=>?_⟩,bL hk4 h.Sn fun h2=>?_,h.lof⟩
  .obtain⟨cs,fr,e⟩:=FQ h.row h2;exact⟨cs,_,fr,e,by decide⟩
  .exact bH h.row h.iT.blk (by decide) fb h2 rfl
  .obtain⟨cs,fr,e⟩:=FQ h.row h2;exact⟨cs,_,fr,e,by decide⟩
  .exact bH h.row h.Sn (by decide) tc h2 rfl
 have F8:Hid (w4.heap[tb]? =some (UZ (.slice ra n rc) (aN) fb (.slice na M nc) (aN) n)):=bL hk4 HT.out (fun h=>bH HR.out.row HT.out (by decide) tb h rfl);have kJ:Hid (Below w.heap.size w w4):=HB.out.trans (hk4.toBelow HB.out.size (fun k h=>(HR.out.row.lt k h).1));have Gq:=ae hR4;have vV:(gM l).length=n:=by rw[(eZ l).length_eq];exact KI.out.symm
 have hRu:(ids (gM l)).Nodup:=((eZ l).map _).nodup_iff.2 HIU.out;have RL:Hid ((gM l).Pairwise sK/\(ids (gM l)).Nodup):=⟨jd HIU.out,hRu⟩;clear hr4 hk4 hR4 HR HT HB CS hRu c0 t0 jk;generalize hRR:gM l=R at*;clear hRR;have jk:=(bn.1 F8.out).1;have anN:=(bn.1 Gq.out.Sn).1;have htt:=F8.out;have kU:=Gq.out.Sn;have c0:w4.cell? (ah tb 0)=some (.slice ra n rc):=by simp[World.cell?,htt]
 have t0:w4.cell? (ah tc 0)=some (ay tb):=by simp[World.cell?,kU]
 clear htt kU
 go_wp2_with fail
 have au2:tc≠tb:=fun e=>by
  have h1:=Gq.out.Sn;rw[e,F8.out]at h1;injection h1 with h1;injection h1 with _ h1 _;exact absurd h1 (by decide)
 go_loopg [7,43] n (fun kx s7 s43 wr=>∃(i:Nat) (xv av:Value),s43=.int .i64 i/\s7=av/\i<=n/\n-i<=kx/\Hid (wr.heap[tb]? =some (UZ (.slice ra n rc) xv fb (.slice na M nc) (aN) n))/\Hid (wr.ownsRow w4.heap.size 2 1 xv i (((bX R).take i).map (Value.int .i64)))/\Hid (wr.ownsRow w4.heap.size 3 1 av i ((List.range i).map fF))/\Hid (aC (fun k=>k=tb) w4 wr))
 case atStart=>exact⟨0,_,_,rfl,rfl,bC _,by omega,F8,dL _ _ _ _,dL _ _ _ _,aC.refl _ _⟩
 case round=>
  obtain⟨i,xv,av,rfl,rfl,hi,PH,Ce,uJ,HA5,mo⟩:=hrel;by_cases iC:i<n
  .have LA:=aY Gq.out.row mo.out (fun g h h2=>bH Gq.out.row F8.out (by decide) g h h2.symm);obtain⟨_,_,ee,-,-,jE⟩:=dU.aL cZ (by decide) LA;injection ee with e1 e2 e3;subst e1;clear e2 e3;obtain⟨b,off,ea,hbl,hcs⟩:=jE.get (by omega);have x0:=hcs i (by omega) 0 (by omega);have x1:=hcs i (by omega) 1 (by omega);have x2:=hcs i (by omega) 2 (by omega);simp only[fH,aT,aS,eG]at x0 x1 x2;have hxt:(bX R).take (i+1)=(bX R).take i++[R[i].1]:=by
    have h:i<(bX R).length:=by unfold bX;simp;omega
    rw[fG h];simp[bX]
   have HXT:=ae hxt;subst ea;clear hcs jE hxt LA;generalize R[i]=p at*;obtain⟨px,py,pi⟩:=p;simp only at HXT x0 x1 x2;have kU:=Ce.out;have yS:=(bn.1 kU).1;have ais:=(mo.out.block tc anN au2).trans Gq.out.Sn;have afr:=(bn.1 ais).1;obtain⟨xa,xc,rfl⟩:=fI uJ.out;obtain⟨aa,ac,rfl⟩:=fI HA5.out
   go_upto_region 14 with fail
   obtain⟨w6,rO⟩:∃w6,w6=wr.alloc (.cells #[ag px,ag py,aJ pi] 29):=⟨_,rfl⟩;have jR:Below wr.heap.size wr w6:=by rw[rO];exact(aM _ _).alloc (aG _) _
   have N9:w6.heap[wr.heap.size]? =some (.cells #[ag px,ag py,aJ pi] 29 (0,0)):=by rw[rO];exact dE wr _
   have PY:=(jR.block tb yS).trans kU;have anP:=(jR.block tc afr).trans ais;have Yu:=mo.out.size;have Yv:=jR.size;have Ha:∀g,(Value.slice xa i xc).ownBlock=some g->w4.heap.size<=g/\g<wr.heap.size:=fun g h=>uJ.out.lt g h;have nDt:¬(Value.slice xa i xc).ownBlock=some tb:=fun h=>by have:=(Ha tb h).1;omega
   have nDc:¬(Value.slice xa i xc).ownBlock=some tc:=fun h=>by have:=(Ha tc h).1;omega
   have nDp:¬(Value.slice xa i xc).ownBlock=some wr.heap.size:=fun h=>by have:=(Ha _ h).2;omega
   have keep:∀{bk o:Nat} {v:Value},bk<w6.heap.size->¬(Value.slice xa i xc).ownBlock=some bk->w6.cell? (ah bk o)=some v->∀p:yH (fun k=>(Value.slice xa i xc).ownBlock=some k) w6,p.W.cell? (ah bk o)=some v:=fun hb hd hv p=>((di p.h hb hd).1 _).trans hv;have hp6:wr.heap.size<w6.heap.size:=(bn.1 N9).1;have g0:=keep (bJ afr Yv) nDc (o:=0) (v:=ay tb) (by simp[World.cell?,anP]);have g1:=keep (bJ yS Yv) nDt (o:=1) (v:=.slice xa i xc) (by simp[World.cell?,PY]);have g2:=keep hp6 nDp (o:=0) (v:=.int .i64 px) (by simp[World.cell?,N9]);have RN:=ae (au uJ.out jR);have WV:=ae (au HA5.out jR);have lD:Hid (aC (fun k=>k=tb) w4 w6):=mo.out.below jR;have Yw:=ae PY;rw[<-rO];clear rO jR N9 PY anP ais kU x0 x1 x2 keep nDc nDp nDt;refine aF (fun W=>∃p:yH (fun k=>(Value.slice xa i xc).ownBlock=some k) w6,W=p.W) [9,10,11] [(0,true),(1,true),(2,false),(3,false),(4,true),(5,false),(6,true)] (by kernel_rfl) (by kernel_rfl) (fun _ _ d _ _ h=>by cases d<;>exact h) ⟨⟨_,(aC.refl _ _).drew⟩,rfl⟩ 5 rfl (by kernel_rfl) ?_;simp only[bG,bz,bA,bu,aS,aT,aU]
   repeat(refine aI (fun K hK=>?_);go_simp;first|(refine hK _ ?_;clear hK K)|(apply Exists.intro;refine⟨fun _=>?_,hK _ ?_⟩;rfl;clear hK K))
   refine aQ ?_;refine az [7] (by kernel_rfl) (by simp) ?_;refine ak.cons rfl (fun K hK=>?_) ak.nil;go_simp;refine hK _ _ (fun _ _=>⟨⟨_,((aC.refl _ w6).alloc _).drew⟩,rfl⟩) ?_;clear hK K;refine az [8] (by kernel_rfl) (by simp) ?_;refine ak.cons rfl (fun K hK=>?_) ak.nil;refine bM CV w4.heap.size (w:=(w6.alloc (.cells #[ag px] 2)).drew) (au RN.out ((aM _ w6).alloc (aG _) _|>.drew)) [.int .i64 px] rfl (by simp[Value.oneCell']) rfl (.tmp 52) (.tmp 55) rfl rfl w6.heap.size rfl (lX _ _) (by unfold maxLen;omega) (by omega) (by simp;omega) ?_;intro ga gz w8 uK hg8 ae9 amr;have Ff:w6.grownBy w8 (Value.slice xa i xc).ownBlock:=dP (bV ((aM _ w6).alloc (aG _) _|>.drew)) hg8;have Gr:aC (fun k=>(Value.slice xa i xc).ownBlock=some k) w6 w8:=(aC.refl _ w6).grown Ff (fun k hk=>.inl hk);refine hK _ _ (fun _ _=>⟨⟨_,Gr⟩,rfl⟩) ?_;clear hK K;refine aK [9,10,11] _ _ _ (by kernel_rfl) ?_;simp only[pick,bz,bA,bu,aS,aT];have RO:=bL Gr Yw.out (fun h=>by have:=(Ha tb h).1;omega);have q8:w8.cell? (ah tb 1)=some (.slice xa i xc):=by simp[World.cell?,RO]
   have f8:w8.frozen? (ah tb 1)=false:=by simp[World.frozen?,RO]
   have PZ:Hid ((w8.setCell (ah tb 1) (aD ga (i+1) gz)).heap[tb]? =some (UZ (.slice (some (ah b off)) n rc) (aD ga (i+1) gz) fb (.slice na M nc) (aN) n)):=dH w8 tb 1 _ _ _ RO;have KT9:aC (fun k=>k=tb) w8 (w8.setCell (ah tb 1) (aD ga (i+1) gz)):=(aC.refl (fun k=>k=tb) w8).set (a:=(ah tb 1)) (aD ga (i+1) gz) (.inl rfl);have Oa:Hid ((w8.setCell (ah tb 1) (aD ga (i+1) gz)).ownsRow w4.heap.size 2 1 (aD ga (i+1) gz) (i+1) (((bX R).take (i+1)).map (Value.int .i64))):=by
    have h9:=aY (S:=fun k=>k=tb) uK KT9 (fun g h h2=>by have:=(uK.lt g h).1;omega);show World.ownsRow _ _ _ _ _ _ _;rw[HXT.out,dh];exact h9
   have HA8:=aY WV.out Gr (fun g h h2=>bK WV.out RN.out (by decide) g h h2);have HA9:Hid ((w8.setCell (ah tb 1) (aD ga (i+1) gz)).ownsRow w4.heap.size 3 1 (.slice aa i ac) i ((List.range i).map fF)):=aY HA8 KT9 (fun g h h2=>by have:=(HA8.lt g h).1;omega);have JP:Hid (aC (fun k=>k=tb) w4 (w8.setCell (ah tb 1) (aD ga (i+1) gz))):=((lD.out.mono (S':=fun k=>k=tb\/w4.heap.size<=k) (fun k h=>.inl h)).trans (Gr.mono (fun k h=>.inr (Ha k h).1))).strip.set (a:=(ah tb 1)) _ (.inl rfl);have aDB:=Gr.size;clear Gr Ff hg8 uK RO g0 g1 g2 RN Yw lD Ha HA8 WV HA5 uJ Ce mo KT9
   go_upto_region 15 with fail
   obtain⟨w9,Cw⟩:∃w9,w9=w8.setCell (ah tb 1) (aD ga (i+1) gz):=⟨_,rfl⟩;rw[<-Cw]at PZ Oa HA9 JP |-;have Zw:w4.heap.size<=w9.heap.size:=JP.out.size;clear Cw q8 f8
   go_wp2_with (at_builtin;refine cz oU w4.heap.size HA9.out [.int .i64 (i:Nat)] rfl (by simp[Value.oneCell']) rfl _ _ rfl rfl _ rfl (by unfold maxLen;omega) (by omega) Zw ?_;intro v' sH hown' hg hblk)
   go_roundg (n-(i+1))
   case measure=>omega
   case rel=>
    have KA:aC (fun k=>(Value.slice aa i ac).ownBlock=some k) w9 sH:=(aC.refl _ w9).grown hg (fun k hk=>.inl hk);refine⟨i+1,_,v',by go_num,rfl,by omega,aG _,bL KA PZ.out (fun h=>by have:=(HA9.out.lt tb h).1;omega),aY Oa.out KA (fun g h h2=>bK Oa.out HA9.out (by decide) g h h2),?_,?_⟩
    .show World.ownsRow _ _ _ _ _ _ _;rw[Ai,dh];exact hown'
    .exact((JP.out.mono (S':=fun k=>k=tb\/w4.heap.size<=k) (fun k h=>.inl h)).trans (KA.mono (fun k h=>.inr (HA9.out.lt k h).1))).strip
  .obtain rfl:i=n:=by omega
   obtain⟨aa,ac,rfl⟩:=fI HA5.out;have Gc:Hid (HbR wr w.heap.size fb tb tc i (.slice ra i rc) (.slice na M nc) fv R):=Gq.out.kept mo.out (fun k h1 h2=>by subst h2;exact⟨_,_,_,F8.out,by decide,by decide,by decide,by decide⟩);have om:Hid (Below w.heap.size w wr):=kJ.out.trans (mo.out.toBelow kJ.out.size (fun k h=>by omega));have LU:=uJ.out;rw[kZ (by unfold bX;simp;omega)]at LU;have HXX:=ae LU;have Yu:=mo.out.size;have hA5:=HA5.out;have HA:=ae hA5;have Zx:=Ce.out;have Zy:=Gc.out.Sn;have c0':wr.cell? (ah tb 0)=some (.slice ra i rc):=by simp[World.cell?,Zx]
   have t0':wr.cell? (ah tc 0)=some (ay tb):=by simp[World.cell?,Zy]
   obtain⟨_,_,ee,-,-,jE⟩:=dU.aL cZ (by decide) Gc.out.row;injection ee with e1 e2 e3;subst e1;clear e2 e3;have hav:∀g,(Value.slice aa i ac).ownBlock=some g->w4.heap.size<=g:=fun g h=>(hA5.lt g h).1;have CP:=ae (Zp RL.out.2 RL.out.1 vV (by omega) hA5 t0' c0' jE (fun g h=>⟨by have:=hav g h;omega,by have:=hav g h;omega,fun ad e h9=>by
    have h8:=Zq Gq.out.row ad e;have:=(Gq.out.row.lt _ h8).2;have:=hav g h;omega⟩))
   have HAV:=ae hav;obtain⟨xa,xc,rfl⟩:=fI LU;clear LU hA5 Zx Zy jE hav c0 t0 c0' t0' uJ HA5 mo
   go_wp2_with fail
   refine CP.out.mono ?_;rintro e wS ⟨rfl,hrS,hkS⟩;have aiu:Hid (HbR wS w.heap.size fb tb tc i (.slice ra i rc) (.slice na M nc) fv R):=Gc.out.kept hkS (fun k h1 h2=>by obtain⟨cs,fr,e⟩:=FQ HA.out h2;exact⟨cs,_,fr,e,by decide,by decide,by decide,by decide⟩);have HTS:Hid (wS.heap[tb]? =some (UZ (.slice ra i rc) (.slice xa i xc) fb (.slice na M nc) (aN) i)):=bL hkS Ce.out (fun h=>by have:=HAV.out tb h;omega);have HXS:Hid (wS.ownsRow w.heap.size 2 1 (.slice xa i xc) i ((bX R).map (Value.int .i64))):=bR (aY HXX.out hkS (fun g h h2=>bK HXX.out HA.out (by decide) g h h2)) kJ.out.size;have HAS:=ae hrS;have HBS:Hid (Below w.heap.size w wS):=om.out.trans (hkS.toBelow om.out.size (fun k h=>by have:=HAV.out k h;have:=kJ.out.size;omega));have au3:=(bn.1 HTS.out).1;have aDD:=(bn.1 aiu.out.Sn).1;have Zx:=HTS.out;have Zy:=aiu.out.Sn;clear hrS hkS CP Gc om HXX HA Ce jk anN Yu;have g0:=aj (w:=wS) (ad:=(ah tc 0)) (v:=ay tb) (by simp[World.cell?,Zy]);have g1:=aj (w:=wS) (ad:=(ah tb 3)) (v:=.slice na M nc) (by simp[World.cell?,Zx]);clear Zx Zy
   go_upto_region 18 with fail
   refine aF (fun W=>∃p:bg wS,W=p.W) [8,9,10] [(0,true),(2,true),(3,false),(4,false),(5,true),(6,false)] (by kernel_rfl) (by kernel_rfl) (fun _ _ d _ _ h=>by cases d<;>exact h) ⟨⟨_,(aM _ _).drew⟩,rfl⟩ 5 rfl (by kernel_rfl) ?_;simp only[bG,bz,bA,bu,aS,aT,aU]
   repeat(refine aI (fun K hK=>?_);go_simp;first|(refine hK _ ?_;clear hK K)|(apply Exists.intro;refine⟨fun _=>?_,hK _ ?_⟩;rfl;clear hK K))
   refine aQ ?_;refine az [1] (by kernel_rfl) (by simp) ?_;refine ak.cons rfl (fun K hK=>?_) ak.nil;obtain⟨w6,rO⟩:∃w6,w6=(wS.alloc (.cells #[ag (-1)] 3)).drew:=⟨_,rfl⟩;have jR:Below wS.heap.size wS w6:=by rw[rO];exact((aM _ _).alloc (aG _) _).drew
   have N9:w6.heap[wS.heap.size]? =some (.cells #[ag (-1)] 3 (0,0)):=by rw[rO];exact dE wS _
   go_simp;rw[<-rO];clear rO;refine hK _ _ (fun _ _=>⟨⟨_,jR⟩,rfl⟩) ?_;clear hK K;refine az [7] (by kernel_rfl) (by simp) ?_;refine ak.cons rfl (fun K hK=>?_) ak.nil;refine bD QE rfl _ _ rfl (vals:=#[aD wS.heap.size 1 1,ag M]) rfl (Zn w6 wS.heap.size M N9 (by omega)) ?_;rintro e w7 ⟨hv,rfl,mg,uL⟩;have Vb:Below wS.heap.size wS w7:=jR.trans (uL.mono jR.size);refine⟨_,rfl,hK _ _ (fun _ _=>⟨⟨_,Vb⟩,rfl⟩) ?_⟩;clear hK K;refine aK [8,9,10] _ _ _ (by kernel_rfl) ?_;simp only[pick,bz,bA,bu,aS,aT];have KQ:=(Vb.block tb au3).trans HTS.out;have q7:w7.cell? (ah tb 4)=some (aN):=by simp[World.cell?,KQ]
   have f7:w7.frozen? (ah tb 4)=false:=by simp[World.frozen?,KQ]
   obtain⟨ha,hc,rfl⟩:=fI mg;obtain⟨w8,Zz⟩:∃w8,w8=w7.setCell (ah tb 4) (.slice ha M hc):=⟨_,rfl⟩;have KT:aC (fun k=>k=tb) w7 w8:=by rw[Zz];exact(aC.refl (fun k=>k=tb) w7).set (a:=(ah tb 4)) _ (.inl rfl)
   have K7:aC (fun _=>False) wS w7:=(aC.refl _ wS).below Vb;have Sq:HbR w7 w.heap.size fb tb tc i (.slice ra i rc) (.slice na M nc) fv R:=aiu.out.kept K7 (fun k h1 h2=>h2.elim);have Vd:HbR w8 w.heap.size fb tb tc i (.slice ra i rc) (.slice na M nc) fv R:=Sq.kept KT (fun k h1 h2=>by subst h2;exact⟨_,_,_,KQ,by decide,by decide,by decide,by decide⟩);have hX8:=fu (aY HXS.out K7 (fun _ _ h=>h)) KT KQ (by decide);have hH8:=fu mg KT KQ (by decide);have hA8:=fu (aY HAS.out K7 (fun _ _ h=>h)) KT KQ (by decide);have Xh:wS.heap.size<=w6.heap.size:=jR.size;have hs7:wS.heap.size<=w7.heap.size:=Vb.size;have hs8:w7.heap.size<=w8.heap.size:=KT.size;have hsw:=HBS.out.size;have HH:Hid (dC w8 w.heap.size w8.heap.size tb fb R (fun _=>none) i ⟨.slice ra i rc,.slice xa i xc,.slice na M nc,.slice ha M hc,fv⟩):=by
    refine⟨by rw[Zz];exact dH w7 tb 4 _ _ _ KQ,⟨air,by omega,Cv.1,(bn.1 Vd.iT.blk).1,aG _⟩,by rw[vV];exact Vd.row,by rw[vV];exact hX8,by rw[vV];exact Vd.iT,by rw[vV];exact Vd.jG,?_,?_⟩
    .rw[vV,<-Ey.out,Zo];exact bR hH8 (by omega)
    .rintro v (rfl|rfl|rfl|rfl|rfl) g e
     .exact(Vd.row.lt g e).2
     .exact(hX8.lt g e).2
     .exact(Vd.jG.lt g e).2
     .exact(hH8.lt g e).2
     .exact(Vd.iT.row.lt g e).2
   have MF:Hid (Below w.heap.size w w8):=(HBS.out.trans (Vb.mono HBS.out.size)).trans (KT.toBelow (by omega) (fun k h=>by omega));have HA8:=ae hA8;have aiv:=ae Vd.Sn;have au4:tc<w8.heap.size:=(bn.1 Vd.Sn).1;have HHB:Hid (∀g,(Value.slice ha M hc).ownBlock=some g->wS.heap.size<=g):=fun g e=>by have:=(hH8.lt g e).1;omega
   clear g0 g1 jR N9 mg uL Vb KQ KT K7 Sq Vd hX8 hH8 hA8 Xh hs7 hs8
   go_upto_region 19 with fail
   rw[<-Zz];clear Zz q7 f7;by_cases h0:i=0
   .have d5:decide ((i:Int)>0)=false:=by simp;omega
    have d6:decide ((0:Int)<(i:Int))=false:=by simp;omega
    have d7:decide (0<i)=false:=by simp;omega
    have hfs:Fw R=fun _=>none:=by
     have hR0:R=[]:=jw (by omega);subst hR0;unfold Fw;rw[show dQ []=[]from jw (by rw[kL];rfl),Bp]
    have eU:Hid (J8 w R (.returned (.tuple #[ay tb,ag 0])) w8):=⟨tb,fb,⟨.slice ra i rc,.slice xa i xc,.slice na M nc,.slice ha M hc,fv⟩,rfl,by rw[hfs,vV];exact HH.out,MF.out⟩;have Zy:=aiv.out;have t8:w8.cell? (ah tc 0)=some (ay tb):=by simp[World.cell?,Zy]
    clear hfs Zy h0;go_wp2;go_ret2;exact eU.out
   .have h0':0<i:=by omega
    have d5:decide ((i:Int)>0)=true:=by simp;omega
    have d6:decide ((0:Int)<(i:Int))=true:=by simp;omega
    have d7:decide (0<i)=true:=by simp;omega
    have zA:Below w8.heap.size w8 w8.drew:=(aM _ _).drew;have hmd:=HH.out.below zA (aG _);have ad4:=hmd.iT.blk;rw[vV]at ad4;have NW:=ae (jV fb i h0' (by omega) w8.drew (by simp[World.cell?,ad4]) (by simp[World.cell?,ad4]));obtain⟨w1',w2',w3'⟩:=bT 0 i h0';have hTs:=fB 0 i h0';obtain⟨_,_,eA,-,hcA,hrA⟩:=Rd.aL (enc:=fF) (au HA8.out zA);injection eA with eA1 eA2 eA3;subst eA1 eA3;have CF:=ae (U8 (by omega) (dO 0 i) 0 (by rw[vV];exact kH i h0') w1' (by omega) (dQ R) w8.drew (fun _=>none) aa ac hmd hrA (by rw[kL];omega) hcA (fun ad e h9=>by
     have h8:=Zq HAS.out ad e;have:=(HAS.out.lt _ h8).2;have:=HHB.out _ h9;omega) (fun k hk=>by have:=(pz RL.out.1 RL.out.2).lt hk;omega))
    rw[kL,vV,show(dO 0 i).root 0=2*i-2 by unfold FT.root;omega]at CF;have HFS:Hid (fillH (dO 0 i) 0 (dQ R) (fun _=>none)=Fw R):=by show _=_;unfold Fw;rw[vV]
    have Zy:=aiv.out;have g0:=aj (w:=w8) (ad:=(ah tc 0)) (v:=ay tb) (by simp[World.cell?,Zy]);clear Zy ad4 hmd w1' w2' w3' hTs hcA hrA eA2 h0
    go_upto_region 20 with fail
    refine aF (fun W=>∃p:bg w8,W=p.W) [4] [(0,true),(1,false),(3,false)] (by kernel_rfl) (by kernel_rfl) (fun _ _ d _ _ h=>by cases d<;>exact h) ⟨⟨_,(aM _ _).drew⟩,rfl⟩ 2 rfl (by kernel_rfl) ?_;simp only[bG,bz,bA,bu,aS,aT,aU]
    repeat(refine aI (fun K hK=>?_);go_simp;first|(refine hK _ ?_;clear hK K)|(apply Exists.intro;refine⟨fun _=>?_,hK _ ?_⟩;rfl;clear hK K))
    refine aQ ?_;refine az [2] (by kernel_rfl) (by simp) ?_;refine ak.cons rfl (fun K hK=>?_) ak.nil;refine bD nM rfl _ _ rfl (vals:=#[ay fb]) rfl NW.out ?_;rintro e w' ⟨rfl,JE⟩;subst JE;refine⟨_,rfl,hK _ _ (fun _ _=>⟨⟨_,zA⟩,rfl⟩) ?_⟩;clear hK K;refine aK [4] _ _ _ (by kernel_rfl) ?_;simp only[pick,bz,bA,bu,aS,aT]
    go_wp2_with fail
    refine CF.out.mono ?_;rintro e w9 ⟨rfl,hM9,Pp⟩;have anT:=(Pp.block tc (show tc<w8.drew.heap.size from au4) (fun h=>by have:=HHB.out tc h;omega)).trans (show w8.drew.heap[tc]? =_ from aiv.out);have t9:w9.cell? (ah tc 0)=some (ay tb):=by simp[World.cell?,anT]
    have eU:Hid (J8 w R (.returned (.tuple #[ay tb,ag 0])) w9):=by
     refine⟨tb,fb,⟨.slice ra i rc,.slice xa i xc,.slice na M nc,.slice ha M hc,fv⟩,rfl,?_,?_⟩
     .rw[<-HFS.out,vV];exact hM9.grow (by have:=Pp.size;exact this) (aG _)
     .exact(MF.out.trans (zA.mono MF.out.size)).trans (Pp.toBelow (by have:=MF.out.size;exact this) (fun k h=>by have:=HHB.out k h;omega))
    clear hM9 Pp anT;go_wp2;go_ret2;exact eU.out
end Go.Proofs.YtkjdbndekceffaaGreat
namespace Go.Proofs.YtkjdbndekceffaaGreat
open Go.RowKit Go.Sort Go.Shelf Go.Lib Go.Maps
def oG (w:World) (lo hi tb n0:Nat) (l:List Pt):Prop:=
 ∃fb R h V,dC w lo hi tb fb R h l.length V/\nG R h/\Bt R h l/\R.length=n0/\n0<=20000
def Sr (n:Nat):Nat:=6*Lib.bitLen n+1
section
variable {w w':World} {lo hi tb n0:Nat} {l:List Pt}
theorem oG.kept {S:Nat->Prop} (h:oG w lo hi tb n0 l) (K:aC S w w') (hS:∀k,lo<=k->k<hi->¬S k):oG w' lo hi tb n0 l:=by
 obtain⟨fb,R,h,V,h1,h2⟩:=h;exact⟨fb,R,h,V,h1.kept K hS,h2⟩
theorem oG.below {B:Nat} (h:oG w lo hi tb n0 l) (hb:Below B w w') (hB:hi<=B):oG w' lo hi tb n0 l:=by
 obtain⟨fb,R,h,V,h1,h2⟩:=h;exact⟨fb,R,h,V,h1.below hb hB,h2⟩
theorem oG.gZ (h:oG w lo hi tb n0 l):hi<=w.heap.size:=by
 obtain⟨fb,R,h,V,h1,h2⟩:=h;exact h1.fo.2.2.2.2
theorem oG.Qi (h:oG w lo hi tb n0 l):l.length<=n0/\n0<=20000:=by
 obtain⟨fb,R,h,V,h1,h2,h3,h4,h5⟩:=h;have:=h2.few;have:=h3.len;omega
theorem ZA (a:Option Addr) (c:Nat) (l:List Pt) (w:World) (hl:dU fH 3 w a l) (hn:l.length<=20000) (hw:Mm l) (hu:Eg l=true):
  aO 37 #[.slice a l.length c] w fun e w'=>∃tb,e=.returned (.tuple #[ay tb,ag 0])/\oG w' w.heap.size w'.heap.size tb l.length l/\Below w.heap.size w w':=
 (QF a c l w hl hn hw hu).mono fun e w' ⟨tb,fb,V,he,h1,h2⟩=>by
  have hu':(ids l).Nodup:=by unfold Eg at hu;simpa using hu
  have hs:=jd hu';have hid:(ids (gM l)).Nodup:=((eZ l).map _).nodup_iff.2 hu';have hlen:(gM l).length=l.length:=(eZ l).length_eq;rw[hlen]at h1;exact⟨tb,he,⟨fb,_,_,V,h1,(RV hs hid).1,(UR hs hid).trans (eZ l),hlen,by omega⟩,h2⟩
theorem ZB (h:oG w lo hi tb n0 l) (x1 x2 y:Int):
  aO 41 #[ay tb,ag x1,ag x2,ag y] w fun e w'=>∃v,∃c:Nat,e=.returned (.tuple #[v,ag (c:Nat)])/\((vX l x1 x2 y).length<=c/\c<=2*(vX l x1 x2 y).length+Sr n0)/\w'.ownsRow w.heap.size 27 1 v (vX l x1 x2 y).length ((vX l x1 x2 y).map (Value.int .u32))/\Below w.heap.size w w':=by
 obtain⟨fb,R,h,V,h1,h2,h3,h4,h5⟩:=h;refine(Qv h1 h2 (by omega) x1 x2 y).mono ?_;rintro e w' ⟨v,he,hr,hb⟩;have e0:(oN true R h x1 x2 y).1=Bu R h x1 x2 y:=by rw[RY h2 true x1 x2 y];simp
 obtain⟨e1,e2⟩:=Ql h3 x1 x2 y;have hc:=Hy h2 (by omega) true x1 x2 y;rw[e0,e2,h4]at hc;rw[e0,e1,e2]at hr;refine⟨v,_,he,⟨hc.1,?_⟩,hr,hb⟩;have:=hc.2;unfold Sr;simp only[gV]at this;omega
end
end Go.Proofs.YtkjdbndekceffaaGreat
