/- Made small by a program. -/
import Derived.Test.YtkjdbndekceffaaGreatW06
import Derived.Test.YtkjdbndekceffaaGreatW08
set_option linter.unusedSimpArgs false
set_option linter.unusedVariables false
set_option maxRecDepth 100000
set_option maxHeartbeats 16000000
namespace Go.Proofs.YtkjdbndekceffaaGreat
open Tryz
section
open Go.RowKit Go.Sort Go.Shelf Go.Lib Go.Maps
theorem vV:∀args w,(callFunc 124 args).run prog w=.ok (.enter 124 args) w:=cK func124 (by kernel_rfl) rfl
theorem Ni (q p:Pt) (a:Nat) (W:World) (b:W.cell? (ae a 0)=some (aa p.1)) (c:W.cell? (ae a 1)=some (aa p.2.1)) (d:W.cell? (ae a 2)=some (ai p.2.2)):
  aH 124 #[iD q.1 q.2.1 q.2.2,ah a] W fun e w'=>e=.returned (.bool (decide (q=p)))/\wF W w':=by
 have f:=gW W _ b;have g:=ag b;have h:=ag c;have i:=ag d;have⟨j,k,l⟩:=p;have⟨m,n,o⟩:=q;simp only at*;go_enter func124,ntmps124;go_wp2
 all_goals
  go_ret;exact⟨by simp[*],(wF.refl _).alloc _⟩
theorem PE (p:Pt) (d:Nat) (a:Option Addr) (c:Nat) (l:List Pt) (w:World) (r:w.cell? (ae d 0)=some (aa p.1)) (D:w.cell? (ae d 1)=some (aa p.2.1)) (E:w.cell? (ae d 2)=some (ai p.2.2)) (F:cz dx 3 w a l) (T:l.length<=1000000):
  aH 190 #[.slice a l.length c,.func (.func 124) #[] #[ah d]] w fun e w'=>
   (∃k:Int,e=.returned (aa k)/\((k=-1/\p∉l)\/∃i:Nat,k=i/\i<l.length/\l[i]? =some p/\p∉l.take i))/\Below w.heap.size w w':=by
 have K:=af F;have t:=gW w _ r;have I:=af (fun(q:Pt) (W:World) (s:Below w.heap.size w W)=>Ni q p d W ((s.cell (p:=(ae d 0)) t).trans r) ((s.cell (p:=(ae d 1)) t).trans D) ((s.cell (p:=(ae d 2)) t).trans E));have P:=vV;clear r D E F;go_enter func190,ntmps190;go_wp2
 go_loopw [8] (fun u wr=>∃i:Nat,u=.int .i64 i/\i<=l.length/\Hid (p∉l.take i)/\Hid (Below w.heap.size w wr)) (fun u _=>l.length-(intOf u).toNat)
 case atStart=>exact⟨0,rfl,bf _,by simp[Hid],aB _ _⟩
 case round=>
  obtain⟨i,rfl,hi,n,g⟩:=hrel;by_cases f:i<l.length
  .obtain⟨b,off,B,Q,j⟩:=(K.o.below g.o).get (by omega);have G:=j i f 0 (by omega);have x1:=j i f 1 (by omega);have x2:=j i f 2 (by omega);simp only[dx,aM,aN,dM]at G x1 x2;have C:l.take (i+1)=l.take i++[l[i]]:=dZ f;have M:Hid (p∉l.take (i+1)↔¬l[i]=p):=by
    show _↔_;rw[C,bT];have:=n.o;constructor
    .intro h e;exact h (.inr (by simp[e]))
    .rintro h (h9|h9)
     .exact this h9
     .exact h (ll.1 h9).symm
   have J:Hid (l[i]? =some l[i]):=dw f;have H:=af (I.o l[i] wr g.o);have z:=af B;clear j B C;generalize l[i]=q at*;obtain⟨x,y,v⟩:=q;simp only at G x1 x2;obtain rfl:=z.o;clear z;have S:(i:Int)<(l.length:Int):=by omega
   go_wp2_with fail
   refine H.o.mono ?_;rintro e w2 ⟨rfl,N⟩;have A:=af (g.o.trans ((N.below (ay _)).mono g.o.size));by_cases m:(x,y,v)=p
   .have hd:decide ((x,y,v)=p)=true:=by simp[m]
    go_wp2_with fail
    go_ret;exact⟨⟨i,rfl,.inr ⟨i,rfl,f,by rw[J.o,m],n.o⟩⟩,A.o⟩
   .have hd:decide ((x,y,v)=p)=false:=by simp[m]
    have L:=af (M.o.2 m)
    go_wp2_with fail
    go_roundw
    case rel=>exact⟨i+1,by go_num,by omega,L,A⟩
    case measure=>simp[intOf];omega
  .have R:¬(i:Int)<(l.length:Int):=by omega
   have O:i=l.length:=by omega
   go_wp2_with fail
   go_ret;have h9:=n.o;rw[O,jy]at h9;exact⟨⟨-1,rfl,.inl ⟨rfl,h9⟩⟩,g.o⟩
theorem Cv:∀(L:List Pt) (j:Nat) (p:Pt),(((L.flatMap dx).set (j*3) (.int .i64 p.1)).set (j*3+1) (.int .i64 p.2.1)).set (j*3+2) (.int .u32 p.2.2)=(L.set j p).flatMap dx
 |[],j,p=>by simp
 |q::L,0,p=>by simp[dx]
 |q::L,j+1,p=>by
  have ih:=Cv L j p;rw[ng,lq,lq,<-ih];simp only[dx,lX,fK,show(j+1)*3=j*3+1+1+1 by omega,ng,show j*3+1+1+1+1=(j*3+1)+1+1+1 by omega,show j*3+1+1+1+2=(j*3+2)+1+1+1 by omega]
theorem FC {w:World} {base g c j n:Nat} {L:List Pt} (h:w.ownsRow base 29 3 (aj g n c) n (L.flatMap dx)) (p:Pt):
  (((w.setCell (ae g (j*3)) (.int .i64 p.1)).setCell (ae g (j*3+1)) (.int .i64 p.2.1)).setCell (ae g (j*3+2)) (.int .u32 p.2.2)).ownsRow base 29 3 (aj g n c) n ((L.set j p).flatMap dx):=by
 rw[<-Cv];exact((((h.stored (j*3) (.int .i64 p.1)).1).stored (j*3+1) (.int .i64 p.2.1)).1.stored (j*3+2) (.int .u32 p.2.2)).1
theorem Eb {L:List Pt} {j:Nat} (a:j<L.length):(L.flatMap dx)[j*3]? =some (.int .i64 L[j].1)/\(L.flatMap dx)[j*3+1]? =some (.int .i64 L[j].2.1)/\(L.flatMap dx)[j*3+2]? =some (.int .u32 L[j].2.2):=by
 induction L generalizing j with
 |nil=>simp at a
 |cons q L ih=>
  cases j with
  |zero=>simp[dx]
  |succ j=>
   have:=ih (j:=j) (by simpa using a);simp only[lq,dx,lX,fK,show(j+1)*3=j*3+1+1+1 by omega,aN,show j*3+1+1+1+1=(j*3+1)+1+1+1 by omega,show j*3+1+1+1+2=(j*3+2)+1+1+1 by omega,List.getElem_cons_succ];exact this
theorem BI {l:List Pt} {i m:Nat} (hi:i<=m) (d:m+1<l.length):((l.eraseIdx i).take m++l.drop m).set m l[m+1]=(l.eraseIdx i).take (m+1)++l.drop (m+1):=by
 have e:(l.eraseIdx i).length=l.length-1:=List.length_eraseIdx_of_lt (by omega);have c:((l.eraseIdx i).take m).length=m:=by rw[eB];omega
 have a:(l.eraseIdx i)[m]? =some l[m+1]:=by rw[List.getElem?_eraseIdx,aI (by omega),dw d]
 have b:m<(l.eraseIdx i).length:=by omega
 rw[dw b]at a;injection a with a;rw[sK _ _ (by omega),c,kE,kZ (by omega:m<l.length),nN,dZ b,a,dW];rfl
theorem yP {l:List Pt} {p:Pt} {i:Nat} (a:l.Nodup) (hi:l[i]? =some p):(l.filter fun q=>decide (q≠p))=l.eraseIdx i:=by
 induction l generalizing i with
 |nil=>simp at hi
 |cons x l ih=>
  rw[lY]at a;cases i with
  |zero=>
   simp only[aM,iV]at hi;subst hi;rw[lu,aI (by simp),List.eraseIdx_cons_zero];exact mH.2 fun q b=>by simp only[bW];rintro rfl;exact a.1 b
  |succ i=>
   rw[aN]at hi;have c:x≠p:=fun e=>a.1 (e▸List.mem_of_getElem? hi);rw[lu,aK (by simpa using c),List.eraseIdx_cons_succ,ih a.2 hi]
theorem Ec (w:World) (g m c:Nat) (d:∀j,j<3->(w.cell? (ae g (m*3+j))).isSome=true) (e:∀j,j<3->w.frozen? (ae g (m*3+j))=false):
  (Builtin.clear_ #[22] 0 #[.slice (some (ae g (m*3))) 1 c]).run prog w=.ok (.tuple #[]) (((w.setCell (ae g (m*3)) (.int .i64 0)).setCell (ae g (m*3+1)) (.int .i64 0)).setCell (ae g (m*3+2)) (.int .u32 0)):=by
 have b:=run_storeCells_cells (P:=prog) g (m*3) [.int .i64 0,.int .i64 0,.int .u32 0] 0 w (by simpa using d) (by simpa using e) (by intro v a;simp at a;rcases a with rfl|rfl<;>rfl);simp only[dM]at b;have a:(zeroValue 29).run prog w=.ok (.agg #[aa 0,aa 0,ai 0]) w:=by kernel_rfl
 have f:(Builtin.zeroCells (Value.agg #[aa 0,aa 0,ai 0]).cells 1).toList=[.int .i64 0,.int .i64 0,.int .u32 0]:=by kernel_rfl
 simp[Builtin.clear_,oJ underlying22,a,f,b,World.setCells]
theorem KW {w:World} {base g n n' b:Nat} {e:TypeId} {L:List Pt} (h:w.ownsRow base e 3 (aj g n b) n (L.flatMap dx)) (v:n'<=n):w.ownsRow base e 3 (aj g n' b) n' ((L.take n').flatMap dx):=by
 have⟨i,j⟩:=h;rw[fQ bu]at i;refine⟨by rw[fQ bu,eB];omega,?_⟩;rcases j with⟨c,-⟩|⟨t,s,d,c,k,l,u,m,o,p⟩
 .cases c
 .injection c with a _ f;injection a with a;injection a with a _ _;subst a f;refine .inr ⟨g,b,d,rfl,k,l,by omega,m,o,?_⟩;have q:(L.take n').flatMap dx=(L.flatMap dx).take (n'*3):=by
   have r:L.flatMap dx=(L.take n').flatMap dx++(L.drop n').flatMap dx:=by rw[<-gM,ji]
   rw[r,List.take_left' (by rw[fQ bu,eB];omega)]
  rw[q,<-p,zL];congr 1;omega
theorem Nj (p:Pt) (b g c n base:Nat) (l:List Pt) (w:World) (H:w.cell? (ae b 0)=some (aa p.1)) (S:w.cell? (ae b 1)=some (aa p.2.1)) (T:w.cell? (ae b 2)=some (ai p.2.2)) (I:w.ownsRow base 29 3 (aj g n c) n (l.flatMap dx)) (aJ:l.length=n) (aM:n<=1000000) (K:b≠g) (aN:l.Nodup):
  aH 123 #[aj g n c,.func (.func 124) #[] #[ah b]] w fun e w'=>
   ∃n',e=.returned (aj g n' c)/\n'=(l.filter fun q=>decide (q≠p)).length/\w'.ownsRow base 29 3 (aj g n' c) n' ((l.filter fun q=>decide (q≠p)).flatMap dx)/\au (fun k=>k=g) w w':=by
 subst aJ;obtain⟨F,C⟩:∃F,Hid (F=l.filter fun q=>decide (q≠p)):=⟨_,rfl⟩;rw[<-C.o];have J:=gW w _ H;have ad:=af (PE p b (some (ae g 0)) c l w H S T (by
  obtain⟨az,aA,t,-,-,aR⟩:=cz.aC bu (by decide) I;injection t with t _ _;rw[t];exact aR) aM)
 have ag:=af (fun(q:Pt) (W:World) (v:au (fun k=>k=g) w W)=>Ni q p b W ((dD (a:=(ae b 0)) (v.block b J K)).trans H) ((dD (a:=(ae b 1)) (v.block b J K)).trans S) ((dD (a:=(ae b 2)) (v.block b J K)).trans T));have a0:l.length<=c:=by
  obtain⟨az,aA,t,-,u,-⟩:=cz.aC bu (by decide) I;injection t with _ _ t;omega
 have HO:=af I;have Q:=af aN;have aX:=vV;go_enter func123,ntmps123
 go_wp2_with fail
 refine ad.o.mono ?_;rintro e w1 ⟨⟨k,rfl,aI⟩,Y⟩;have P:=af (ax HO.o Y);have O:Hid (au (fun k=>k=g) w w1):=(au.refl _ w).below Y;rcases aI with⟨rfl,aP⟩|⟨i,rfl,hi,X,-⟩
 .have aE:(l.filter fun q=>decide (q≠p))=l:=mH.2 fun q aQ=>by simp only[bW];rintro rfl;exact aP aQ
  go_wp2_with fail
  go_ret;have hF:=C.o.trans aE;rw[hF];exact⟨_,rfl,rfl,P.o,O.o⟩
 .have N:=af (C.o.trans (yP Q.o X));have al:=af X;have a3:((i:Int)==-1)=false:=by simp only[beq_eq_false_iff_ne];omega
  have a1:=List.length_eraseIdx_of_lt hi
  go_wp2_with fail
  go_loopw [5,6] (fun L aT wr=>∃m:Nat,L=.int .i64 m/\aT=.int .i64 ((m+1:Nat):Int)/\i<=m/\m+1<=l.length/\Hid (wr.ownsRow base 29 3 (aj g l.length c) l.length (((l.eraseIdx i).take m++l.drop m).flatMap dx))/\Hid (au (fun k=>k=g) w wr)) (fun L _ _=>l.length-(intOf L).toNat)
  case atStart=>exact⟨i,rfl,by go_num,ay _,by omega,by rw[wH,List.take_left' (by rw[eB];omega),ji];exact P.o,O.o⟩
  case round=>
   obtain⟨m,rfl,rfl,aG,a2,d,D⟩:=hrel;by_cases Z:m+1<l.length
   .have U:((l.eraseIdx i).take m++l.drop m).length=l.length:=by simp;omega
    have y:((l.eraseIdx i).take m++l.drop m)[m+1]? =some l[m+1]:=by
     have G:((l.eraseIdx i).take m).length=m:=by rw[eB];omega
     rw[mG (by omega),G,Dk,show m+(m+1-m)=m+1 by omega,dw Z]
    have aS:=BI aG Z;have aO:¬l[m+1]=p:=fun e=>by
     have u:=al.o;rw[dw hi]at u;injection u with u;have:=(List.getElem_inj Q.o).1 (u.trans e.symm);omega
    generalize(l.eraseIdx i).take m++l.drop m=R at*;generalize l[m+1]=q at*;have V:m+1<R.length:=by omega
    have⟨f0,f1,f2⟩:=Eb V;rw[dw V]at y;injection y with y;rw[y]at f0 f1 f2;have ab:=d.o.cellAt ((m+1)*3) (by omega);have x1:=d.o.cellAt ((m+1)*3+1) (by omega);have x2:=d.o.cellAt ((m+1)*3+2) (by omega);rw[f0]at ab;rw[f1]at x1;rw[f2]at x2;have av:=af aS;have ac:=af (fun W v=>ag.o q W v);have aD:m<R.length:=by omega
    have⟨r,s,h⟩:=q;simp only at ab x1 x2;have hd:decide ((r,s,h)=p)=false:=by simp[aO]
    have ak:=af ((aB wr.heap.size wr).alloc (ay _) (.cells #[aa r,aa s,ai h] 29));have n0:(wr.alloc (.cells #[aa r,aa s,ai h] 29)).cell? (ae wr.heap.size 0)=some (aa r):=by rw[ed _ _ _ _ rfl];rfl
    have aU:(wr.alloc (.cells #[aa r,aa s,ai h] 29)).cell? (ae wr.heap.size 1)=some (aa s):=by rw[ed _ _ _ _ rfl];rfl
    have aV:(wr.alloc (.cells #[aa r,aa s,ai h] 29)).cell? (ae wr.heap.size 2)=some (ai h):=by rw[ed _ _ _ _ rfl];rfl
    have ap:=af n0;have aq:=af aU;have ar:=af aV
    go_wp2_with fail
    refine(ac.o _ (D.o.grown (qc wr _ none) (by simp))).mono ?_;rintro e w2 ⟨rfl,aF⟩;rw[hd];have x:=aF.below (ay _);have a4:=(x.cell (p:=(ae wr.heap.size 0)) (by simp)).trans ap.o;have y1:=(x.cell (p:=(ae wr.heap.size 1)) (by simp)).trans aq.o;have y2:=(x.cell (p:=(ae wr.heap.size 2)) (by simp)).trans ar.o;have M:Hid (Below wr.heap.size wr w2):=ak.o.trans (x.mono (by simp));have f:=af (ax d.o M.o);have z:=f.o.cellAt (m*3) (by omega);have A:=f.o.cellAt (m*3+1) (by omega);have B:=f.o.cellAt (m*3+2) (by omega);have a5:=f.o.frozenAt (m*3);have a6:=f.o.frozenAt (m*3+1);have a7:=f.o.frozenAt (m*3+2);have⟨f0,f1,f2⟩:=Eb aD;rw[f0]at z;rw[f1]at A;rw[f2]at B;have an:Hid (au (fun k=>k=g) w w2):=D.o.grown (bQ M.o) (by simp);have E:=af (FC (j:=m) f.o (r,s,h));have aL:(m:Int)<(l.length:Int):=by omega
    go_wp2;go_roundw
    case rel=>exact⟨m+1,by go_num,by go_num,by omega,by omega,by rw[<-av.o];exact E.o,((an.o.set _ (.inl rfl)).set _ (.inl rfl)).set _ (.inl rfl)⟩
    case measure=>simp[intOf];omega
   .have aY:¬((m+1:Nat):Int)<(l.length:Int):=by omega
    have aL:(0:Int)<=(m:Int)/\(m:Int)<=(l.length:Int):=by omega
    have aK:l.length-m=1:=by omega
    have U:m<((l.eraseIdx i).take m++l.drop m).length:=by simp;omega
    have⟨f0,f1,f2⟩:=Eb U;have z:=d.o.cellAt (m*3) (by omega);have A:=d.o.cellAt (m*3+1) (by omega);have B:=d.o.cellAt (m*3+2) (by omega);rw[f0]at z;rw[f1]at A;rw[f2]at B;have aw:=Ec wr g m (c-m) (fun j aZ=>by
     obtain rfl|rfl|rfl:j=0\/j=1\/j=2:=by omega
     .simp[z]
     .simp[A]
     .simp[B]) (fun j _=>d.o.frozenAt (m*3+j))
    have aW:(Builtin.clear_ #[22] 0 #[.slice (some (ae g (m*3))) (l.length-m) (c-m)]).run prog wr=.ok (.tuple #[]) (((wr.setCell (ae g (m*3)) (.int .i64 0)).setCell (ae g (m*3+1)) (.int .i64 0)).setCell (ae g (m*3+2)) (.int .u32 0)):=by rw[aK];exact aw
    have E:=af (KW (n':=m) (FC (j:=m) d.o (0,0,0)) (by omega));have am:Hid (((((l.eraseIdx i).take m++l.drop m).set m (0,0,0)).take m)=F):=by
     have G:((l.eraseIdx i).take m).length=m:=by rw[eB];omega
     show _=_;rw[N.o,sK _ _ (by omega),List.take_left' G,jQ (by omega)]
    have ao:Hid (m=(l.eraseIdx i).length):=by show _=_;omega
    go_wp2_with fail
    go_ret;exact⟨m,rfl,by rw[N.o];exact ao.o,by rw[<-am.o];exact E.o,((D.o.set _ (.inl rfl)).set _ (.inl rfl)).set _ (.inl rfl)⟩
theorem Nk {l:List Pt} (h:(ids l).Nodup) (f:Pt->Bool):(ids (l.filter f)).Nodup:=(List.filter_sublist.map _).nodup h
theorem Ed {l:List Pt} (h:(ids l).Nodup):l.Nodup:=(dE.1 h).imp fun h e=>h (congrArg (fun p:Pt=>p.2.2) e)
end
section
open Go.RowKit Go.Maps
def nn (c:eG):iR:=(c.2,c.2)
def cZ (al:List Bool) (c:eG):Bool:=al[c.2.toNat]? ==some true
def rE (al:List Bool) (l:List eG):List Pt:=(l.filter (cZ al)).map (·.1)
def gT (eP:List Int) (l:List eG) (i:Int):List Int:=l.foldl (fun v c=>v.set c.2.toNat i) eP
theorem mi:∀(l:List eG) (eP:List Int) (i:Int),(gT eP l i).length=eP.length
 |[],_,_=>rfl
 |c::l,eP,i=>by
  show(gT (eP.set c.2.toNat i) l i).length=_;rw[mi l];simp
theorem FD (eP:List Int) (l:List eG) (c:eG) (i:Int):gT eP (l++[c]) i=(gT eP l i).set c.2.toNat i:=by simp[gT]
theorem pR:∀(l:List eG) (eP:List Int) (i:Int) (k:Nat),(∀c∈l,c.2.toNat≠k)->(gT eP l i)[k]? =eP[k]?
 |[],_,_,_,_=>rfl
 |c::l,eP,i,k,h=>by
  show(gT (eP.set c.2.toNat i) l i)[k]? =_;rw[pR l _ i k (fun d hd=>h d (kC _ hd)),mY (h c mZ)]
theorem xP:∀(l:List eG) (eP:List Int) (i:Int) (c:eG),c∈l->c.2.toNat<eP.length->(gT eP l i)[c.2.toNat]? =some i
 |d::l,eP,i,c,h,g=>by
  show(gT (eP.set d.2.toNat i) l i)[c.2.toNat]? =_;by_cases f:∃e∈l,e.2.toNat=c.2.toNat
  .obtain⟨e,b,a⟩:=f;rw[<-a];exact xP l _ i e b (by rw[jY,a];exact g)
  .have j:∀e∈l,e.2.toNat≠c.2.toNat:=fun e b a=>f ⟨e,b,a⟩;rcases gP.1 h with rfl|h
   .rw[pR l _ i _ j,sJ g]
   .exact absurd rfl (j c h)
structure nC (CB:List (List eG)) (al:List Bool) (A:List eG) (N:Int):Prop where
 nm:∃NB,vR (CB.map (·.map nn)) NB al (al.map fun _=>0) A.length N
 live:A.Perm (CB.flatten.filter (cZ al))
 keys:(ids (A.map (·.1))).Nodup
 good:∀c∈CB.flatten,Gy c.1
structure Sz (CB:List (List eG)) (al:List Bool) (eP:List Int):Prop where
 Ic:eP.length=al.length
 lvl:∀(i:Nat) (h:i<CB.length),∀c∈CB[i],eP[c.2.toNat]? =some (i:Int)
theorem vW (CB:List (List eG)):(CB.map (·.map nn)).flatten=CB.flatten.map nn:=by rw[List.map_flatten]
theorem Nl (al:List Bool) (l:List eG):(l.map nn).filter (dG al)=(l.filter (cZ al)).map nn:=by
 rw[wW];rfl
theorem KX {α a:Type} (f:α->a) (CB:List (List α)) (i:Nat):eF (CB.map (·.map f)) i=(eF CB i).map f:=by
 simp[eF,List.map_flatten,Dq,List.map_take]
theorem KY {α a:Type} (f:α->a) (CB:List (List α)) (i:Nat) (x:α):(jO CB i x).map (·.map f)=jO (CB.map (·.map f)) i (f x):=by
 simp[jO,KX,wZ]
theorem Aw {α a:Type} (f:α->a):∀(k:Nat) (r:List α),(setC k r).map (·.map f)=setC k (r.map f)
 |0,_=>rfl
 |k+1,r=>by
  unfold setC;rw[bX];split
  .rw[bS,Aw f k,wZ];simp[List.map_take]
  .rw[bS,Aw f k];rfl
section
variable {CB:List (List eG)} {al:List Bool} {eP:List Int} {A:List eG} {N:Int}
theorem nC.num (h:nC CB al A N) {c:eG} (a:c∈CB.flatten):∃k:Nat,c.2=k/\k<al.length:=by
 have⟨NB,b⟩:=h.nm;exact b.vS (nn c) (by rw[vW];exact tJ a)
theorem nC.Rw (h:nC CB al A N):(CB.flatten.map (·.2)).Nodup:=by
 have⟨NB,a⟩:=h.nm;have:=a.vT;rw[vW,uq]at this;exact this
theorem nC.one (h:nC CB al A N) {c d:eG} (a:c∈CB.flatten) (hd:d∈CB.flatten) (e:c.2.toNat=d.2.toNat):c=d:=by
 obtain⟨k,f,-⟩:=h.num a;obtain⟨m,g,-⟩:=h.num hd;have b:CB.flatten.Pairwise fun p q=>p.2≠q.2:=dE.1 h.Rw;rcases fE b a hd with h1|h1|h1
 .exact h1
 .exact absurd (by omega) h1
 .exact absurd (by omega) h1
theorem nC.stored (h:nC CB al A N):N=(CB.flatten.length:Nat):=by
 have⟨NB,a⟩:=h.nm;have:=a.stored;rw[vW,bX]at this;exact this
theorem nC.levels (h:nC CB al A N):CB.length<=13/\CB.flatten.length<=5000/\al.length<=5000/\(CB.length≠0->2^(CB.length-1)<=CB.flatten.length):=by
 have⟨NB,b⟩:=h.nm;have a:=b.levels;have c:=b.small;rw[bX]at a;rw[vW,bX]at a c;exact⟨a.1,c,b.bound,a.2⟩
theorem nC.size (h:nC CB al A N) (i:Nat) (hi:i<CB.length):CB[i].length=0\/CB[i].length=2^i:=by
 have⟨NB,a⟩:=h.nm;have:=a.size i (by simpa using hi);simpa using this
theorem nC.inl (h:nC CB al A N) {i:Nat} (hi:i<CB.length) {c:eG} (a:c∈CB[i]):c∈CB.flatten:=oH.2 ⟨_,bN hi,a⟩
theorem nC.few (h:nC CB al A N) (i:Nat) (hi:i<CB.length):CB[i].length<=5000:=
 bJ (CW (bN hi)).length_le h.levels.2.1
theorem nC.bk (h:nC CB al A N) (i:Nat) (hi:i<CB.length):Gz (rE al CB[i])/\(ids (rE al CB[i])).Nodup/\∀c∈CB[i],∃k:Nat,c.2=k/\k<al.length:=by
 refine⟨fun p hp=>?_,?_,fun c a=>h.num (h.inl hi a)⟩
 .obtain⟨c,a,rfl⟩:=dI.1 hp;exact(h.good c (h.inl hi (bK.1 a).1)).2.2
 .have b:((CB.flatten.filter (cZ al)).map (·.1)).Perm (A.map (·.1)):=(h.live.map _).symm;have d:(ids ((CB.flatten.filter (cZ al)).map (·.1))).Nodup:=((b.map _).nodup_iff).2 h.keys;exact((((CW (bN hi)).filter _).map _).map _).nodup d
theorem nC.apart (h:nC CB al A N) {i j:Nat} (hi:i<CB.length) (b:j<CB.length) (k:i≠j) {c d:eG} (a:c∈CB[i]) (hd:d∈CB[j]):c.2.toNat≠d.2.toNat:=fun e=>by
 have g:=h.one (h.inl hi a) (h.inl b hd) e;subst g;have f:=gH.1 (List.pairwise_flatten.1 (dE.1 h.Rw)).2;rcases Nat.lt_or_gt_of_ne k with h4|h4
 .exact f i j hi b h4 c a c hd rfl
 .exact f j i b hi h4 c hd c a rfl
theorem nC.Ie (h:nC CB al A N):A.length<=CB.flatten.length/\(A.length:Int)=(al.count true:Nat):=by
 have⟨NB,a⟩:=h.nm;exact⟨by rw[h.live.length_eq];exact gK _ _,a.cnt⟩
theorem Rx:nC [] [] [] 0:=⟨⟨[],Rv.tovR⟩,oL _,oK,by simp⟩
theorem Ry:Sz [] [] []:=⟨rfl,fun i h=>absurd h (jR _)⟩
theorem KZ {al:List Bool} {c:eG} {b:Bool} {k:Nat} (a:c.2=k) (d:k<al.length):cZ (al++[b]) c=cZ al c:=by
 unfold cZ;rw[a,gN,kY d]
theorem JG (h:nC CB al A N) (b:Bool) {l:List eG} (f:∀c∈l,c∈CB.flatten):l.filter (cZ (al++[b]))=l.filter (cZ al):=lZ fun c a=>by
 have⟨k,d,e⟩:=h.num (f c a);exact KZ d e
theorem nC.add (h:nC CB al A N) (s:N<=2*A.length) (x:Pt) (z:Gy x) (w:x.2.2∉ids (A.map (·.1))) (f:al.length<5000) (i:Nat) (hi:i<=CB.length) (v:∀j (d:j<CB.length),j<i->CB[j]≠[]) (m:∀h:i<CB.length,CB[i]=[]):
  nC (jO CB i (x,(al.length:Int))) (al++[true]) (A++[(x,(al.length:Int))]) (N+1):=by
 have⟨NB,u⟩:=h.nm;have hP:=r9 CB i (x,(al.length:Int)) m;have t:∀c∈(jO CB i (x,(al.length:Int))).flatten,c=(x,(al.length:Int))\/c∈CB.flatten:=fun c hc=>gP.1 (hP.mem_iff.1 hc);refine⟨?_,?_,?_,?_⟩
 .have y:=Ng (NB:=NB) (pl:=al.map fun _=>0) ⟨u,s⟩ (al.length:Int) 0 (fun e l=>?_) f i (by simpa using hi) (fun j d r=>?_) (fun d=>?_) ((eF (CB.map (·.map nn)) i++[((al.length:Int),(al.length:Int))]).mergeSort fun p q=>decide (p.1<=q.1)) (qz _ _) ?_
  .have e:((A++[(x,(al.length:Int))]).length:Int)=A.length+1:=by simp
   rw[KY,bS,e];exact⟨_,y.tovR⟩
  .rw[vW]at l;obtain⟨c,hc,rfl⟩:=dI.1 l;have⟨k,C,D⟩:=h.num hc;show c.2≠_;omega
  .rw[fJ];intro n;exact v j (by simpa using d) r (List.map_eq_nil_iff.1 n)
  .rw[fJ,m (by simpa using d)];rfl
  .have:=qA (le:=fun p q:iR=>decide (p.1<=q.1)) (fun a b c g B=>by simp at*;omega) (fun a b=>by simp;omega) (eF (CB.map (·.map nn)) i++[((al.length:Int),(al.length:Int))]);exact this.imp fun h=>by simpa using h
 .refine List.Perm.trans ?_ ((hP.filter _).symm);have ht:cZ (al++[true]) (x,(al.length:Int))=true:=by simp[cZ]
  rw[lu,aK ht,JG h true fun c hc=>hc];exact List.perm_append_comm.trans (h.live.cons _)
 .have g:=h.keys;unfold ids at*;rw[bS,bS];refine oF.2 ⟨g,by simp,fun a o b f=>?_⟩;obtain rfl:b=x.2.2:=by simpa using f
  exact fun e=>w (e▸o)
 .intro c hc;rcases t c hc with rfl|hc
  .exact z
  .exact h.good c hc
theorem Sz.add (b:Sz CB al eP) (h:nC CB al A N) (x:Pt) (i:Nat) (hi:i<=CB.length):Sz (jO CB i (x,(al.length:Int))) (al++[true]) (gT (eP++[(i:Int)]) (eF CB i++[(x,(al.length:Int))]) i):=by
 refine⟨by rw[mi];simp[b.Ic],?_⟩;intro j t c a;have y:(eP++[(i:Int)]).length=al.length+1:=by simp[b.Ic]
 have r:∀d∈eF CB i,d∈CB.flatten:=fun d hd=>by
  have:=(jg CB i).mem_iff.1 hd;have⟨l,p,f⟩:=oH.1 this;exact oH.2 ⟨l,List.mem_of_mem_take p,f⟩
 rw[oo]at a;by_cases q:j<i
 .rw[aK q]at a;cases a
 .rw[aI q]at a;by_cases o:j=i
  .rw[aK o]at a;subst o;refine xP _ _ _ c a ?_;rw[y];rcases bT.1 a with h3|h3
   .obtain⟨k,v,w⟩:=h.num (r c h3);omega
   .obtain rfl:c=(x,(al.length:Int)):=by simpa using h3
    simp
  .rw[aI o,iO]at a;have g:j<CB.length:=by rw[om _ _ _ hi]at t;split at t<;>omega
   rw[dw g,gq]at a;have s:=h.inl g a;have⟨k,v,w⟩:=h.num s;rw[pR _ _ _ _ fun d hd e=>?_,kY (by rw[b.Ic];omega)]
   .exact b.lvl j g c a
   .rcases bT.1 hd with h3|h3
    .have u:=h.one (r d h3) s e;subst u;have⟨l,p,f⟩:=oH.1 ((jg CB i).mem_iff.1 h3);obtain⟨m,z,rfl⟩:=jk p;rw[eB]at z;rw[wT]at f;have n:=b.lvl m (by omega) d f;rw[b.lvl j g d a]at n;injection n with n;omega
    .obtain rfl:d=(x,(al.length:Int)):=by simpa using h3
     simp only[gN]at e;omega
theorem nC.dead (h:nC CB al A N) (b:N<=2*A.length) {c:eG} (f:c∈A):nC CB (al.set c.2.toNat false) (A.filter fun d=>decide (d.1≠c.1)) N/\(∀l,(∀d∈l,d∈CB.flatten)->rE (al.set c.2.toNat false) l=(rE al l).filter fun q=>decide (q≠c.1))/\(A.filter fun d=>decide (d.1≠c.1)).length+1=A.length:=by
 have⟨NB,E⟩:=h.nm;have g:=bK.1 (h.live.mem_iff.1 f);have⟨k,a,B⟩:=h.num g.1;have x:al[k]? =some true:=by
  have:=g.2;unfold cZ at this;rw[a,gN]at this;simpa using this
 rw[a,gN];have r:(A.map (·.1)).Nodup:=Ed h.keys;have z:∀d∈CB.flatten,(cZ (al.set k false) d=(cZ al d&&decide (d.1≠c.1))):=fun d hd=>by
  have⟨m,b,H⟩:=h.num hd;by_cases e:d=c
  .subst e;have:m=k:=by omega
   subst this;unfold cZ;rw[a,gN,sJ B];simp
  .have D:k≠m:=fun s=>e (h.one hd g.1 (by rw[b,a,s]));have t:cZ (al.set k false) d=cZ al d:=by
    unfold cZ;rw[b,gN,mY D]
   rw[t];cases w:cZ al d with
   |false=>rfl
   |true=>
    have y:=h.live.mem_iff.2 (bK.2 ⟨hd,w⟩);have F:d.1≠c.1:=fun n=>by
     have u:A.Pairwise fun p q=>p.1≠q.1:=dE.1 r;rcases fE u y f with h1|h1|h1
     .exact e h1
     .exact h1 n
     .exact h1 n.symm
    simp[F]
 have o:∀l:List eG,(∀d∈l,d∈CB.flatten)->l.filter (cZ (al.set k false))=(l.filter (cZ al)).filter fun d=>decide (d.1≠c.1):=fun l j=>by
  rw[qF];refine lZ fun d hd=>?_;rw[z d (j d hd)];exact Bool.and_comm _ _
 have C:(A.filter fun d=>decide (d.1≠c.1)).length+1=A.length:=by
  have:=List.length_eq_countP_add_countP (fun d:eG=>decide (d.1≠c.1)) (l:=A);rw[<-GD,this];congr 1;have v:A.countP (fun d=>decide ¬decide (d.1≠c.1)=true)=(A.map (·.1)).count c.1:=by
   rw[List.count,Dv];refine zy fun d _=>?_;simp[Function.comp]
  rw[v,r.count,aK (tJ f)]
 refine⟨⟨⟨NB,?_⟩,?_,?_,h.good⟩,fun l j=>?_,C⟩
 .have:=JD (NB:=NB) ⟨E,b⟩ k x;rw[show((A.filter fun d=>decide (d.1≠c.1)).length:Int)=A.length-1 by omega];have e:(al.set k false).map (fun _=>(0:Int))=al.map fun _=>0:=by
   rw[j3];refine qI (by simp) fun i h1 G=>?_;rw[List.getElem_set];split<;>simp
  rw[e];exact this
 .rw[o _ fun d hd=>hd];exact h.live.filter _
 .unfold ids at*;exact((List.filter_sublist.map _).map _).nodup h.keys
 .unfold rE;rw[o l j,wW];rfl
theorem nC.anew (h:nC CB al A N) {L:List eG} (n:L=(CB.reverse.flatten).filter (cZ al)):
  nC (setC (Lib.bitLen L.length) L) al A L.length/\L.length=A.length:=by
 have⟨NB,t⟩:=h.nm;have hp:L.Perm A:=by
  rw[n];exact(((tO CB).flatten).filter _).trans h.live.symm
 have u:L.length<=5000:=by
  have g:=h.Ie.1;have j:=h.levels.2.1;have:=hp.length_eq;omega
 have s:L.length<2^Lib.bitLen L.length:=by
  by_cases f:L.length=0
  .rw[f];decide
  .exact(bM _ (by omega) f).2.2
 have hP:=j5 _ L s;have e:((CB.map (·.map nn)).reverse.flatten).filter (dG al)=L.map nn:=by
  rw[n,<-Nl,List.map_flatten,Dq]
 have o:∀c∈L,c∈CB.flatten/\cZ al c=true:=fun c d=>bK.1 (h.live.mem_iff.1 (hp.mem_iff.1 d));refine⟨⟨?_,?_,h.keys,fun c d=>h.good c (o c (hP.mem_iff.1 d)).1⟩,hp.length_eq⟩
 .have:=JE (NB':=(setC (Lib.bitLen L.length) (L.map nn)).map fun l=>l.mergeSort fun p q=>decide (p.1<=q.1)) t (by rw[e,bX];exact⟨by simp,fun i g j=>by rw[fJ];exact qz _ _⟩) (fun l r=>by
   obtain⟨m,-,rfl⟩:=dI.1 r;have:=qA (le:=fun p q:iR=>decide (p.1<=q.1)) (fun a b c g j=>by simp at*;omega) (fun a b=>by simp;omega) m;exact this.imp fun h=>by simpa using h)
  have k:=this.1.tovR;rw[e,bX]at k;rw[Aw];exact⟨_,k⟩
 .refine hp.symm.trans (hP.symm.trans ?_);rw[mH.2 fun c d=>(o c (hP.mem_iff.1 d)).2]
end
end
end Go.Proofs.YtkjdbndekceffaaGreat
namespace Go.Proofs
open Go.Shelf
def Tryz.Ig:Go.Shelf.Ren:=⟨fun|45=>198|n=>n,fun|22=>35|23=>27|3=>3|4=>4|0=>0|n=>n,fun|n=>n⟩
theorem Tryz.Ih:Go.Proofs.SlLaysE.n45 Tryz.prog Tryz.Ig:={
 mixed:=by kernel_rfl
 f45:=⟨Tryz.f198.name,by decide,Tryz.func198.trans (congrArg some (by kernel_rfl))⟩
 t0:=tT
 a0:=uu
 z0:=uj
 v0:=tZ
 t3:=qH
 a3:=ny
 z3:=nu
 v3:=qJ
 t4:=oG
 a4:=qP
 z4:=qN
 v4:=qK
 t22:=Tryz.underlying35
 a22:=Tryz.isAgg35
 z22:=Tryz.sizeOf35
 v22:=Tryz.zeroValue35
 a23:=w9
 z23:=wX}
def Tryz.Ii:Go.Shelf.Ren:=⟨fun|45=>197|n=>n,fun|22=>143|23=>2|3=>3|4=>4|0=>0|n=>n,fun|n=>n⟩
theorem Tryz.Ij:Go.Proofs.SlLaysE.n45 Tryz.prog Tryz.Ii:={
 mixed:=by kernel_rfl
 f45:=⟨Tryz.f197.name,by decide,Tryz.func197.trans (congrArg some (by kernel_rfl))⟩
 t0:=tT
 a0:=uu
 z0:=uj
 v0:=tZ
 t3:=qH
 a3:=ny
 z3:=nu
 v3:=qJ
 t4:=oG
 a4:=qP
 z4:=qN
 v4:=qK
 t22:=Tryz.underlying143
 a22:=Tryz.isAgg143
 z22:=Tryz.sizeOf143
 v22:=Tryz.zeroValue143
 a23:=Tryz.isAgg2
 z23:=Tryz.sizeOf2}
def Tryz.Ik:Go.Shelf.Ren:=⟨fun|45=>199|n=>n,fun|22=>148|23=>3|3=>3|4=>4|0=>0|n=>n,fun|n=>n⟩
theorem Tryz.Ee:Go.Proofs.SlLaysE.n45 Tryz.prog Tryz.Ik:={
 mixed:=by kernel_rfl
 f45:=⟨Tryz.f199.name,by decide,Tryz.func199.trans (congrArg some (by kernel_rfl))⟩
 t0:=tT
 a0:=uu
 z0:=uj
 v0:=tZ
 t3:=qH
 a3:=ny
 z3:=nu
 v3:=qJ
 t4:=oG
 a4:=qP
 z4:=qN
 v4:=qK
 t22:=Tryz.underlying148
 a22:=Tryz.isAgg148
 z22:=Tryz.sizeOf148
 v22:=Tryz.zeroValue148
 a23:=ny
 z23:=nu}
end Go.Proofs
