/- Made small by a program. -/
import Derived.Test.YtkjdbndekceffaaGreatY06
import Derived.Test.YtkjdbndekceffaaGreatY08
set_option linter.unusedSimpArgs false
set_option linter.unusedVariables false
set_option maxRecDepth 100000
set_option maxHeartbeats 16000000
namespace Go.Proofs.YtkjdbndekceffaaGreat
open Tryz
section
open Go.RowKit Go.Sort Go.Shelf Go.Lib Go.Maps
theorem wY:gF 124:=dh func124 aN rfl
theorem Ox (q p:Pt) (a:Nat) (W:World) (b:W.cell? (af a 0)=some (ae p.1)) (c:W.cell? (af a 1)=some (ae p.2.1)) (d:W.cell? (af a 2)=some (ak p.2.2)):
  aK 124 #[iV q.1 q.2.1 q.2.2,aj a] W fun e w'=>e=.returned (.bool (decide (q=p)))/\xx W w':=by
 have f:=gX W _ b;have g:=ah b;have h:=ah c;have i:=ah d;have⟨j,k,l⟩:=p;have⟨m,n,o⟩:=q;simp only at*;go_enter func124,ntmps124;go_wp2
 all_goals
  go_ret;exact⟨by simp[*],(xx.refl _).alloc _⟩
theorem QL (p:Pt) (d:Nat) (a:Option Addr) (c:Nat) (l:List Pt) (w:World) (r:w.cell? (af d 0)=some (ae p.1)) (D:w.cell? (af d 1)=some (ae p.2.1)) (E:w.cell? (af d 2)=some (ak p.2.2)) (F:bV dw 3 w a l) (T:l.length<=1000000):
  aK 190 #[.slice a l.length c,.func (.func 124) #[] #[aj d]] w fun e w'=>
   (∃k:Int,e=.returned (ae k)/\((k=-1/\p∉l)\/∃i:Nat,k=i/\i<l.length/\l[i]? =some p/\p∉l.take i))/\Below w.heap.size w w':=by
 have K:=ag F;have t:=gX w _ r;have I:=ag (fun(q:Pt) (W:World) (s:Below w.heap.size w W)=>Ox q p d W ((s.cell (p:=(af d 0)) t).trans r) ((s.cell (p:=(af d 1)) t).trans D) ((s.cell (p:=(af d 2)) t).trans E));have P:=wY;clear r D E F;go_enter func190,ntmps190;go_wp2
 go_loopw [8] (fun u wr=>∃i:Nat,u=.int .i64 i/\i<=l.length/\Hid (p∉l.take i)/\Hid (Below w.heap.size w wr)) (fun u _=>l.length-(intOf u).toNat)
 case atStart=>exact⟨0,rfl,bH _,by simp[Hid],aJ _ _⟩
 case round=>
  obtain⟨i,rfl,hi,n,g⟩:=hrel;by_cases f:i<l.length
  .obtain⟨b,off,B,Q,j⟩:=(K.o.below g.o).get aa;have G:=j i f 0 aa;have x1:=j i f 1 aa;have x2:=j i f 2 aa;simp only[dw,fG,dx,dH]at G x1 x2;have C:l.take (i+1)=l.take i++[l[i]]:=ig f;have M:Hid (p∉l.take (i+1)↔¬l[i]=p):=by
    show _↔_;rw[C,bO];have:=n.o;constructor
    .intro h e;exact h (.inr (by simp[e]))
    .rintro h (h9|h9)
     .exact this h9
     .exact h (ji.1 h9).symm
   have J:Hid (l[i]? =some l[i]):=bZ f;have H:=ag (I.o l[i] wr g.o);have z:=ag B;clear j B C;generalize l[i]=q at*;obtain⟨x,y,v⟩:=q;simp only at G x1 x2;obtain rfl:=z.o;clear z;have S:(i:Int)<(l.length:Int):=aa
   go_wp2_with fail
   refine H.o.mono ?_;rintro e w2 ⟨rfl,N⟩;have A:=ag (g.o.trans ((N.below (aB _)).mono g.o.size));by_cases m:(x,y,v)=p
   .have hd:decide ((x,y,v)=p)=true:=by simp[m]
    go_wp2_with fail
    go_ret;exact⟨⟨i,rfl,.inr ⟨i,rfl,f,by rw[J.o,m],n.o⟩⟩,A.o⟩
   .have hd:decide ((x,y,v)=p)=false:=by simp[m]
    have L:=ag (M.o.2 m)
    go_wp2_with fail
    go_roundw
    case rel=>exact⟨i+1,by go_num,aa,L,A⟩
    case measure=>exact dX
  .have R:¬(i:Int)<(l.length:Int):=aa;have O:i=l.length:=aa
   go_wp2_with fail
   go_ret;have h9:=n.o;rw[O,jK]at h9;exact⟨⟨-1,rfl,.inl ⟨rfl,h9⟩⟩,g.o⟩
theorem Dx:∀(L:List Pt) (j:Nat) (p:Pt),(((L.flatMap dw).set (j*3) (.int .i64 p.1)).set (j*3+1) (.int .i64 p.2.1)).set (j*3+2) (.int .u32 p.2.2)=(L.set j p).flatMap dw
 |[],j,p=>aA
 |q::L,0,p=>by simp[dw]
 |q::L,j+1,p=>by
  have ih:=Dx L j p;rw[nR,lV,lV,<-ih];simp only[dw,mG,fO,show(j+1)*3=j*3+1+1+1 by omega,nR,show j*3+1+1+1+1=(j*3+1)+1+1+1 by omega,show j*3+1+1+1+2=(j*3+2)+1+1+1 by omega]
theorem Gp {w:World} {base g c j n:Nat} {L:List Pt} (h:w.ownsRow base 29 3 (ax g n c) n (L.flatMap dw)) (p:Pt):
  (((w.setCell (af g (j*3)) (.int .i64 p.1)).setCell (af g (j*3+1)) (.int .i64 p.2.1)).setCell (af g (j*3+2)) (.int .u32 p.2.2)).ownsRow base 29 3 (ax g n c) n ((L.set j p).flatMap dw):=by
 rw[<-Dx];exact((((h.stored (j*3) (.int .i64 p.1)).1).stored (j*3+1) (.int .i64 p.2.1)).1.stored (j*3+2) (.int .u32 p.2.2)).1
theorem EU {L:List Pt} {j:Nat} (a:j<L.length):(L.flatMap dw)[j*3]? =some (.int .i64 L[j].1)/\(L.flatMap dw)[j*3+1]? =some (.int .i64 L[j].2.1)/\(L.flatMap dw)[j*3+2]? =some (.int .u32 L[j].2.2):=by
 induction L generalizing j with
 |nil=>simp at a
 |cons q L ih=>
  cases j with
  |zero=>simp[dw]
  |succ j=>
   have:=ih (j:=j) (aP a);simp only[lV,dw,mG,fO,show(j+1)*3=j*3+1+1+1 by omega,dx,show j*3+1+1+1+1=(j*3+1)+1+1+1 by omega,show j*3+1+1+1+2=(j*3+2)+1+1+1 by omega,uE];exact this
theorem CO {l:List Pt} {i m:Nat} (hi:i<=m) (d:m+1<l.length):((l.eraseIdx i).take m++l.drop m).set m l[m+1]=(l.eraseIdx i).take (m+1)++l.drop (m+1):=by
 have e:(l.eraseIdx i).length=l.length-1:=List.length_eraseIdx_of_lt aa;have c:((l.eraseIdx i).take m).length=m:=by rw[eX];omega
 have a:(l.eraseIdx i)[m]? =some l[m+1]:=by rw[List.getElem?_eraseIdx,aM aa,bZ d]
 have b:m<(l.eraseIdx i).length:=aa;rw[bZ b]at a;injection a with a;rw[ui _ _ aa,c,iM,mE (by omega:m<l.length),oD,ig b,a,dY];rfl
theorem zA {l:List Pt} {p:Pt} {i:Nat} (a:l.Nodup) (hi:l[i]? =some p):(l.filter fun q=>decide (q≠p))=l.eraseIdx i:=by
 induction l generalizing i with
 |nil=>simp at hi
 |cons x l ih=>
  rw[mH]at a;cases i with
  |zero=>
   simp only[fG,jk]at hi;subst hi;rw[lW,aM aA,List.eraseIdx_cons_zero];exact mF.2 fun q b=>by simp only[bN];rintro rfl;exact a.1 b
  |succ i=>
   rw[dx]at hi;have c:x≠p:=fun e=>a.1 (e▸List.mem_of_getElem? hi);rw[lW,aO (aP c),List.eraseIdx_cons_succ,ih a.2 hi]
theorem EW (w:World) (g m c:Nat) (d:∀j,j<3->(w.cell? (af g (m*3+j))).isSome=true) (e:∀j,j<3->w.frozen? (af g (m*3+j))=false):
  (Builtin.clear_ #[22] 0 #[.slice (some (af g (m*3))) 1 c]).run prog w=.ok (.tuple #[]) (((w.setCell (af g (m*3)) (.int .i64 0)).setCell (af g (m*3+1)) (.int .i64 0)).setCell (af g (m*3+2)) (.int .u32 0)):=by
 have b:=run_storeCells_cells (P:=prog) g (m*3) [.int .i64 0,.int .i64 0,.int .u32 0] 0 w (aP d) (aP e) (by intro v a;simp at a;rcases a with rfl|rfl<;>rfl);simp only[dH]at b;have a:(zeroValue 29).run prog w=.ok (.agg #[ae 0,ae 0,ak 0]) w:=aN;have f:(Builtin.zeroCells (Value.agg #[ae 0,ae 0,ak 0]).cells 1).toList=[.int .i64 0,.int .i64 0,.int .u32 0]:=aN;simp[Builtin.clear_,pQ underlying22,a,f,b,World.setCells]
theorem L9 {w:World} {base g n n' b:Nat} {e:TypeId} {L:List Pt} (h:w.ownsRow base e 3 (ax g n b) n (L.flatMap dw)) (v:n'<=n):w.ownsRow base e 3 (ax g n' b) n' ((L.take n').flatMap dw):=by
 have⟨i,j⟩:=h;rw[gp bf]at i;refine⟨by rw[gp bf,eX];omega,?_⟩;rcases j with⟨c,-⟩|⟨t,s,d,c,k,l,u,m,o,p⟩
 .cases c
 .injection c with a _ f;injection a with a;injection a with a _ _;subst a f;refine .inr ⟨g,b,d,rfl,k,l,aa,m,o,?_⟩;have q:(L.take n').flatMap dw=(L.flatMap dw).take (n'*3):=by
   have r:L.flatMap dw=(L.take n').flatMap dw++(L.drop n').flatMap dw:=by rw[<-gZ,jB]
   rw[r,List.take_left' (by rw[gp bf,eX];omega)]
  rw[q,<-p,AB];congr 1;omega
theorem Oy (p:Pt) (b g c n base:Nat) (l:List Pt) (w:World) (H:w.cell? (af b 0)=some (ae p.1)) (S:w.cell? (af b 1)=some (ae p.2.1)) (T:w.cell? (af b 2)=some (ak p.2.2)) (I:w.ownsRow base 29 3 (ax g n c) n (l.flatMap dw)) (aN:l.length=n) (aQ:n<=1000000) (K:b≠g) (aR:l.Nodup):
  aK 123 #[ax g n c,.func (.func 124) #[] #[aj b]] w fun e w'=>
   ∃n',e=.returned (ax g n' c)/\n'=(l.filter fun q=>decide (q≠p)).length/\w'.ownsRow base 29 3 (ax g n' c) n' ((l.filter fun q=>decide (q≠p)).flatMap dw)/\ay (fun k=>k=g) w w':=by
 subst aN;obtain⟨F,C⟩:∃F,Hid (F=l.filter fun q=>decide (q≠p)):=⟨_,rfl⟩;rw[<-C.o];have J:=gX w _ H;have ad:=ag (QL p b (some (af g 0)) c l w H S T (by
  obtain⟨aC,aD,t,-,-,aV⟩:=bV.aG bf ai I;injection t with t _ _;rw[t];exact aV) aQ)
 have ah:=ag (fun(q:Pt) (W:World) (v:ay (fun k=>k=g) w W)=>Ox q p b W ((dz (a:=(af b 0)) (v.block b J K)).trans H) ((dz (a:=(af b 1)) (v.block b J K)).trans S) ((dz (a:=(af b 2)) (v.block b J K)).trans T));have a4:l.length<=c:=by
  obtain⟨aC,aD,t,-,u,-⟩:=bV.aG bf ai I;injection t with _ _ t;omega
 have HO:=ag I;have Q:=ag aR;have a1:=wY;go_enter func123,ntmps123
 go_wp2_with fail
 refine ad.o.mono ?_;rintro e w1 ⟨⟨k,rfl,aM⟩,Y⟩;have P:=ag (az HO.o Y);have O:Hid (ay (fun k=>k=g) w w1):=(ay.refl _ w).below Y;rcases aM with⟨rfl,aT⟩|⟨i,rfl,hi,X,-⟩
 .have aH:(l.filter fun q=>decide (q≠p))=l:=mF.2 fun q aU=>by simp only[bN];rintro rfl;exact aT aU
  go_wp2_with fail
  go_ret;have hF:=C.o.trans aH;rw[hF];exact⟨_,rfl,rfl,P.o,O.o⟩
 .have N:=ag (C.o.trans (zA Q.o X));have am:=ag X;have a7:((i:Int)==-1)=false:=by simp only[beq_eq_false_iff_ne];omega
  have a5:=List.length_eraseIdx_of_lt hi
  go_wp2_with fail
  go_loopw [5,6] (fun L aX wr=>∃m:Nat,L=.int .i64 m/\aX=.int .i64 ((m+1:Nat):Int)/\i<=m/\m+1<=l.length/\Hid (wr.ownsRow base 29 3 (ax g l.length c) l.length (((l.eraseIdx i).take m++l.drop m).flatMap dw))/\Hid (ay (fun k=>k=g) w wr)) (fun L _ _=>l.length-(intOf L).toNat)
  case atStart=>exact⟨i,rfl,by go_num,aB _,aa,by rw[xy,List.take_left' (by rw[eX];omega),jB];exact P.o,O.o⟩
  case round=>
   obtain⟨m,rfl,rfl,aL,a6,d,D⟩:=hrel;by_cases Z:m+1<l.length
   .have U:((l.eraseIdx i).take m++l.drop m).length=l.length:=aF;have y:((l.eraseIdx i).take m++l.drop m)[m+1]? =some l[m+1]:=by
     have G:((l.eraseIdx i).take m).length=m:=by rw[eX];omega
     rw[nz aa,G,Ej,show m+(m+1-m)=m+1 by omega,bZ Z]
    have aW:=CO aL Z;have aS:¬l[m+1]=p:=fun e=>by
     have u:=am.o;rw[bZ hi]at u;injection u with u;have:=(List.getElem_inj Q.o).1 (u.trans e.symm);omega
    generalize(l.eraseIdx i).take m++l.drop m=R at*;generalize l[m+1]=q at*;have V:m+1<R.length:=aa;have⟨f0,f1,f2⟩:=EU V;rw[bZ V]at y;injection y with y;rw[y]at f0 f1 f2;have ab:=d.o.cellAt ((m+1)*3) aa;have x1:=d.o.cellAt ((m+1)*3+1) aa;have x2:=d.o.cellAt ((m+1)*3+2) aa;rw[f0]at ab;rw[f1]at x1;rw[f2]at x2;have av:=ag aW;have ac:=ag (fun W v=>ah.o q W v);have aE:m<R.length:=aa;have⟨r,s,h⟩:=q;simp only at ab x1 x2;have hd:decide ((r,s,h)=p)=false:=by simp[aS]
    have al:=ag ((aJ wr.heap.size wr).alloc (aB _) (.cells #[ae r,ae s,ak h] 29));have n0:(wr.alloc (.cells #[ae r,ae s,ak h] 29)).cell? (af wr.heap.size 0)=some (ae r):=by rw[eu _ _ _ _ rfl];rfl
    have aY:(wr.alloc (.cells #[ae r,ae s,ak h] 29)).cell? (af wr.heap.size 1)=some (ae s):=by rw[eu _ _ _ _ rfl];rfl
    have aZ:(wr.alloc (.cells #[ae r,ae s,ak h] 29)).cell? (af wr.heap.size 2)=some (ak h):=by rw[eu _ _ _ _ rfl];rfl
    have aq:=ag n0;have ar:=ag aY;have au:=ag aZ
    go_wp2_with fail
    refine(ac.o _ (D.o.grown (qN wr _ none) aA)).mono ?_;rintro e w2 ⟨rfl,aI⟩;rw[hd];have x:=aI.below (aB _);have a8:=(x.cell (p:=(af wr.heap.size 0)) aA).trans aq.o;have y1:=(x.cell (p:=(af wr.heap.size 1)) aA).trans ar.o;have y2:=(x.cell (p:=(af wr.heap.size 2)) aA).trans au.o;have M:Hid (Below wr.heap.size wr w2):=al.o.trans (x.mono aA);have f:=ag (az d.o M.o);have z:=f.o.cellAt (m*3) aa;have A:=f.o.cellAt (m*3+1) aa;have B:=f.o.cellAt (m*3+2) aa;have a9:=f.o.frozenAt (m*3);have ba:=f.o.frozenAt (m*3+1);have bb:=f.o.frozenAt (m*3+2);have⟨f0,f1,f2⟩:=EU aE;rw[f0]at z;rw[f1]at A;rw[f2]at B;have ao:Hid (ay (fun k=>k=g) w w2):=D.o.grown (bM M.o) aA;have E:=ag (Gp (j:=m) f.o (r,s,h));have aP:(m:Int)<(l.length:Int):=aa;go_wp2;go_roundw
    case rel=>exact⟨m+1,by go_num,by go_num,aa,aa,by rw[<-av.o];exact E.o,((ao.o.set _ (.inl rfl)).set _ (.inl rfl)).set _ (.inl rfl)⟩
    case measure=>exact dX
   .have a2:¬((m+1:Nat):Int)<(l.length:Int):=aa;have aP:(0:Int)<=(m:Int)/\(m:Int)<=(l.length:Int):=aa;have aO:l.length-m=1:=aa;have U:m<((l.eraseIdx i).take m++l.drop m).length:=aF;have⟨f0,f1,f2⟩:=EU U;have z:=d.o.cellAt (m*3) aa;have A:=d.o.cellAt (m*3+1) aa;have B:=d.o.cellAt (m*3+2) aa;rw[f0]at z;rw[f1]at A;rw[f2]at B;have aw:=EW wr g m (c-m) (fun j a3=>by
     obtain rfl|rfl|rfl:j=0\/j=1\/j=2:=aa
     .simp[z]
     .simp[A]
     .simp[B]) (fun j _=>d.o.frozenAt (m*3+j))
    have a0:(Builtin.clear_ #[22] 0 #[.slice (some (af g (m*3))) (l.length-m) (c-m)]).run prog wr=.ok (.tuple #[]) (((wr.setCell (af g (m*3)) (.int .i64 0)).setCell (af g (m*3+1)) (.int .i64 0)).setCell (af g (m*3+2)) (.int .u32 0)):=by rw[aO];exact aw
    have E:=ag (L9 (n':=m) (Gp (j:=m) d.o (0,0,0)) aa);have an:Hid (((((l.eraseIdx i).take m++l.drop m).set m (0,0,0)).take m)=F):=by
     have G:((l.eraseIdx i).take m).length=m:=by rw[eX];omega
     show _=_;rw[N.o,ui _ _ aa,List.take_left' G,jJ aa]
    have ap:Hid (m=(l.eraseIdx i).length):=by show _=_;omega
    go_wp2_with fail
    go_ret;exact⟨m,rfl,by rw[N.o];exact ap.o,by rw[<-an.o];exact E.o,((D.o.set _ (.inl rfl)).set _ (.inl rfl)).set _ (.inl rfl)⟩
theorem Bw {l:List Pt} (h:(ids l).Nodup) (f:Pt->Bool):(ids (l.filter f)).Nodup:=(List.filter_sublist.map _).nodup h
theorem Bz {l:List Pt} (h:(ids l).Nodup):l.Nodup:=(dm.1 h).imp fun h e=>h (congrArg (fun p:Pt=>p.2.2) e)
end
section
open Go.RowKit Go.Maps
def nn (c:eP):iW:=(c.2,c.2)
def cK (al:List Bool) (c:eP):Bool:=al[c.2.toNat]? ==some true
def sG (al:List Bool) (l:List eP):List Pt:=(l.filter (cK al)).map (·.1)
def il (eU:List Int) (l:List eP) (i:Int):List Int:=l.foldl (fun v c=>v.set c.2.toNat i) eU
theorem mY:∀(l:List eP) (eU:List Int) (i:Int),(il eU l i).length=eU.length
 |[],_,_=>rfl
 |c::l,eU,i=>by
  show(il (eU.set c.2.toNat i) l i).length=_;rw[mY l];simp
theorem Gq (eU:List Int) (l:List eP) (c:eP) (i:Int):il eU (l++[c]) i=(il eU l i).set c.2.toNat i:=by simp[il]
theorem qE:∀(l:List eP) (eU:List Int) (i:Int) (k:Nat),(∀c∈l,c.2.toNat≠k)->(il eU l i)[k]? =eU[k]?
 |[],_,_,_,_=>rfl
 |c::l,eU,i,k,h=>by
  show(il (eU.set c.2.toNat i) l i)[k]? =_;rw[qE l _ i k (fun d hd=>h d (kX _ hd)),nP (h c nQ)]
theorem yE:∀(l:List eP) (eU:List Int) (i:Int) (c:eP),c∈l->c.2.toNat<eU.length->(il eU l i)[c.2.toNat]? =some i
 |d::l,eU,i,c,h,g=>by
  show(il (eU.set d.2.toNat i) l i)[c.2.toNat]? =_;by_cases f:∃e∈l,e.2.toNat=c.2.toNat
  .obtain⟨e,b,a⟩:=f;rw[<-a];exact yE l _ i e b (by rw[kK,a];exact g)
  .have j:∀e∈l,e.2.toNat≠c.2.toNat:=fun e b a=>f ⟨e,b,a⟩;rcases ic.1 h with rfl|h
   .rw[qE l _ i _ j,uh g]
   .exact absurd rfl (j c h)
structure nY (CB:List (List eP)) (al:List Bool) (A:List eP) (N:Int):Prop where
 nm:∃NB,wV (CB.map (·.map nn)) NB al (al.map fun _=>0) A.length N
 live:A.Perm (CB.flatten.filter (cK al))
 keys:(ids (A.map (·.1))).Nodup
 good:∀c∈CB.flatten,Be c.1
structure TZ (CB:List (List eP)) (al:List Bool) (eU:List Int):Prop where
 I9:eU.length=al.length
 lvl:∀(i:Nat) (h:i<CB.length),∀c∈CB[i],eU[c.2.toNat]? =some (i:Int)
theorem wZ (CB:List (List eP)):(CB.map (·.map nn)).flatten=CB.flatten.map nn:=by rw[List.map_flatten]
theorem Oz (al:List Bool) (l:List eP):(l.map nn).filter (dF al)=(l.filter (cK al)).map nn:=by
 rw[xP];rfl
theorem Ma {α a:Type} (f:α->a) (CB:List (List α)) (i:Nat):eO (CB.map (·.map f)) i=(eO CB i).map f:=by
 simp[eO,List.map_flatten,Eo,List.map_take]
theorem Mc {α a:Type} (f:α->a) (CB:List (List α)) (i:Nat) (x:α):(kC CB i x).map (·.map f)=kC (CB.map (·.map f)) i (f x):=by
 simp[kC,Ma,xS]
theorem BA {α a:Type} (f:α->a):∀(k:Nat) (r:List α),(setC k r).map (·.map f)=setC k (r.map f)
 |0,_=>rfl
 |k+1,r=>by
  unfold setC;rw[bR];split
  .rw[bP,BA f k,xS];simp[List.map_take]
  .rw[bP,BA f k];rfl
section
variable {CB:List (List eP)} {al:List Bool} {eU:List Int} {A:List eP} {N:Int}
theorem nY.num (h:nY CB al A N) {c:eP} (a:c∈CB.flatten):∃k:Nat,c.2=k/\k<al.length:=by
 have⟨NB,b⟩:=h.nm;exact b.uf (nn c) (by rw[wZ];exact rf a)
theorem nY.S9 (h:nY CB al A N):(CB.flatten.map (·.2)).Nodup:=by
 have⟨NB,a⟩:=h.nm;have:=a.wW;rw[wZ,vv]at this;exact this
theorem nY.one (h:nY CB al A N) {c d:eP} (a:c∈CB.flatten) (hd:d∈CB.flatten) (e:c.2.toNat=d.2.toNat):c=d:=by
 obtain⟨k,f,-⟩:=h.num a;obtain⟨m,g,-⟩:=h.num hd;have b:CB.flatten.Pairwise fun p q=>p.2≠q.2:=dm.1 h.S9;rcases eB b a hd with h1|h1|h1
 .exact h1
 .exact absurd aa h1
 .exact absurd aa h1
theorem nY.stored (h:nY CB al A N):N=(CB.flatten.length:Nat):=by
 have⟨NB,a⟩:=h.nm;have:=a.stored;rw[wZ,bR]at this;exact this
theorem nY.levels (h:nY CB al A N):CB.length<=13/\CB.flatten.length<=5000/\al.length<=5000/\(CB.length≠0->2^(CB.length-1)<=CB.flatten.length):=by
 have⟨NB,b⟩:=h.nm;have a:=b.levels;have c:=b.small;rw[bR]at a;rw[wZ,bR]at a c;exact⟨a.1,c,b.bound,a.2⟩
theorem nY.size (h:nY CB al A N) (i:Nat) (hi:i<CB.length):CB[i].length=0\/CB[i].length=2^i:=by
 have⟨NB,a⟩:=h.nm;have:=a.size i (aP hi);simpa using this
theorem nY.inl (h:nY CB al A N) {i:Nat} (hi:i<CB.length) {c:eP} (a:c∈CB[i]):c∈CB.flatten:=pM.2 ⟨_,bG hi,a⟩
theorem nY.few (h:nY CB al A N) (i:Nat) (hi:i<CB.length):CB[i].length<=5000:=
 bA (DZ (bG hi)).length_le h.levels.2.1
theorem nY.bk (h:nY CB al A N) (i:Nat) (hi:i<CB.length):HZ (sG al CB[i])/\(ids (sG al CB[i])).Nodup/\∀c∈CB[i],∃k:Nat,c.2=k/\k<al.length:=by
 refine⟨fun p hp=>?_,?_,fun c a=>h.num (h.inl hi a)⟩
 .obtain⟨c,a,rfl⟩:=cu.1 hp;exact(h.good c (h.inl hi (bD.1 a).1)).2.2
 .have b:((CB.flatten.filter (cK al)).map (·.1)).Perm (A.map (·.1)):=(h.live.map _).symm;have d:(ids ((CB.flatten.filter (cK al)).map (·.1))).Nodup:=((b.map _).nodup_iff).2 h.keys;exact((((DZ (bG hi)).filter _).map _).map _).nodup d
theorem nY.apart (h:nY CB al A N) {i j:Nat} (hi:i<CB.length) (b:j<CB.length) (k:i≠j) {c d:eP} (a:c∈CB[i]) (hd:d∈CB[j]):c.2.toNat≠d.2.toNat:=fun e=>by
 have g:=h.one (h.inl hi a) (h.inl b hd) e;subst g;have f:=fZ.1 (List.pairwise_flatten.1 (dm.1 h.S9)).2;rcases Nat.lt_or_gt_of_ne k with h4|h4
 .exact f i j hi b h4 c a c hd rfl
 .exact f j i b hi h4 c hd c a rfl
theorem nY.Ja (h:nY CB al A N):A.length<=CB.flatten.length/\(A.length:Int)=(al.count true:Nat):=by
 have⟨NB,a⟩:=h.nm;exact⟨by rw[h.live.length_eq];exact gV _ _,a.cnt⟩
theorem Ta:nY [] [] [] 0:=⟨⟨[],SY.towV⟩,nS _,pR,aA⟩
theorem Tc:TZ [] [] []:=⟨rfl,fun i h=>absurd h (jL _)⟩
theorem Md {al:List Bool} {c:eP} {b:Bool} {k:Nat} (a:c.2=k) (d:k<al.length):cK (al++[b]) c=cK al c:=by
 unfold cK;rw[a,ib,lQ d]
theorem Kw (h:nY CB al A N) (b:Bool) {l:List eP} (f:∀c∈l,c∈CB.flatten):l.filter (cK (al++[b]))=l.filter (cK al):=oG fun c a=>by
 have⟨k,d,e⟩:=h.num (f c a);exact Md d e
theorem nY.add (h:nY CB al A N) (s:N<=2*A.length) (x:Pt) (z:Be x) (w:x.2.2∉ids (A.map (·.1))) (f:al.length<5000) (i:Nat) (hi:i<=CB.length) (v:∀j (d:j<CB.length),j<i->CB[j]≠[]) (m:∀h:i<CB.length,CB[i]=[]):
  nY (kC CB i (x,(al.length:Int))) (al++[true]) (A++[(x,(al.length:Int))]) (N+1):=by
 have⟨NB,u⟩:=h.nm;have hP:=tJ CB i (x,(al.length:Int)) m;have t:∀c∈(kC CB i (x,(al.length:Int))).flatten,c=(x,(al.length:Int))\/c∈CB.flatten:=fun c hc=>ic.1 (hP.mem_iff.1 hc);refine⟨?_,?_,?_,?_⟩
 .have y:=Ov (NB:=NB) (pl:=al.map fun _=>0) ⟨u,s⟩ (al.length:Int) 0 (fun e l=>?_) f i (aP hi) (fun j d r=>?_) (fun d=>?_) ((eO (CB.map (·.map nn)) i++[((al.length:Int),(al.length:Int))]).mergeSort fun p q=>decide (p.1<=q.1)) (oC _ _) ?_
  .have e:((A++[(x,(al.length:Int))]).length:Int)=A.length+1:=aA;rw[Mc,bP,e];exact⟨_,y.towV⟩
  .rw[wZ]at l;obtain⟨c,hc,rfl⟩:=cu.1 l;have⟨k,C,D⟩:=h.num hc;show c.2≠_;omega
  .rw[fM];intro n;exact v j (aP d) r (List.map_eq_nil_iff.1 n)
  .rw[fM,m (aP d)];rfl
  .have:=rq (le:=fun p q:iW=>decide (p.1<=q.1)) (fun a b c g B=>by simp at*;omega) (fun a b=>aF) (eO (CB.map (·.map nn)) i++[((al.length:Int),(al.length:Int))]);exact this.imp fun h=>aP h
 .refine List.Perm.trans ?_ ((hP.filter _).symm);have ht:cK (al++[true]) (x,(al.length:Int))=true:=by simp[cK]
  rw[lW,aO ht,Kw h true fun c hc=>hc];exact List.perm_append_comm.trans (h.live.cons _)
 .have g:=h.keys;unfold ids at*;rw[bP,bP];refine pJ.2 ⟨g,aA,fun a o b f=>?_⟩;obtain rfl:b=x.2.2:=aP f;exact fun e=>w (e▸o)
 .intro c hc;rcases t c hc with rfl|hc
  .exact z
  .exact h.good c hc
theorem TZ.add (b:TZ CB al eU) (h:nY CB al A N) (x:Pt) (i:Nat) (hi:i<=CB.length):TZ (kC CB i (x,(al.length:Int))) (al++[true]) (il (eU++[(i:Int)]) (eO CB i++[(x,(al.length:Int))]) i):=by
 refine⟨by rw[mY];simp[b.I9],?_⟩;intro j t c a;have y:(eU++[(i:Int)]).length=al.length+1:=by simp[b.I9]
 have r:∀d∈eO CB i,d∈CB.flatten:=fun d hd=>by
  have:=(jy CB i).mem_iff.1 hd;have⟨l,p,f⟩:=pM.1 this;exact pM.2 ⟨l,List.mem_of_mem_take p,f⟩
 rw[o7]at a;by_cases q:j<i
 .rw[aO q]at a;cases a
 .rw[aM q]at a;by_cases o:j=i
  .rw[aO o]at a;subst o;refine yE _ _ _ c a ?_;rw[y];rcases bO.1 a with h3|h3
   .obtain⟨k,v,w⟩:=h.num (r c h3);omega
   .obtain rfl:c=(x,(al.length:Int)):=aP h3;simp
  .rw[aM o,ja]at a;have g:j<CB.length:=by rw[o6 _ _ _ hi]at t;split at t<;>omega
   rw[bZ g,gG]at a;have s:=h.inl g a;have⟨k,v,w⟩:=h.num s;rw[qE _ _ _ _ fun d hd e=>?_,lQ (by rw[b.I9];omega)]
   .exact b.lvl j g c a
   .rcases bO.1 hd with h3|h3
    .have u:=h.one (r d h3) s e;subst u;have⟨l,p,f⟩:=pM.1 ((jy CB i).mem_iff.1 h3);obtain⟨m,z,rfl⟩:=jb p;rw[eX]at z;rw[xM]at f;have n:=b.lvl m aa d f;rw[b.lvl j g d a]at n;injection n with n;omega
    .obtain rfl:d=(x,(al.length:Int)):=aP h3;simp only[ib]at e;omega
theorem nY.dead (h:nY CB al A N) (b:N<=2*A.length) {c:eP} (f:c∈A):nY CB (al.set c.2.toNat false) (A.filter fun d=>decide (d.1≠c.1)) N/\(∀l,(∀d∈l,d∈CB.flatten)->sG (al.set c.2.toNat false) l=(sG al l).filter fun q=>decide (q≠c.1))/\(A.filter fun d=>decide (d.1≠c.1)).length+1=A.length:=by
 have⟨NB,E⟩:=h.nm;have g:=bD.1 (h.live.mem_iff.1 f);have⟨k,a,B⟩:=h.num g.1;have x:al[k]? =some true:=by
  have:=g.2;unfold cK at this;rw[a,ib]at this;simpa using this
 rw[a,ib];have r:(A.map (·.1)).Nodup:=Bz h.keys;have z:∀d∈CB.flatten,(cK (al.set k false) d=(cK al d&&decide (d.1≠c.1))):=fun d hd=>by
  have⟨m,b,H⟩:=h.num hd;by_cases e:d=c
  .subst e;have:m=k:=aa;subst this;unfold cK;rw[a,ib,uh B];simp
  .have D:k≠m:=fun s=>e (h.one hd g.1 (by rw[b,a,s]));have t:cK (al.set k false) d=cK al d:=by
    unfold cK;rw[b,ib,nP D]
   rw[t];cases w:cK al d with
   |false=>rfl
   |true=>
    have y:=h.live.mem_iff.2 (bD.2 ⟨hd,w⟩);have F:d.1≠c.1:=fun n=>by
     have u:A.Pairwise fun p q=>p.1≠q.1:=dm.1 r;rcases eB u y f with h1|h1|h1
     .exact e h1
     .exact h1 n
     .exact h1 n.symm
    simp[F]
 have o:∀l:List eP,(∀d∈l,d∈CB.flatten)->l.filter (cK (al.set k false))=(l.filter (cK al)).filter fun d=>decide (d.1≠c.1):=fun l j=>by
  rw[rA];refine oG fun d hd=>?_;rw[z d (j d hd)];exact Bool.and_comm _ _
 have C:(A.filter fun d=>decide (d.1≠c.1)).length+1=A.length:=by
  have:=List.length_eq_countP_add_countP (fun d:eP=>decide (d.1≠c.1)) (l:=A);rw[<-H6,this];congr 1;have v:A.countP (fun d=>decide ¬decide (d.1≠c.1)=true)=(A.map (·.1)).count c.1:=by
   rw[List.count,Es];refine Al fun d _=>?_;simp[Function.comp]
  rw[v,r.count,aO (rf f)]
 refine⟨⟨⟨NB,?_⟩,?_,?_,h.good⟩,fun l j=>?_,C⟩
 .have:=Kt (NB:=NB) ⟨E,b⟩ k x;rw[show((A.filter fun d=>decide (d.1≠c.1)).length:Int)=A.length-1 by omega];have e:(al.set k false).map (fun _=>(0:Int))=al.map fun _=>0:=by
   rw[kM];refine rF aA fun i h1 G=>?_;rw[List.getElem_set];split<;>simp
  rw[e];exact this
 .rw[o _ fun d hd=>hd];exact h.live.filter _
 .unfold ids at*;exact((List.filter_sublist.map _).map _).nodup h.keys
 .unfold sG;rw[o l j,xP];rfl
theorem nY.anew (h:nY CB al A N) {L:List eP} (n:L=(CB.reverse.flatten).filter (cK al)):
  nY (setC (Lib.bitLen L.length) L) al A L.length/\L.length=A.length:=by
 have⟨NB,t⟩:=h.nm;have hp:L.Perm A:=by
  rw[n];exact(((uN CB).flatten).filter _).trans h.live.symm
 have u:L.length<=5000:=by
  have g:=h.Ja.1;have j:=h.levels.2.1;have:=hp.length_eq;omega
 have s:L.length<2^Lib.bitLen L.length:=by
  by_cases f:L.length=0
  .rw[f];decide
  .exact(bB _ aa f).2.2
 have hP:=kQ _ L s;have e:((CB.map (·.map nn)).reverse.flatten).filter (dF al)=L.map nn:=by
  rw[n,<-Oz,List.map_flatten,Eo]
 have o:∀c∈L,c∈CB.flatten/\cK al c=true:=fun c d=>bD.1 (h.live.mem_iff.1 (hp.mem_iff.1 d));refine⟨⟨?_,?_,h.keys,fun c d=>h.good c (o c (hP.mem_iff.1 d)).1⟩,hp.length_eq⟩
 .have:=Ku (NB':=(setC (Lib.bitLen L.length) (L.map nn)).map fun l=>l.mergeSort fun p q=>decide (p.1<=q.1)) t (by rw[e,bR];exact⟨aA,fun i g j=>by rw[fM];exact oC _ _⟩) (fun l r=>by
   obtain⟨m,-,rfl⟩:=cu.1 r;have:=rq (le:=fun p q:iW=>decide (p.1<=q.1)) (fun a b c g j=>by simp at*;omega) (fun a b=>aF) m;exact this.imp fun h=>aP h)
  have k:=this.1.towV;rw[e,bR]at k;rw[BA];exact⟨_,k⟩
 .refine hp.symm.trans (hP.symm.trans ?_);rw[mF.2 fun c d=>(o c (hP.mem_iff.1 d)).2]
end
end
end Go.Proofs.YtkjdbndekceffaaGreat
namespace Go.Proofs
open Go.Shelf
def Tryz.Jb:Go.Shelf.Ren:=⟨fun|45=>198|n=>n,fun|22=>35|23=>27|3=>3|4=>4|0=>0|n=>n,fun|n=>n⟩
theorem Tryz.Jc:Go.Proofs.SlLaysE.n45 Tryz.prog Tryz.Jb:={
 mixed:=aN
 f45:=gy Tryz.func198
 t0:=uP
 a0:=vw
 z0:=uZ
 v0:=uT
 t3:=rE
 a3:=nW
 z3:=nU
 v3:=rG
 t4:=pK
 a4:=rQ
 z4:=rO
 v4:=rH
 t22:=Tryz.underlying35
 a22:=Tryz.isAgg35
 z22:=Tryz.sizeOf35
 v22:=Tryz.zeroValue35
 a23:=xU
 z23:=xR}
def Tryz.Jd:Go.Shelf.Ren:=⟨fun|45=>197|n=>n,fun|22=>143|23=>2|3=>3|4=>4|0=>0|n=>n,fun|n=>n⟩
theorem Tryz.Je:Go.Proofs.SlLaysE.n45 Tryz.prog Tryz.Jd:={
 mixed:=aN
 f45:=gy Tryz.func197
 t0:=uP
 a0:=vw
 z0:=uZ
 v0:=uT
 t3:=rE
 a3:=nW
 z3:=nU
 v3:=rG
 t4:=pK
 a4:=rQ
 z4:=rO
 v4:=rH
 t22:=Tryz.underlying143
 a22:=Tryz.isAgg143
 z22:=Tryz.sizeOf143
 v22:=Tryz.zeroValue143
 a23:=Tryz.isAgg2
 z23:=Tryz.sizeOf2}
def Tryz.Jf:Go.Shelf.Ren:=⟨fun|45=>199|n=>n,fun|22=>148|23=>3|3=>3|4=>4|0=>0|n=>n,fun|n=>n⟩
theorem Tryz.EX:Go.Proofs.SlLaysE.n45 Tryz.prog Tryz.Jf:={
 mixed:=aN
 f45:=gy Tryz.func199
 t0:=uP
 a0:=vw
 z0:=uZ
 v0:=uT
 t3:=rE
 a3:=nW
 z3:=nU
 v3:=rG
 t4:=pK
 a4:=rQ
 z4:=rO
 v4:=rH
 t22:=Tryz.underlying148
 a22:=Tryz.isAgg148
 z22:=Tryz.sizeOf148
 v22:=Tryz.zeroValue148
 a23:=nW
 z23:=nU}
end Go.Proofs
