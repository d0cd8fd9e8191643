/- Made small by a program. -/
import Derived.Test.YtkjdbndekceffaaGreatZ06
import Derived.Test.YtkjdbndekceffaaGreatZ08
set_option linter.unusedSimpArgs false
set_option linter.unusedVariables false
set_option maxRecDepth 100000
set_option maxHeartbeats 16000000
namespace Go.Proofs.YtkjdbndekceffaaGreat
open Tryz
section
open Go.RowKit Go.Sort Go.Shelf Go.Lib Go.Maps
theorem wY:gF 124:=di func124 aO rfl
theorem OA (q p:Pt) (a:Nat) (W:World) (b:W.cell? (ae a 0)=some (af p.1)) (c:W.cell? (ae a 1)=some (af p.2.1)) (d:W.cell? (ae a 2)=some (ay p.2.2)):
  aK 124 #[iT q.1 q.2.1 q.2.2,aj a] W fun e w'=>e=.returned (.bool (decide (q=p)))/\xz W w':=by
 have f:=gY W _ b;have g:=ah b;have h:=ah c;have i:=ah d;have⟨j,k,l⟩:=p;have⟨m,n,o⟩:=q;simp only at*;go_enter func124,ntmps124;go_wp2
 all_goals
  go_ret;exact⟨by simp[*],(xz.refl _).alloc _⟩
theorem QP (p:Pt) (d:Nat) (a:Option Addr) (c:Nat) (l:List Pt) (w:World) (r:w.cell? (ae d 0)=some (af p.1)) (D:w.cell? (ae d 1)=some (af p.2.1)) (E:w.cell? (ae d 2)=some (ay p.2.2)) (F:bQ bX 3 w a l) (T:l.length<=1000000):
  aK 190 #[.slice a l.length c,.func (.func 124) #[] #[aj d]] w fun e w'=>
   (∃k:Int,e=.returned (af k)/\((k=-1/\p∉l)\/∃i:Nat,k=i/\i<l.length/\l[i]? =some p/\p∉l.take i))/\Below w.heap.size w w':=by
 have K:=ag F;have t:=gY w _ r;have I:=ag (fun(q:Pt) (W:World) (s:Below w.heap.size w W)=>OA q p d W ((s.cell (p:=(ae d 0)) t).trans r) ((s.cell (p:=(ae d 1)) t).trans D) ((s.cell (p:=(ae d 2)) t).trans E));have P:=wY;clear r D E F;go_enter func190,ntmps190;go_wp2
 go_loopw [8] (fun u wr=>∃i:Nat,u=.int .i64 i/\i<=l.length/\Hid (p∉l.take i)/\Hid (Below w.heap.size w wr)) (fun u _=>l.length-(intOf u).toNat)
 case atStart=>exact⟨0,rfl,aX _,by simp[Hid],aJ _ _⟩
 case round=>
  obtain⟨i,rfl,hi,n,g⟩:=hrel;by_cases f:i<l.length
  .obtain⟨b,off,B,Q,j⟩:=(K.o.below g.o).get aa;have G:=j i f 0 aa;have x1:=j i f 1 aa;have x2:=j i f 2 aa;simp only[bX,fw,fD,dx]at G x1 x2;have C:l.take (i+1)=l.take i++[l[i]]:=gW f;have M:Hid (p∉l.take (i+1)↔¬l[i]=p):=by
    show _↔_;rw[C,bP];have:=n.o;constructor
    .intro h e;exact h (.inr (by simp[e]))
    .rintro h (h9|h9)
     .exact this h9
     .exact h (lW.1 h9).symm
   have J:Hid (l[i]? =some l[i]):=cz f;have H:=ag (I.o l[i] wr g.o);have z:=ag B;clear j B C;generalize l[i]=q at*;obtain⟨x,y,v⟩:=q;simp only at G x1 x2;obtain rfl:=z.o;clear z;have S:(i:Int)<(l.length:Int):=aa
   go_wp2_with fail
   refine H.o.mono ?_;rintro e w2 ⟨rfl,N⟩;have A:=ag (g.o.trans ((N.below (aB _)).mono g.o.size));by_cases m:(x,y,v)=p
   .have hd:decide ((x,y,v)=p)=true:=by simp[m]
    go_wp2_with fail
    go_ret;exact⟨⟨i,rfl,.inr ⟨i,rfl,f,by rw[J.o,m],n.o⟩⟩,A.o⟩
   .have hd:decide ((x,y,v)=p)=false:=by simp[m]
    have L:=ag (M.o.2 m)
    go_wp2_with fail
    go_roundw
    case rel=>exact⟨i+1,by go_num,aa,L,A⟩
    case measure=>exact dU
  .have R:¬(i:Int)<(l.length:Int):=aa;have O:i=l.length:=aa
   go_wp2_with fail
   go_ret;have h9:=n.o;rw[O,jk]at h9;exact⟨⟨-1,rfl,.inl ⟨rfl,h9⟩⟩,g.o⟩
theorem Dz:∀(L:List Pt) (j:Nat) (p:Pt),(((L.flatMap bX).set (j*3) (.int .i64 p.1)).set (j*3+1) (.int .i64 p.2.1)).set (j*3+2) (.int .u32 p.2.2)=(L.set j p).flatMap bX
 |[],j,p=>aA
 |q::L,0,p=>by simp[bX]
 |q::L,j+1,p=>by
  have ih:=Dz L j p;rw[nQ,lX,lX,<-ih];simp only[bX,mH,fO,show(j+1)*3=j*3+1+1+1 by omega,nQ,show j*3+1+1+1+1=(j*3+1)+1+1+1 by omega,show j*3+1+1+1+2=(j*3+2)+1+1+1 by omega]
theorem Gt {w:World} {base g c j n:Nat} {L:List Pt} (h:w.ownsRow base 29 3 (au g n c) n (L.flatMap bX)) (p:Pt):
  (((w.setCell (ae g (j*3)) (.int .i64 p.1)).setCell (ae g (j*3+1)) (.int .i64 p.2.1)).setCell (ae g (j*3+2)) (.int .u32 p.2.2)).ownsRow base 29 3 (au g n c) n ((L.set j p).flatMap bX):=by
 rw[<-Dz];exact((((h.stored (j*3) (.int .i64 p.1)).1).stored (j*3+1) (.int .i64 p.2.1)).1.stored (j*3+2) (.int .u32 p.2.2)).1
theorem EU {L:List Pt} {j:Nat} (a:j<L.length):(L.flatMap bX)[j*3]? =some (.int .i64 L[j].1)/\(L.flatMap bX)[j*3+1]? =some (.int .i64 L[j].2.1)/\(L.flatMap bX)[j*3+2]? =some (.int .u32 L[j].2.2):=by
 induction L generalizing j with
 |nil=>simp at a
 |cons q L ih=>
  cases j with
  |zero=>simp[bX]
  |succ j=>
   have:=ih (j:=j) (aP a);simp only[lX,bX,mH,fO,show(j+1)*3=j*3+1+1+1 by omega,fD,show j*3+1+1+1+1=(j*3+1)+1+1+1 by omega,show j*3+1+1+1+2=(j*3+2)+1+1+1 by omega,List.getElem_cons_succ];exact this
theorem CR {l:List Pt} {i m:Nat} (hi:i<=m) (d:m+1<l.length):((l.eraseIdx i).take m++l.drop m).set m l[m+1]=(l.eraseIdx i).take (m+1)++l.drop (m+1):=by
 have e:(l.eraseIdx i).length=l.length-1:=List.length_eraseIdx_of_lt aa;have c:((l.eraseIdx i).take m).length=m:=by rw[eQ];omega
 have a:(l.eraseIdx i)[m]? =some l[m+1]:=by rw[List.getElem?_eraseIdx,aM aa,cz d]
 have b:m<(l.eraseIdx i).length:=aa;rw[cz b]at a;injection a with a;rw[ui _ _ aa,c,kZ,jJ (by omega:m<l.length),oz,gW b,a,dX];rfl
theorem zH {l:List Pt} {p:Pt} {i:Nat} (a:l.Nodup) (hi:l[i]? =some p):(l.filter fun q=>decide (q≠p))=l.eraseIdx i:=by
 induction l generalizing i with
 |nil=>simp at hi
 |cons x l ih=>
  rw[lZ]at a;cases i with
  |zero=>
   simp only[fw,ji]at hi;subst hi;rw[lY,aM aA,List.eraseIdx_cons_zero];exact lU.2 fun q b=>by simp only[bO];rintro rfl;exact a.1 b
  |succ i=>
   rw[fD]at hi;have c:x≠p:=fun e=>a.1 (e▸List.mem_of_getElem? hi);rw[lY,aN (aP c),List.eraseIdx_cons_succ,ih a.2 hi]
theorem EW (w:World) (g m c:Nat) (d:∀j,j<3->(w.cell? (ae g (m*3+j))).isSome=true) (e:∀j,j<3->w.frozen? (ae g (m*3+j))=false):
  (Builtin.clear_ #[22] 0 #[.slice (some (ae g (m*3))) 1 c]).run prog w=.ok (.tuple #[]) (((w.setCell (ae g (m*3)) (.int .i64 0)).setCell (ae g (m*3+1)) (.int .i64 0)).setCell (ae g (m*3+2)) (.int .u32 0)):=by
 have b:=run_storeCells_cells (P:=prog) g (m*3) [.int .i64 0,.int .i64 0,.int .u32 0] 0 w (aP d) (aP e) (by intro v a;simp at a;rcases a with rfl|rfl<;>rfl);simp only[dx]at b;have a:(zeroValue 29).run prog w=.ok (.agg #[af 0,af 0,ay 0]) w:=aO;have f:(Builtin.zeroCells (Value.agg #[af 0,af 0,ay 0]).cells 1).toList=[.int .i64 0,.int .i64 0,.int .u32 0]:=aO;simp[Builtin.clear_,pF underlying22,a,f,b,World.setCells]
theorem L9 {w:World} {base g n n' b:Nat} {e:TypeId} {L:List Pt} (h:w.ownsRow base e 3 (au g n b) n (L.flatMap bX)) (v:n'<=n):w.ownsRow base e 3 (au g n' b) n' ((L.take n').flatMap bX):=by
 have⟨i,j⟩:=h;rw[gm bg]at i;refine⟨by rw[gm bg,eQ];omega,?_⟩;rcases j with⟨c,-⟩|⟨t,s,d,c,k,l,u,m,o,p⟩
 .cases c
 .injection c with a _ f;injection a with a;injection a with a _ _;subst a f;refine .inr ⟨g,b,d,rfl,k,l,aa,m,o,?_⟩;have q:(L.take n').flatMap bX=(L.flatMap bX).take (n'*3):=by
   have r:L.flatMap bX=(L.take n').flatMap bX++(L.drop n').flatMap bX:=by rw[<-gZ,jB]
   rw[r,List.take_left' (by rw[gm bg,eQ];omega)]
  rw[q,<-p,AR];congr 1;omega
theorem OB (p:Pt) (b g c n base:Nat) (l:List Pt) (w:World) (H:w.cell? (ae b 0)=some (af p.1)) (S:w.cell? (ae b 1)=some (af p.2.1)) (T:w.cell? (ae b 2)=some (ay p.2.2)) (I:w.ownsRow base 29 3 (au g n c) n (l.flatMap bX)) (aN:l.length=n) (aQ:n<=1000000) (K:b≠g) (aR:l.Nodup):
  aK 123 #[au g n c,.func (.func 124) #[] #[aj b]] w fun e w'=>
   ∃n',e=.returned (au g n' c)/\n'=(l.filter fun q=>decide (q≠p)).length/\w'.ownsRow base 29 3 (au g n' c) n' ((l.filter fun q=>decide (q≠p)).flatMap bX)/\ax (fun k=>k=g) w w':=by
 subst aN;obtain⟨F,C⟩:∃F,Hid (F=l.filter fun q=>decide (q≠p)):=⟨_,rfl⟩;rw[<-C.o];have J:=gY w _ H;have ad:=ag (QP p b (some (ae g 0)) c l w H S T (by
  obtain⟨aC,aE,t,-,-,aV⟩:=bQ.aI bg ai I;injection t with t _ _;rw[t];exact aV) aQ)
 have ah:=ag (fun(q:Pt) (W:World) (v:ax (fun k=>k=g) w W)=>OA q p b W ((dz (a:=(ae b 0)) (v.block b J K)).trans H) ((dz (a:=(ae b 1)) (v.block b J K)).trans S) ((dz (a:=(ae b 2)) (v.block b J K)).trans T));have a4:l.length<=c:=by
  obtain⟨aC,aE,t,-,u,-⟩:=bQ.aI bg ai I;injection t with _ _ t;omega
 have HO:=ag I;have Q:=ag aR;have a1:=wY;go_enter func123,ntmps123
 go_wp2_with fail
 refine ad.o.mono ?_;rintro e w1 ⟨⟨k,rfl,aM⟩,Y⟩;have P:=ag (az HO.o Y);have O:Hid (ax (fun k=>k=g) w w1):=(ax.refl _ w).below Y;rcases aM with⟨rfl,aT⟩|⟨i,rfl,hi,X,-⟩
 .have aG:(l.filter fun q=>decide (q≠p))=l:=lU.2 fun q aU=>by simp only[bO];rintro rfl;exact aT aU
  go_wp2_with fail
  go_ret;have hF:=C.o.trans aG;rw[hF];exact⟨_,rfl,rfl,P.o,O.o⟩
 .have N:=ag (C.o.trans (zH Q.o X));have al:=ag X;have a7:((i:Int)==-1)=false:=by simp only[beq_eq_false_iff_ne];omega
  have a5:=List.length_eraseIdx_of_lt hi
  go_wp2_with fail
  go_loopw [5,6] (fun L aX wr=>∃m:Nat,L=.int .i64 m/\aX=.int .i64 ((m+1:Nat):Int)/\i<=m/\m+1<=l.length/\Hid (wr.ownsRow base 29 3 (au g l.length c) l.length (((l.eraseIdx i).take m++l.drop m).flatMap bX))/\Hid (ax (fun k=>k=g) w wr)) (fun L _ _=>l.length-(intOf L).toNat)
  case atStart=>exact⟨i,rfl,by go_num,aB _,aa,by rw[xA,List.take_left' (by rw[eQ];omega),jB];exact P.o,O.o⟩
  case round=>
   obtain⟨m,rfl,rfl,aL,a6,d,D⟩:=hrel;by_cases Z:m+1<l.length
   .have U:((l.eraseIdx i).take m++l.drop m).length=l.length:=aD;have y:((l.eraseIdx i).take m++l.drop m)[m+1]? =some l[m+1]:=by
     have G:((l.eraseIdx i).take m).length=m:=by rw[eQ];omega
     rw[nz aa,G,El,show m+(m+1-m)=m+1 by omega,cz Z]
    have aW:=CR aL Z;have aS:¬l[m+1]=p:=fun e=>by
     have u:=al.o;rw[cz hi]at u;injection u with u;have:=(List.getElem_inj Q.o).1 (u.trans e.symm);omega
    generalize(l.eraseIdx i).take m++l.drop m=R at*;generalize l[m+1]=q at*;have V:m+1<R.length:=aa;have⟨f0,f1,f2⟩:=EU V;rw[cz V]at y;injection y with y;rw[y]at f0 f1 f2;have ab:=d.o.cellAt ((m+1)*3) aa;have x1:=d.o.cellAt ((m+1)*3+1) aa;have x2:=d.o.cellAt ((m+1)*3+2) aa;rw[f0]at ab;rw[f1]at x1;rw[f2]at x2;have av:=ag aW;have ac:=ag (fun W v=>ah.o q W v);have aF:m<R.length:=aa;have⟨r,s,h⟩:=q;simp only at ab x1 x2;have hd:decide ((r,s,h)=p)=false:=by simp[aS]
    have ak:=ag ((aJ wr.heap.size wr).alloc (aB _) (.cells #[af r,af s,ay h] 29));have n0:(wr.alloc (.cells #[af r,af s,ay h] 29)).cell? (ae wr.heap.size 0)=some (af r):=by rw[ek _ _ _ _ rfl];rfl
    have aY:(wr.alloc (.cells #[af r,af s,ay h] 29)).cell? (ae wr.heap.size 1)=some (af s):=by rw[ek _ _ _ _ rfl];rfl
    have aZ:(wr.alloc (.cells #[af r,af s,ay h] 29)).cell? (ae wr.heap.size 2)=some (ay h):=by rw[ek _ _ _ _ rfl];rfl
    have ap:=ag n0;have aq:=ag aY;have ar:=ag aZ
    go_wp2_with fail
    refine(ac.o _ (D.o.grown (qI wr _ none) aA)).mono ?_;rintro e w2 ⟨rfl,aH⟩;rw[hd];have x:=aH.below (aB _);have a8:=(x.cell (p:=(ae wr.heap.size 0)) aA).trans ap.o;have y1:=(x.cell (p:=(ae wr.heap.size 1)) aA).trans aq.o;have y2:=(x.cell (p:=(ae wr.heap.size 2)) aA).trans ar.o;have M:Hid (Below wr.heap.size wr w2):=ak.o.trans (x.mono aA);have f:=ag (az d.o M.o);have z:=f.o.cellAt (m*3) aa;have A:=f.o.cellAt (m*3+1) aa;have B:=f.o.cellAt (m*3+2) aa;have a9:=f.o.frozenAt (m*3);have ba:=f.o.frozenAt (m*3+1);have bb:=f.o.frozenAt (m*3+2);have⟨f0,f1,f2⟩:=EU aF;rw[f0]at z;rw[f1]at A;rw[f2]at B;have an:Hid (ax (fun k=>k=g) w w2):=D.o.grown (bN M.o) aA;have E:=ag (Gt (j:=m) f.o (r,s,h));have aP:(m:Int)<(l.length:Int):=aa;go_wp2;go_roundw
    case rel=>exact⟨m+1,by go_num,by go_num,aa,aa,by rw[<-av.o];exact E.o,((an.o.set _ (.inl rfl)).set _ (.inl rfl)).set _ (.inl rfl)⟩
    case measure=>exact dU
   .have a2:¬((m+1:Nat):Int)<(l.length:Int):=aa;have aP:(0:Int)<=(m:Int)/\(m:Int)<=(l.length:Int):=aa;have aO:l.length-m=1:=aa;have U:m<((l.eraseIdx i).take m++l.drop m).length:=aD;have⟨f0,f1,f2⟩:=EU U;have z:=d.o.cellAt (m*3) aa;have A:=d.o.cellAt (m*3+1) aa;have B:=d.o.cellAt (m*3+2) aa;rw[f0]at z;rw[f1]at A;rw[f2]at B;have aw:=EW wr g m (c-m) (fun j a3=>by
     obtain rfl|rfl|rfl:j=0\/j=1\/j=2:=aa
     .simp[z]
     .simp[A]
     .simp[B]) (fun j _=>d.o.frozenAt (m*3+j))
    have a0:(Builtin.clear_ #[22] 0 #[.slice (some (ae g (m*3))) (l.length-m) (c-m)]).run prog wr=.ok (.tuple #[]) (((wr.setCell (ae g (m*3)) (.int .i64 0)).setCell (ae g (m*3+1)) (.int .i64 0)).setCell (ae g (m*3+2)) (.int .u32 0)):=by rw[aO];exact aw
    have E:=ag (L9 (n':=m) (Gt (j:=m) d.o (0,0,0)) aa);have am:Hid (((((l.eraseIdx i).take m++l.drop m).set m (0,0,0)).take m)=F):=by
     have G:((l.eraseIdx i).take m).length=m:=by rw[eQ];omega
     show _=_;rw[N.o,ui _ _ aa,List.take_left' G,ky aa]
    have ao:Hid (m=(l.eraseIdx i).length):=by show _=_;omega
    go_wp2_with fail
    go_ret;exact⟨m,rfl,by rw[N.o];exact ao.o,by rw[<-am.o];exact E.o,((D.o.set _ (.inl rfl)).set _ (.inl rfl)).set _ (.inl rfl)⟩
theorem OC {l:List Pt} (h:(ids l).Nodup) (f:Pt->Bool):(ids (l.filter f)).Nodup:=(List.filter_sublist.map _).nodup h
theorem EX {l:List Pt} (h:(ids l).Nodup):l.Nodup:=(dA.1 h).imp fun h e=>h (congrArg (fun p:Pt=>p.2.2) e)
end
section
open Go.RowKit Go.Maps
def nn (c:eO):je:=(c.2,c.2)
def cO (al:List Bool) (c:eO):Bool:=al[c.2.toNat]? ==some true
def sJ (al:List Bool) (l:List eO):List Pt:=(l.filter (cO al)).map (·.1)
def il (eH:List Int) (l:List eO) (i:Int):List Int:=l.foldl (fun v c=>v.set c.2.toNat i) eH
theorem mY:∀(l:List eO) (eH:List Int) (i:Int),(il eH l i).length=eH.length
 |[],_,_=>rfl
 |c::l,eH,i=>by
  show(il (eH.set c.2.toNat i) l i).length=_;rw[mY l];simp
theorem Gu (eH:List Int) (l:List eO) (c:eO) (i:Int):il eH (l++[c]) i=(il eH l i).set c.2.toNat i:=by simp[il]
theorem qy:∀(l:List eO) (eH:List Int) (i:Int) (k:Nat),(∀c∈l,c.2.toNat≠k)->(il eH l i)[k]? =eH[k]?
 |[],_,_,_,_=>rfl
 |c::l,eH,i,k,h=>by
  show(il (eH.set c.2.toNat i) l i)[k]? =_;rw[qy l _ i k (fun d hd=>h d (kz _ hd)),uj (h c nP)]
theorem yE:∀(l:List eO) (eH:List Int) (i:Int) (c:eO),c∈l->c.2.toNat<eH.length->(il eH l i)[c.2.toNat]? =some i
 |d::l,eH,i,c,h,g=>by
  show(il (eH.set d.2.toNat i) l i)[c.2.toNat]? =_;by_cases f:∃e∈l,e.2.toNat=c.2.toNat
  .obtain⟨e,b,a⟩:=f;rw[<-a];exact yE l _ i e b (by rw[kI,a];exact g)
  .have j:∀e∈l,e.2.toNat≠c.2.toNat:=fun e b a=>f ⟨e,b,a⟩;rcases gU.1 h with rfl|h
   .rw[qy l _ i _ j,uh g]
   .exact absurd rfl (j c h)
structure nX (CB:List (List eO)) (al:List Bool) (A:List eO) (N:Int):Prop where
 nm:∃NB,wV (CB.map (·.map nn)) NB al (al.map fun _=>0) A.length N
 live:A.Perm (CB.flatten.filter (cO al))
 keys:(ids (A.map (·.1))).Nodup
 good:∀c∈CB.flatten,zi c.1
structure TZ (CB:List (List eO)) (al:List Bool) (eH:List Int):Prop where
 Jd:eH.length=al.length
 lvl:∀(i:Nat) (h:i<CB.length),∀c∈CB[i],eH[c.2.toNat]? =some (i:Int)
theorem wZ (CB:List (List eO)):(CB.map (·.map nn)).flatten=CB.flatten.map nn:=by rw[List.map_flatten]
theorem OD (al:List Bool) (l:List eO):(l.map nn).filter (dH al)=(l.filter (cO al)).map nn:=by
 rw[xR];rfl
theorem Ma {α a:Type} (f:α->a) (CB:List (List α)) (i:Nat):eG (CB.map (·.map f)) i=(eG CB i).map f:=by
 simp[eG,List.map_flatten,Ep,List.map_take]
theorem Mc {α a:Type} (f:α->a) (CB:List (List α)) (i:Nat) (x:α):(ko CB i x).map (·.map f)=ko (CB.map (·.map f)) i (f x):=by
 simp[ko,Ma,xV]
theorem BF {α a:Type} (f:α->a):∀(k:Nat) (r:List α),(setC k r).map (·.map f)=setC k (r.map f)
 |0,_=>rfl
 |k+1,r=>by
  unfold setC;rw[bT];split
  .rw[bL,BF f k,xV];simp[List.map_take]
  .rw[bL,BF f k];rfl
section
variable {CB:List (List eO)} {al:List Bool} {eH:List Int} {A:List eO} {N:Int}
theorem nX.num (h:nX CB al A N) {c:eO} (a:c∈CB.flatten):∃k:Nat,c.2=k/\k<al.length:=by
 have⟨NB,b⟩:=h.nm;exact b.vI (nn c) (by rw[wZ];exact nO a)
theorem nX.S9 (h:nX CB al A N):(CB.flatten.map (·.2)).Nodup:=by
 have⟨NB,a⟩:=h.nm;have:=a.wW;rw[wZ,ve]at this;exact this
theorem nX.one (h:nX CB al A N) {c d:eO} (a:c∈CB.flatten) (hd:d∈CB.flatten) (e:c.2.toNat=d.2.toNat):c=d:=by
 obtain⟨k,f,-⟩:=h.num a;obtain⟨m,g,-⟩:=h.num hd;have b:CB.flatten.Pairwise fun p q=>p.2≠q.2:=dA.1 h.S9;rcases eU b a hd with h1|h1|h1
 .exact h1
 .exact absurd aa h1
 .exact absurd aa h1
theorem nX.stored (h:nX CB al A N):N=(CB.flatten.length:Nat):=by
 have⟨NB,a⟩:=h.nm;have:=a.stored;rw[wZ,bT]at this;exact this
theorem nX.levels (h:nX CB al A N):CB.length<=13/\CB.flatten.length<=5000/\al.length<=5000/\(CB.length≠0->2^(CB.length-1)<=CB.flatten.length):=by
 have⟨NB,b⟩:=h.nm;have a:=b.levels;have c:=b.small;rw[bT]at a;rw[wZ,bT]at a c;exact⟨a.1,c,b.bound,a.2⟩
theorem nX.size (h:nX CB al A N) (i:Nat) (hi:i<CB.length):CB[i].length=0\/CB[i].length=2^i:=by
 have⟨NB,a⟩:=h.nm;have:=a.size i (aP hi);simpa using this
theorem nX.inl (h:nX CB al A N) {i:Nat} (hi:i<CB.length) {c:eO} (a:c∈CB[i]):c∈CB.flatten:=pz.2 ⟨_,bB hi,a⟩
theorem nX.few (h:nX CB al A N) (i:Nat) (hi:i<CB.length):CB[i].length<=5000:=
 bD (D5 (bB hi)).length_le h.levels.2.1
theorem nX.bk (h:nX CB al A N) (i:Nat) (hi:i<CB.length):H9 (sJ al CB[i])/\(ids (sJ al CB[i])).Nodup/\∀c∈CB[i],∃k:Nat,c.2=k/\k<al.length:=by
 refine⟨fun p hp=>?_,?_,fun c a=>h.num (h.inl hi a)⟩
 .obtain⟨c,a,rfl⟩:=dh.1 hp;exact(h.good c (h.inl hi (bF.1 a).1)).2.2
 .have b:((CB.flatten.filter (cO al)).map (·.1)).Perm (A.map (·.1)):=(h.live.map _).symm;have d:(ids ((CB.flatten.filter (cO al)).map (·.1))).Nodup:=((b.map _).nodup_iff).2 h.keys;exact((((D5 (bB hi)).filter _).map _).map _).nodup d
theorem nX.apart (h:nX CB al A N) {i j:Nat} (hi:i<CB.length) (b:j<CB.length) (k:i≠j) {c d:eO} (a:c∈CB[i]) (hd:d∈CB[j]):c.2.toNat≠d.2.toNat:=fun e=>by
 have g:=h.one (h.inl hi a) (h.inl b hd) e;subst g;have f:=gQ.1 (List.pairwise_flatten.1 (dA.1 h.S9)).2;rcases Nat.lt_or_gt_of_ne k with h4|h4
 .exact f i j hi b h4 c a c hd rfl
 .exact f j i b hi h4 c hd c a rfl
theorem nX.Je (h:nX CB al A N):A.length<=CB.flatten.length/\(A.length:Int)=(al.count true:Nat):=by
 have⟨NB,a⟩:=h.nm;exact⟨by rw[h.live.length_eq];exact gT _ _,a.cnt⟩
theorem Ta:nX [] [] [] 0:=⟨⟨[],SX.towV⟩,pG _,nS,aA⟩
theorem Tc:TZ [] [] []:=⟨rfl,fun i h=>absurd h (kC _)⟩
theorem Md {al:List Bool} {c:eO} {b:Bool} {k:Nat} (a:c.2=k) (d:k<al.length):cO (al++[b]) c=cO al c:=by
 unfold cO;rw[a,ib,lS d]
theorem KA (h:nX CB al A N) (b:Bool) {l:List eO} (f:∀c∈l,c∈CB.flatten):l.filter (cO (al++[b]))=l.filter (cO al):=oD fun c a=>by
 have⟨k,d,e⟩:=h.num (f c a);exact Md d e
theorem nX.add (h:nX CB al A N) (s:N<=2*A.length) (x:Pt) (z:zi x) (w:x.2.2∉ids (A.map (·.1))) (f:al.length<5000) (i:Nat) (hi:i<=CB.length) (v:∀j (d:j<CB.length),j<i->CB[j]≠[]) (m:∀h:i<CB.length,CB[i]=[]):
  nX (ko CB i (x,(al.length:Int))) (al++[true]) (A++[(x,(al.length:Int))]) (N+1):=by
 have⟨NB,u⟩:=h.nm;have hP:=tL CB i (x,(al.length:Int)) m;have t:∀c∈(ko CB i (x,(al.length:Int))).flatten,c=(x,(al.length:Int))\/c∈CB.flatten:=fun c hc=>gU.1 (hP.mem_iff.1 hc);refine⟨?_,?_,?_,?_⟩
 .have y:=Oy (NB:=NB) (pl:=al.map fun _=>0) ⟨u,s⟩ (al.length:Int) 0 (fun e l=>?_) f i (aP hi) (fun j d r=>?_) (fun d=>?_) ((eG (CB.map (·.map nn)) i++[((al.length:Int),(al.length:Int))]).mergeSort fun p q=>decide (p.1<=q.1)) (qJ _ _) ?_
  .have e:((A++[(x,(al.length:Int))]).length:Int)=A.length+1:=aA;rw[Mc,bL,e];exact⟨_,y.towV⟩
  .rw[wZ]at l;obtain⟨c,hc,rfl⟩:=dh.1 l;have⟨k,C,D⟩:=h.num hc;show c.2≠_;omega
  .rw[fM];intro n;exact v j (aP d) r (List.map_eq_nil_iff.1 n)
  .rw[fM,m (aP d)];rfl
  .have:=q9 (le:=fun p q:je=>decide (p.1<=q.1)) (fun a b c g B=>by simp at*;omega) (fun a b=>aD) (eG (CB.map (·.map nn)) i++[((al.length:Int),(al.length:Int))]);exact this.imp fun h=>aP h
 .refine List.Perm.trans ?_ ((hP.filter _).symm);have ht:cO (al++[true]) (x,(al.length:Int))=true:=by simp[cO]
  rw[lY,aN ht,KA h true fun c hc=>hc];exact List.perm_append_comm.trans (h.live.cons _)
 .have g:=h.keys;unfold ids at*;rw[bL,bL];refine mI.2 ⟨g,aA,fun a o b f=>?_⟩;obtain rfl:b=x.2.2:=aP f;exact fun e=>w (e▸o)
 .intro c hc;rcases t c hc with rfl|hc
  .exact z
  .exact h.good c hc
theorem TZ.add (b:TZ CB al eH) (h:nX CB al A N) (x:Pt) (i:Nat) (hi:i<=CB.length):TZ (ko CB i (x,(al.length:Int))) (al++[true]) (il (eH++[(i:Int)]) (eG CB i++[(x,(al.length:Int))]) i):=by
 refine⟨by rw[mY];simp[b.Jd],?_⟩;intro j t c a;have y:(eH++[(i:Int)]).length=al.length+1:=by simp[b.Jd]
 have r:∀d∈eG CB i,d∈CB.flatten:=fun d hd=>by
  have:=(jy CB i).mem_iff.1 hd;have⟨l,p,f⟩:=pz.1 this;exact pz.2 ⟨l,List.mem_of_mem_take p,f⟩
 rw[oZ]at a;by_cases q:j<i
 .rw[aN q]at a;cases a
 .rw[aM q]at a;by_cases o:j=i
  .rw[aN o]at a;subst o;refine yE _ _ _ c a ?_;rw[y];rcases bP.1 a with h3|h3
   .obtain⟨k,v,w⟩:=h.num (r c h3);omega
   .obtain rfl:c=(x,(al.length:Int)):=aP h3;simp
  .rw[aM o,ja]at a;have g:j<CB.length:=by rw[oW _ _ _ hi]at t;split at t<;>omega
   rw[cz g,gG]at a;have s:=h.inl g a;have⟨k,v,w⟩:=h.num s;rw[qy _ _ _ _ fun d hd e=>?_,lS (by rw[b.Jd];omega)]
   .exact b.lvl j g c a
   .rcases bP.1 hd with h3|h3
    .have u:=h.one (r d h3) s e;subst u;have⟨l,p,f⟩:=pz.1 ((jy CB i).mem_iff.1 h3);obtain⟨m,z,rfl⟩:=jb p;rw[eQ]at z;rw[xN]at f;have n:=b.lvl m aa d f;rw[b.lvl j g d a]at n;injection n with n;omega
    .obtain rfl:d=(x,(al.length:Int)):=aP h3;simp only[ib]at e;omega
theorem nX.dead (h:nX CB al A N) (b:N<=2*A.length) {c:eO} (f:c∈A):nX CB (al.set c.2.toNat false) (A.filter fun d=>decide (d.1≠c.1)) N/\(∀l,(∀d∈l,d∈CB.flatten)->sJ (al.set c.2.toNat false) l=(sJ al l).filter fun q=>decide (q≠c.1))/\(A.filter fun d=>decide (d.1≠c.1)).length+1=A.length:=by
 have⟨NB,E⟩:=h.nm;have g:=bF.1 (h.live.mem_iff.1 f);have⟨k,a,B⟩:=h.num g.1;have x:al[k]? =some true:=by
  have:=g.2;unfold cO at this;rw[a,ib]at this;simpa using this
 rw[a,ib];have r:(A.map (·.1)).Nodup:=EX h.keys;have z:∀d∈CB.flatten,(cO (al.set k false) d=(cO al d&&decide (d.1≠c.1))):=fun d hd=>by
  have⟨m,b,H⟩:=h.num hd;by_cases e:d=c
  .subst e;have:m=k:=aa;subst this;unfold cO;rw[a,ib,uh B];simp
  .have D:k≠m:=fun s=>e (h.one hd g.1 (by rw[b,a,s]));have t:cO (al.set k false) d=cO al d:=by
    unfold cO;rw[b,ib,uj D]
   rw[t];cases w:cO al d with
   |false=>rfl
   |true=>
    have y:=h.live.mem_iff.2 (bF.2 ⟨hd,w⟩);have F:d.1≠c.1:=fun n=>by
     have u:A.Pairwise fun p q=>p.1≠q.1:=dA.1 r;rcases eU u y f with h1|h1|h1
     .exact e h1
     .exact h1 n
     .exact h1 n.symm
    simp[F]
 have o:∀l:List eO,(∀d∈l,d∈CB.flatten)->l.filter (cO (al.set k false))=(l.filter (cO al)).filter fun d=>decide (d.1≠c.1):=fun l j=>by
  rw[pg];refine oD fun d hd=>?_;rw[z d (j d hd)];exact Bool.and_comm _ _
 have C:(A.filter fun d=>decide (d.1≠c.1)).length+1=A.length:=by
  have:=List.length_eq_countP_add_countP (fun d:eO=>decide (d.1≠c.1)) (l:=A);rw[<-Ic,this];congr 1;have v:A.countP (fun d=>decide ¬decide (d.1≠c.1)=true)=(A.map (·.1)).count c.1:=by
   rw[List.count,Et];refine Ar fun d _=>?_;simp[Function.comp]
  rw[v,r.count,aN (nO f)]
 refine⟨⟨⟨NB,?_⟩,?_,?_,h.good⟩,fun l j=>?_,C⟩
 .have:=Kw (NB:=NB) ⟨E,b⟩ k x;rw[show((A.filter fun d=>decide (d.1≠c.1)).length:Int)=A.length-1 by omega];have e:(al.set k false).map (fun _=>(0:Int))=al.map fun _=>0:=by
   rw[kK];refine rC aA fun i h1 G=>?_;rw[List.getElem_set];split<;>simp
  rw[e];exact this
 .rw[o _ fun d hd=>hd];exact h.live.filter _
 .unfold ids at*;exact((List.filter_sublist.map _).map _).nodup h.keys
 .unfold sJ;rw[o l j,xR];rfl
theorem nX.anew (h:nX CB al A N) {L:List eO} (n:L=(CB.reverse.flatten).filter (cO al)):
  nX (setC (Lib.bitLen L.length) L) al A L.length/\L.length=A.length:=by
 have⟨NB,t⟩:=h.nm;have hp:L.Perm A:=by
  rw[n];exact(((uM CB).flatten).filter _).trans h.live.symm
 have u:L.length<=5000:=by
  have g:=h.Je.1;have j:=h.levels.2.1;have:=hp.length_eq;omega
 have s:L.length<2^Lib.bitLen L.length:=by
  by_cases f:L.length=0
  .rw[f];decide
  .exact(bI _ aa f).2.2
 have hP:=kP _ L s;have e:((CB.map (·.map nn)).reverse.flatten).filter (dH al)=L.map nn:=by
  rw[n,<-OD,List.map_flatten,Ep]
 have o:∀c∈L,c∈CB.flatten/\cO al c=true:=fun c d=>bF.1 (h.live.mem_iff.1 (hp.mem_iff.1 d));refine⟨⟨?_,?_,h.keys,fun c d=>h.good c (o c (hP.mem_iff.1 d)).1⟩,hp.length_eq⟩
 .have:=Ky (NB':=(setC (Lib.bitLen L.length) (L.map nn)).map fun l=>l.mergeSort fun p q=>decide (p.1<=q.1)) t (by rw[e,bT];exact⟨aA,fun i g j=>by rw[fM];exact qJ _ _⟩) (fun l r=>by
   obtain⟨m,-,rfl⟩:=dh.1 r;have:=q9 (le:=fun p q:je=>decide (p.1<=q.1)) (fun a b c g j=>by simp at*;omega) (fun a b=>aD) m;exact this.imp fun h=>aP h)
  have k:=this.1.towV;rw[e,bT]at k;rw[BF];exact⟨_,k⟩
 .refine hp.symm.trans (hP.symm.trans ?_);rw[lU.2 fun c d=>(o c (hP.mem_iff.1 d)).2]
end
end
end Go.Proofs.YtkjdbndekceffaaGreat
namespace Go.Proofs
open Go.Shelf
def Tryz.Jf:Go.Shelf.Ren:=⟨fun|45=>198|n=>n,fun|22=>35|23=>27|3=>3|4=>4|0=>0|n=>n,fun|n=>n⟩
theorem Tryz.Jg:Go.Proofs.SlLaysE.n45 Tryz.prog Tryz.Jf:={
 mixed:=aO
 f45:=gu Tryz.func198
 t0:=uO
 a0:=vg
 z0:=uW
 v0:=uS
 t3:=rA
 a3:=nU
 z3:=nT
 v3:=rD
 t4:=pq
 a4:=rT
 z4:=rP
 v4:=rE
 t22:=Tryz.underlying35
 a22:=Tryz.isAgg35
 z22:=Tryz.sizeOf35
 v22:=Tryz.zeroValue35
 a23:=xW
 z23:=xU}
def Tryz.Jh:Go.Shelf.Ren:=⟨fun|45=>197|n=>n,fun|22=>143|23=>2|3=>3|4=>4|0=>0|n=>n,fun|n=>n⟩
theorem Tryz.Ji:Go.Proofs.SlLaysE.n45 Tryz.prog Tryz.Jh:={
 mixed:=aO
 f45:=gu Tryz.func197
 t0:=uO
 a0:=vg
 z0:=uW
 v0:=uS
 t3:=rA
 a3:=nU
 z3:=nT
 v3:=rD
 t4:=pq
 a4:=rT
 z4:=rP
 v4:=rE
 t22:=Tryz.underlying143
 a22:=Tryz.isAgg143
 z22:=Tryz.sizeOf143
 v22:=Tryz.zeroValue143
 a23:=Tryz.isAgg2
 z23:=Tryz.sizeOf2}
def Tryz.Jj:Go.Shelf.Ren:=⟨fun|45=>199|n=>n,fun|22=>148|23=>3|3=>3|4=>4|0=>0|n=>n,fun|n=>n⟩
theorem Tryz.EY:Go.Proofs.SlLaysE.n45 Tryz.prog Tryz.Jj:={
 mixed:=aO
 f45:=gu Tryz.func199
 t0:=uO
 a0:=vg
 z0:=uW
 v0:=uS
 t3:=rA
 a3:=nU
 z3:=nT
 v3:=rD
 t4:=pq
 a4:=rT
 z4:=rP
 v4:=rE
 t22:=Tryz.underlying148
 a22:=Tryz.isAgg148
 z22:=Tryz.sizeOf148
 v22:=Tryz.zeroValue148
 a23:=nU
 z23:=nT}
end Go.Proofs
