/- Made small by a program. -/
import Derived.Test.YtkjdbndekceffaaGreatX06
import Derived.Test.YtkjdbndekceffaaGreatX08
set_option linter.unusedSimpArgs false
set_option linter.unusedVariables false
set_option maxRecDepth 100000
set_option maxHeartbeats 16000000
namespace Go.Proofs.YtkjdbndekceffaaGreat
open Tryz
section
open Go.RowKit Go.Sort Go.Shelf Go.Lib Go.Maps
theorem xh:eY 124:=bO func124 aM rfl
theorem OJ (q p:Pt) (a:Nat) (W:World) (b:W.cell? (af a 0)=some (ae p.1)) (c:W.cell? (af a 1)=some (ae p.2.1)) (d:W.cell? (af a 2)=some (ak p.2.2)):
  aK 124 #[jc q.1 q.2.1 q.2.2,aj a] W fun e w'=>e=.returned (.bool (decide (q=p)))/\xK W w':=by
 have f:=gW W _ b;have g:=ah b;have h:=ah c;have i:=ah d;have⟨j,k,l⟩:=p;have⟨m,n,o⟩:=q;simp only at*;go_enter func124,ntmps124;go_wp2
 all_goals
  go_ret;exact⟨by simp[*],(xK.refl _).alloc _⟩
theorem Q8 (p:Pt) (d:Nat) (a:Option Addr) (c:Nat) (l:List Pt) (w:World) (r:w.cell? (af d 0)=some (ae p.1)) (D:w.cell? (af d 1)=some (ae p.2.1)) (E:w.cell? (af d 2)=some (ak p.2.2)) (F:bY dw 3 w a l) (T:l.length<=1000000):
  aK 190 #[.slice a l.length c,.func (.func 124) #[] #[aj d]] w fun e w'=>
   (∃k:Int,e=.returned (ae k)/\((k=-1/\p∉l)\/∃i:Nat,k=i/\i<l.length/\l[i]? =some p/\p∉l.take i))/\Below w.heap.size w w':=by
 have K:=ag F;have t:=gW w _ r;have I:=ag (fun(q:Pt) (W:World) (s:Below w.heap.size w W)=>OJ q p d W ((s.cell (p:=(af d 0)) t).trans r) ((s.cell (p:=(af d 1)) t).trans D) ((s.cell (p:=(af d 2)) t).trans E));have P:=xh;clear r D E F;go_enter func190,ntmps190;go_wp2
 go_loopw [8] (fun u wr=>∃i:Nat,u=.int .i64 i/\i<=l.length/\Hid (p∉l.take i)/\Hid (Below w.heap.size w wr)) (fun u _=>l.length-(intOf u).toNat)
 case atStart=>exact⟨0,rfl,bD _,by simp[Hid],aI _ _⟩
 case round=>
  obtain⟨i,rfl,hi,n,g⟩:=hrel;by_cases f:i<l.length
  .obtain⟨b,off,B,Q,j⟩:=(K.o.below g.o).get aa;have G:=j i f 0 aa;have x1:=j i f 1 aa;have x2:=j i f 2 aa;simp only[dw,fZ,dC,dK]at G x1 x2;have C:l.take (i+1)=l.take i++[l[i]]:=ic f;have M:Hid (p∉l.take (i+1)↔¬l[i]=p):=by
    show _↔_;rw[C,bT];have:=n.o;constructor
    .intro h e;exact h (.inr (by simp[e]))
    .rintro h (h9|h9)
     .exact this h9
     .exact h (l5.1 h9).symm
   have J:Hid (l[i]? =some l[i]):=cB f;have H:=ag (I.o l[i] wr g.o);have z:=ag B;clear j B C;generalize l[i]=q at*;obtain⟨x,y,v⟩:=q;simp only at G x1 x2;obtain rfl:=z.o;clear z;have S:(i:Int)<(l.length:Int):=aa
   go_wp2_with fail
   refine H.o.mono ?_;rintro e w2 ⟨rfl,N⟩;have A:=ag (g.o.trans ((N.below (aB _)).mono g.o.size));by_cases m:(x,y,v)=p
   .have hd:decide ((x,y,v)=p)=true:=by simp[m]
    go_wp2_with fail
    go_ret;exact⟨⟨i,rfl,.inr ⟨i,rfl,f,by rw[J.o,m],n.o⟩⟩,A.o⟩
   .have hd:decide ((x,y,v)=p)=false:=by simp[m]
    have L:=ag (M.o.2 m)
    go_wp2_with fail
    go_roundw
    case rel=>exact⟨i+1,by go_num,aa,L,A⟩
    case measure=>exact eT
  .have R:¬(i:Int)<(l.length:Int):=aa;have O:i=l.length:=aa
   go_wp2_with fail
   go_ret;have h9:=n.o;rw[O,jO]at h9;exact⟨⟨-1,rfl,.inl ⟨rfl,h9⟩⟩,g.o⟩
theorem DW:∀(L:List Pt) (j:Nat) (p:Pt),(((L.flatMap dw).set (j*3) (.int .i64 p.1)).set (j*3+1) (.int .i64 p.2.1)).set (j*3+2) (.int .u32 p.2.2)=(L.set j p).flatMap dw
 |[],j,p=>ay
 |q::L,0,p=>by simp[dw]
 |q::L,j+1,p=>by
  have ih:=DW L j p;rw[nU,l6,l6,<-ih];simp only[dw,mM,fQ,show(j+1)*3=j*3+1+1+1 by omega,nU,show j*3+1+1+1+1=(j*3+1)+1+1+1 by omega,show j*3+1+1+1+2=(j*3+2)+1+1+1 by omega]
theorem GR {w:World} {base g c j n:Nat} {L:List Pt} (h:w.ownsRow base 29 3 (aA g n c) n (L.flatMap dw)) (p:Pt):
  (((w.setCell (af g (j*3)) (.int .i64 p.1)).setCell (af g (j*3+1)) (.int .i64 p.2.1)).setCell (af g (j*3+2)) (.int .u32 p.2.2)).ownsRow base 29 3 (aA g n c) n ((L.set j p).flatMap dw):=by
 rw[<-DW];exact((((h.stored (j*3) (.int .i64 p.1)).1).stored (j*3+1) (.int .i64 p.2.1)).1.stored (j*3+2) (.int .u32 p.2.2)).1
theorem Fe {L:List Pt} {j:Nat} (a:j<L.length):(L.flatMap dw)[j*3]? =some (.int .i64 L[j].1)/\(L.flatMap dw)[j*3+1]? =some (.int .i64 L[j].2.1)/\(L.flatMap dw)[j*3+2]? =some (.int .u32 L[j].2.2):=by
 induction L generalizing j with
 |nil=>simp at a
 |cons q L ih=>
  cases j with
  |zero=>simp[dw]
  |succ j=>
   have:=ih (j:=j) (aQ a);simp only[l6,dw,mM,fQ,show(j+1)*3=j*3+1+1+1 by omega,dC,show j*3+1+1+1+1=(j*3+1)+1+1+1 by omega,show j*3+1+1+1+2=(j*3+2)+1+1+1 by omega,uH];exact this
theorem Df {l:List Pt} {i m:Nat} (hi:i<=m) (d:m+1<l.length):((l.eraseIdx i).take m++l.drop m).set m l[m+1]=(l.eraseIdx i).take (m+1)++l.drop (m+1):=by
 have e:(l.eraseIdx i).length=l.length-1:=List.length_eraseIdx_of_lt aa;have c:((l.eraseIdx i).take m).length=m:=by rw[eH];omega
 have a:(l.eraseIdx i)[m]? =some l[m+1]:=by rw[List.getElem?_eraseIdx,aN aa,cB d]
 have b:m<(l.eraseIdx i).length:=aa;rw[cB b]at a;injection a with a;rw[uu _ _ aa,c,iR,mJ (by omega:m<l.length),oF,ic b,a,ed];rfl
theorem zT {l:List Pt} {p:Pt} {i:Nat} (a:l.Nodup) (hi:l[i]? =some p):(l.filter fun q=>decide (q≠p))=l.eraseIdx i:=by
 induction l generalizing i with
 |nil=>simp at hi
 |cons x l ih=>
  rw[mO]at a;cases i with
  |zero=>
   simp only[fZ,jq]at hi;subst hi;rw[l7,aN ay,List.eraseIdx_cons_zero];exact lY.2 fun q b=>by simp only[bQ];rintro rfl;exact a.1 b
  |succ i=>
   rw[dC]at hi;have c:x≠p:=fun e=>a.1 (e▸List.mem_of_getElem? hi);rw[l7,aO (aQ c),List.eraseIdx_cons_succ,ih a.2 hi]
theorem Ff (w:World) (g m c:Nat) (d:∀j,j<3->(w.cell? (af g (m*3+j))).isSome=true) (e:∀j,j<3->w.frozen? (af g (m*3+j))=false):
  (Builtin.clear_ #[22] 0 #[.slice (some (af g (m*3))) 1 c]).run prog w=.ok (.tuple #[]) (((w.setCell (af g (m*3)) (.int .i64 0)).setCell (af g (m*3+1)) (.int .i64 0)).setCell (af g (m*3+2)) (.int .u32 0)):=by
 have b:=run_storeCells_cells (P:=prog) g (m*3) [.int .i64 0,.int .i64 0,.int .u32 0] 0 w (aQ d) (aQ e) (by intro v a;simp at a;rcases a with rfl|rfl<;>rfl);simp only[dK]at b;have a:(zeroValue 29).run prog w=.ok (.agg #[ae 0,ae 0,ak 0]) w:=aM;have f:(Builtin.zeroCells (Value.agg #[ae 0,ae 0,ak 0]).cells 1).toList=[.int .i64 0,.int .i64 0,.int .u32 0]:=aM;simp[Builtin.clear_,pO underlying22,a,f,b,World.setCells]
theorem Mr {w:World} {base g n n' b:Nat} {e:TypeId} {L:List Pt} (h:w.ownsRow base e 3 (aA g n b) n (L.flatMap dw)) (v:n'<=n):w.ownsRow base e 3 (aA g n' b) n' ((L.take n').flatMap dw):=by
 have⟨i,j⟩:=h;rw[gq bg]at i;refine⟨by rw[gq bg,eH];omega,?_⟩;rcases j with⟨c,-⟩|⟨t,s,d,c,k,l,u,m,o,p⟩
 .cases c
 .injection c with a _ f;injection a with a;injection a with a _ _;subst a f;refine .inr ⟨g,b,d,rfl,k,l,aa,m,o,?_⟩;have q:(L.take n').flatMap dw=(L.flatMap dw).take (n'*3):=by
   have r:L.flatMap dw=(L.take n').flatMap dw++(L.drop n').flatMap dw:=by rw[<-gX,jJ]
   rw[r,List.take_left' (by rw[gq bg,eH];omega)]
  rw[q,<-p,Bd];congr 1;omega
theorem OL (p:Pt) (b g c n base:Nat) (l:List Pt) (w:World) (H:w.cell? (af b 0)=some (ae p.1)) (S:w.cell? (af b 1)=some (ae p.2.1)) (T:w.cell? (af b 2)=some (ak p.2.2)) (I:w.ownsRow base 29 3 (aA g n c) n (l.flatMap dw)) (aN:l.length=n) (aQ:n<=1000000) (K:b≠g) (aR:l.Nodup):
  aK 123 #[aA g n c,.func (.func 124) #[] #[aj b]] w fun e w'=>
   ∃n',e=.returned (aA g n' c)/\n'=(l.filter fun q=>decide (q≠p)).length/\w'.ownsRow base 29 3 (aA g n' c) n' ((l.filter fun q=>decide (q≠p)).flatMap dw)/\ax (fun k=>k=g) w w':=by
 subst aN;obtain⟨F,C⟩:∃F,Hid (F=l.filter fun q=>decide (q≠p)):=⟨_,rfl⟩;rw[<-C.o];have J:=gW w _ H;have ad:=ag (Q8 p b (some (af g 0)) c l w H S T (by
  obtain⟨aC,aD,t,-,-,aV⟩:=bY.aJ bg ai I;injection t with t _ _;rw[t];exact aV) aQ)
 have ah:=ag (fun(q:Pt) (W:World) (v:ax (fun k=>k=g) w W)=>OJ q p b W ((dD (a:=(af b 0)) (v.block b J K)).trans H) ((dD (a:=(af b 1)) (v.block b J K)).trans S) ((dD (a:=(af b 2)) (v.block b J K)).trans T));have a4:l.length<=c:=by
  obtain⟨aC,aD,t,-,u,-⟩:=bY.aJ bg ai I;injection t with _ _ t;omega
 have HO:=ag I;have Q:=ag aR;have a1:=xh;go_enter func123,ntmps123
 go_wp2_with fail
 refine ad.o.mono ?_;rintro e w1 ⟨⟨k,rfl,aM⟩,Y⟩;have P:=ag (az HO.o Y);have O:Hid (ax (fun k=>k=g) w w1):=(ax.refl _ w).below Y;rcases aM with⟨rfl,aT⟩|⟨i,rfl,hi,X,-⟩
 .have aF:(l.filter fun q=>decide (q≠p))=l:=lY.2 fun q aU=>by simp only[bQ];rintro rfl;exact aT aU
  go_wp2_with fail
  go_ret;have hF:=C.o.trans aF;rw[hF];exact⟨_,rfl,rfl,P.o,O.o⟩
 .have N:=ag (C.o.trans (zT Q.o X));have am:=ag X;have a7:((i:Int)==-1)=false:=by simp only[beq_eq_false_iff_ne];omega
  have a5:=List.length_eraseIdx_of_lt hi
  go_wp2_with fail
  go_loopw [5,6] (fun L aX wr=>∃m:Nat,L=.int .i64 m/\aX=.int .i64 ((m+1:Nat):Int)/\i<=m/\m+1<=l.length/\Hid (wr.ownsRow base 29 3 (aA g l.length c) l.length (((l.eraseIdx i).take m++l.drop m).flatMap dw))/\Hid (ax (fun k=>k=g) w wr)) (fun L _ _=>l.length-(intOf L).toNat)
  case atStart=>exact⟨i,rfl,by go_num,aB _,aa,by rw[xL,List.take_left' (by rw[eH];omega),jJ];exact P.o,O.o⟩
  case round=>
   obtain⟨m,rfl,rfl,aL,a6,d,D⟩:=hrel;by_cases Z:m+1<l.length
   .have U:((l.eraseIdx i).take m++l.drop m).length=l.length:=aH;have y:((l.eraseIdx i).take m++l.drop m)[m+1]? =some l[m+1]:=by
     have G:((l.eraseIdx i).take m).length=m:=by rw[eH];omega
     rw[nD aa,G,Eu,show m+(m+1-m)=m+1 by omega,cB Z]
    have aW:=Df aL Z;have aS:¬l[m+1]=p:=fun e=>by
     have u:=am.o;rw[cB hi]at u;injection u with u;have:=(List.getElem_inj Q.o).1 (u.trans e.symm);omega
    generalize(l.eraseIdx i).take m++l.drop m=R at*;generalize l[m+1]=q at*;have V:m+1<R.length:=aa;have⟨f0,f1,f2⟩:=Fe V;rw[cB V]at y;injection y with y;rw[y]at f0 f1 f2;have ab:=d.o.cellAt ((m+1)*3) aa;have x1:=d.o.cellAt ((m+1)*3+1) aa;have x2:=d.o.cellAt ((m+1)*3+2) aa;rw[f0]at ab;rw[f1]at x1;rw[f2]at x2;have av:=ag aW;have ac:=ag (fun W v=>ah.o q W v);have aE:m<R.length:=aa;have⟨r,s,h⟩:=q;simp only at ab x1 x2;have hd:decide ((r,s,h)=p)=false:=by simp[aS]
    have al:=ag ((aI wr.heap.size wr).alloc (aB _) (.cells #[ae r,ae s,ak h] 29));have n0:(wr.alloc (.cells #[ae r,ae s,ak h] 29)).cell? (af wr.heap.size 0)=some (ae r):=by rw[eF _ _ _ _ rfl];rfl
    have aY:(wr.alloc (.cells #[ae r,ae s,ak h] 29)).cell? (af wr.heap.size 1)=some (ae s):=by rw[eF _ _ _ _ rfl];rfl
    have aZ:(wr.alloc (.cells #[ae r,ae s,ak h] 29)).cell? (af wr.heap.size 2)=some (ak h):=by rw[eF _ _ _ _ rfl];rfl
    have aq:=ag n0;have ar:=ag aY;have au:=ag aZ
    go_wp2_with fail
    refine(ac.o _ (D.o.grown (qM wr _ none) ay)).mono ?_;rintro e w2 ⟨rfl,aG⟩;rw[hd];have x:=aG.below (aB _);have a8:=(x.cell (p:=(af wr.heap.size 0)) ay).trans aq.o;have y1:=(x.cell (p:=(af wr.heap.size 1)) ay).trans ar.o;have y2:=(x.cell (p:=(af wr.heap.size 2)) ay).trans au.o;have M:Hid (Below wr.heap.size wr w2):=al.o.trans (x.mono ay);have f:=ag (az d.o M.o);have z:=f.o.cellAt (m*3) aa;have A:=f.o.cellAt (m*3+1) aa;have B:=f.o.cellAt (m*3+2) aa;have a9:=f.o.frozenAt (m*3);have ba:=f.o.frozenAt (m*3+1);have bb:=f.o.frozenAt (m*3+2);have⟨f0,f1,f2⟩:=Fe aE;rw[f0]at z;rw[f1]at A;rw[f2]at B;have ao:Hid (ax (fun k=>k=g) w w2):=D.o.grown (bN M.o) ay;have E:=ag (GR (j:=m) f.o (r,s,h));have aP:(m:Int)<(l.length:Int):=aa;go_wp2;go_roundw
    case rel=>exact⟨m+1,by go_num,by go_num,aa,aa,by rw[<-av.o];exact E.o,((ao.o.set _ (.inl rfl)).set _ (.inl rfl)).set _ (.inl rfl)⟩
    case measure=>exact eT
   .have a2:¬((m+1:Nat):Int)<(l.length:Int):=aa;have aP:(0:Int)<=(m:Int)/\(m:Int)<=(l.length:Int):=aa;have aO:l.length-m=1:=aa;have U:m<((l.eraseIdx i).take m++l.drop m).length:=aH;have⟨f0,f1,f2⟩:=Fe U;have z:=d.o.cellAt (m*3) aa;have A:=d.o.cellAt (m*3+1) aa;have B:=d.o.cellAt (m*3+2) aa;rw[f0]at z;rw[f1]at A;rw[f2]at B;have aw:=Ff wr g m (c-m) (fun j a3=>by
     obtain rfl|rfl|rfl:j=0\/j=1\/j=2:=aa
     .simp[z]
     .simp[A]
     .simp[B]) (fun j _=>d.o.frozenAt (m*3+j))
    have a0:(Builtin.clear_ #[22] 0 #[.slice (some (af g (m*3))) (l.length-m) (c-m)]).run prog wr=.ok (.tuple #[]) (((wr.setCell (af g (m*3)) (.int .i64 0)).setCell (af g (m*3+1)) (.int .i64 0)).setCell (af g (m*3+2)) (.int .u32 0)):=by rw[aO];exact aw
    have E:=ag (Mr (n':=m) (GR (j:=m) d.o (0,0,0)) aa);have an:Hid (((((l.eraseIdx i).take m++l.drop m).set m (0,0,0)).take m)=F):=by
     have G:((l.eraseIdx i).take m).length=m:=by rw[eH];omega
     show _=_;rw[N.o,uu _ _ aa,List.take_left' G,kD aa]
    have ap:Hid (m=(l.eraseIdx i).length):=by show _=_;omega
    go_wp2_with fail
    go_ret;exact⟨m,rfl,by rw[N.o];exact ap.o,by rw[<-an.o];exact E.o,((D.o.set _ (.inl rfl)).set _ (.inl rfl)).set _ (.inl rfl)⟩
theorem OM {l:List Pt} (h:(ids l).Nodup) (f:Pt->Bool):(ids (l.filter f)).Nodup:=(List.filter_sublist.map _).nodup h
theorem Fg {l:List Pt} (h:(ids l).Nodup):l.Nodup:=(dz.1 h).imp fun h e=>h (congrArg (fun p:Pt=>p.2.2) e)
end
section
open Go.RowKit Go.Maps
def nn (c:eX):ji:=(c.2,c.2)
def cO (al:List Bool) (c:eX):Bool:=al[c.2.toNat]? ==some true
def sM (al:List Bool) (l:List eX):List Pt:=(l.filter (cO al)).map (·.1)
def il (eQ:List Int) (l:List eX) (i:Int):List Int:=l.foldl (fun v c=>v.set c.2.toNat i) eQ
theorem nk:∀(l:List eX) (eQ:List Int) (i:Int),(il eQ l i).length=eQ.length
 |[],_,_=>rfl
 |c::l,eQ,i=>by
  show(il (eQ.set c.2.toNat i) l i).length=_;rw[nk l];simp
theorem GU (eQ:List Int) (l:List eX) (c:eX) (i:Int):il eQ (l++[c]) i=(il eQ l i).set c.2.toNat i:=by simp[il]
theorem qD:∀(l:List eX) (eQ:List Int) (i:Int) (k:Nat),(∀c∈l,c.2.toNat≠k)->(il eQ l i)[k]? =eQ[k]?
 |[],_,_,_,_=>rfl
 |c::l,eQ,i,k,h=>by
  show(il (eQ.set c.2.toNat i) l i)[k]? =_;rw[qD l _ i k (fun d hd=>h d (lh _ hd)),nS (h c nT)]
theorem yO:∀(l:List eX) (eQ:List Int) (i:Int) (c:eX),c∈l->c.2.toNat<eQ.length->(il eQ l i)[c.2.toNat]? =some i
 |d::l,eQ,i,c,h,g=>by
  show(il (eQ.set d.2.toNat i) l i)[c.2.toNat]? =_;by_cases f:∃e∈l,e.2.toNat=c.2.toNat
  .obtain⟨e,b,a⟩:=f;rw[<-a];exact yO l _ i e b (by rw[kM,a];exact g)
  .have j:∀e∈l,e.2.toNat≠c.2.toNat:=fun e b a=>f ⟨e,b,a⟩;rcases gZ.1 h with rfl|h
   .rw[qD l _ i _ j,uq g]
   .exact absurd rfl (j c h)
structure oh (CB:List (List eX)) (al:List Bool) (A:List eX) (N:Int):Prop where
 nm:∃NB,xc (CB.map (·.map nn)) NB al (al.map fun _=>0) A.length N
 live:A.Perm (CB.flatten.filter (cO al))
 keys:(ids (A.map (·.1))).Nodup
 good:∀c∈CB.flatten,FX c.1
structure Uw (CB:List (List eX)) (al:List Bool) (eQ:List Int):Prop where
 Jw:eQ.length=al.length
 lvl:∀(i:Nat) (h:i<CB.length),∀c∈CB[i],eQ[c.2.toNat]? =some (i:Int)
theorem xk (CB:List (List eX)):(CB.map (·.map nn)).flatten=CB.flatten.map nn:=by rw[List.map_flatten]
theorem OO (al:List Bool) (l:List eX):(l.map nn).filter (dG al)=(l.filter (cO al)).map nn:=by
 rw[yc];rfl
theorem Ms {α a:Type} (f:α->a) (CB:List (List α)) (i:Nat):eU (CB.map (·.map f)) i=(eU CB i).map f:=by
 simp[eU,List.map_flatten,Ey,List.map_take]
theorem Mt {α a:Type} (f:α->a) (CB:List (List α)) (i:Nat) (x:α):(kz CB i x).map (·.map f)=kz (CB.map (·.map f)) i (f x):=by
 simp[kz,Ms,yg]
theorem BU {α a:Type} (f:α->a):∀(k:Nat) (r:List α),(setC k r).map (·.map f)=setC k (r.map f)
 |0,_=>rfl
 |k+1,r=>by
  unfold setC;rw[bR];split
  .rw[bM,BU f k,yg];simp[List.map_take]
  .rw[bM,BU f k];rfl
section
variable {CB:List (List eX)} {al:List Bool} {eQ:List Int} {A:List eX} {N:Int}
theorem oh.num (h:oh CB al A N) {c:eX} (a:c∈CB.flatten):∃k:Nat,c.2=k/\k<al.length:=by
 have⟨NB,b⟩:=h.nm;exact b.vL (nn c) (by rw[xk];exact rC a)
theorem oh.TA (h:oh CB al A N):(CB.flatten.map (·.2)).Nodup:=by
 have⟨NB,a⟩:=h.nm;have:=a.xe;rw[xk,vz]at this;exact this
theorem oh.one (h:oh CB al A N) {c d:eX} (a:c∈CB.flatten) (hd:d∈CB.flatten) (e:c.2.toNat=d.2.toNat):c=d:=by
 obtain⟨k,f,-⟩:=h.num a;obtain⟨m,g,-⟩:=h.num hd;have b:CB.flatten.Pairwise fun p q=>p.2≠q.2:=dz.1 h.TA;rcases fo b a hd with h1|h1|h1
 .exact h1
 .exact absurd aa h1
 .exact absurd aa h1
theorem oh.stored (h:oh CB al A N):N=(CB.flatten.length:Nat):=by
 have⟨NB,a⟩:=h.nm;have:=a.stored;rw[xk,bR]at this;exact this
theorem oh.levels (h:oh CB al A N):CB.length<=13/\CB.flatten.length<=5000/\al.length<=5000/\(CB.length≠0->2^(CB.length-1)<=CB.flatten.length):=by
 have⟨NB,b⟩:=h.nm;have a:=b.levels;have c:=b.small;rw[bR]at a;rw[xk,bR]at a c;exact⟨a.1,c,b.bound,a.2⟩
theorem oh.size (h:oh CB al A N) (i:Nat) (hi:i<CB.length):CB[i].length=0\/CB[i].length=2^i:=by
 have⟨NB,a⟩:=h.nm;have:=a.size i (aQ hi);simpa using this
theorem oh.inl (h:oh CB al A N) {i:Nat} (hi:i<CB.length) {c:eX} (a:c∈CB[i]):c∈CB.flatten:=pJ.2 ⟨_,bF hi,a⟩
theorem oh.few (h:oh CB al A N) (i:Nat) (hi:i<CB.length):CB[i].length<=5000:=
 bA (Eg (bF hi)).length_le h.levels.2.1
theorem oh.bk (h:oh CB al A N) (i:Nat) (hi:i<CB.length):IA (sM al CB[i])/\(ids (sM al CB[i])).Nodup/\∀c∈CB[i],∃k:Nat,c.2=k/\k<al.length:=by
 refine⟨fun p hp=>?_,?_,fun c a=>h.num (h.inl hi a)⟩
 .obtain⟨c,a,rfl⟩:=dA.1 hp;exact(h.good c (h.inl hi (bG.1 a).1)).2.2
 .have b:((CB.flatten.filter (cO al)).map (·.1)).Perm (A.map (·.1)):=(h.live.map _).symm;have d:(ids ((CB.flatten.filter (cO al)).map (·.1))).Nodup:=((b.map _).nodup_iff).2 h.keys;exact((((Eg (bF hi)).filter _).map _).map _).nodup d
theorem oh.apart (h:oh CB al A N) {i j:Nat} (hi:i<CB.length) (b:j<CB.length) (k:i≠j) {c d:eX} (a:c∈CB[i]) (hd:d∈CB[j]):c.2.toNat≠d.2.toNat:=fun e=>by
 have g:=h.one (h.inl hi a) (h.inl b hd) e;subst g;have f:=gQ.1 (List.pairwise_flatten.1 (dz.1 h.TA)).2;rcases Nat.lt_or_gt_of_ne k with h4|h4
 .exact f i j hi b h4 c a c hd rfl
 .exact f j i b hi h4 c hd c a rfl
theorem oh.Jy (h:oh CB al A N):A.length<=CB.flatten.length/\(A.length:Int)=(al.count true:Nat):=by
 have⟨NB,a⟩:=h.nm;exact⟨by rw[h.live.length_eq];exact fO _ _,a.cnt⟩
theorem TB:oh [] [] [] 0:=⟨⟨[],Ty.toxc⟩,pR _,pQ,ay⟩
theorem TC:Uw [] [] []:=⟨rfl,fun i h=>absurd h (kE _)⟩
theorem Mv {al:List Bool} {c:eX} {b:Bool} {k:Nat} (a:c.2=k) (d:k<al.length):cO (al++[b]) c=cO al c:=by
 unfold cO;rw[a,gY,lW d]
theorem KX (h:oh CB al A N) (b:Bool) {l:List eX} (f:∀c∈l,c∈CB.flatten):l.filter (cO (al++[b]))=l.filter (cO al):=qQ fun c a=>by
 have⟨k,d,e⟩:=h.num (f c a);exact Mv d e
theorem oh.add (h:oh CB al A N) (s:N<=2*A.length) (x:Pt) (z:FX x) (w:x.2.2∉ids (A.map (·.1))) (f:al.length<5000) (i:Nat) (hi:i<=CB.length) (v:∀j (d:j<CB.length),j<i->CB[j]≠[]) (m:∀h:i<CB.length,CB[i]=[]):
  oh (kz CB i (x,(al.length:Int))) (al++[true]) (A++[(x,(al.length:Int))]) (N+1):=by
 have⟨NB,u⟩:=h.nm;have hP:=tX CB i (x,(al.length:Int)) m;have t:∀c∈(kz CB i (x,(al.length:Int))).flatten,c=(x,(al.length:Int))\/c∈CB.flatten:=fun c hc=>gZ.1 (hP.mem_iff.1 hc);refine⟨?_,?_,?_,?_⟩
 .have y:=OH (NB:=NB) (pl:=al.map fun _=>0) ⟨u,s⟩ (al.length:Int) 0 (fun e l=>?_) f i (aQ hi) (fun j d r=>?_) (fun d=>?_) ((eU (CB.map (·.map nn)) i++[((al.length:Int),(al.length:Int))]).mergeSort fun p q=>decide (p.1<=q.1)) (ru _ _) ?_
  .have e:((A++[(x,(al.length:Int))]).length:Int)=A.length+1:=ay;rw[Mt,bM,e];exact⟨_,y.toxc⟩
  .rw[xk]at l;obtain⟨c,hc,rfl⟩:=dA.1 l;have⟨k,C,D⟩:=h.num hc;show c.2≠_;omega
  .rw[fP];intro n;exact v j (aQ d) r (List.map_eq_nil_iff.1 n)
  .rw[fP,m (aQ d)];rfl
  .have:=ry (le:=fun p q:ji=>decide (p.1<=q.1)) (fun a b c g B=>by simp at*;omega) (fun a b=>aH) (eU (CB.map (·.map nn)) i++[((al.length:Int),(al.length:Int))]);exact this.imp fun h=>aQ h
 .refine List.Perm.trans ?_ ((hP.filter _).symm);have ht:cO (al++[true]) (x,(al.length:Int))=true:=by simp[cO]
  rw[l7,aO ht,KX h true fun c hc=>hc];exact List.perm_append_comm.trans (h.live.cons _)
 .have g:=h.keys;unfold ids at*;rw[bM,bM];refine pG.2 ⟨g,ay,fun a o b f=>?_⟩;obtain rfl:b=x.2.2:=aQ f;exact fun e=>w (e▸o)
 .intro c hc;rcases t c hc with rfl|hc
  .exact z
  .exact h.good c hc
theorem Uw.add (b:Uw CB al eQ) (h:oh CB al A N) (x:Pt) (i:Nat) (hi:i<=CB.length):Uw (kz CB i (x,(al.length:Int))) (al++[true]) (il (eQ++[(i:Int)]) (eU CB i++[(x,(al.length:Int))]) i):=by
 refine⟨by rw[nk];simp[b.Jw],?_⟩;intro j t c a;have y:(eQ++[(i:Int)]).length=al.length+1:=by simp[b.Jw]
 have r:∀d∈eU CB i,d∈CB.flatten:=fun d hd=>by
  have:=(jG CB i).mem_iff.1 hd;have⟨l,p,f⟩:=pJ.1 this;exact pJ.2 ⟨l,List.mem_of_mem_take p,f⟩
 rw[o6]at a;by_cases q:j<i
 .rw[aO q]at a;cases a
 .rw[aN q]at a;by_cases o:j=i
  .rw[aO o]at a;subst o;refine yO _ _ _ c a ?_;rw[y];rcases bT.1 a with h3|h3
   .obtain⟨k,v,w⟩:=h.num (r c h3);omega
   .obtain rfl:c=(x,(al.length:Int)):=aQ h3;simp
  .rw[aN o,jb]at a;have g:j<CB.length:=by rw[o5 _ _ _ hi]at t;split at t<;>omega
   rw[cB g,gH]at a;have s:=h.inl g a;have⟨k,v,w⟩:=h.num s;rw[qD _ _ _ _ fun d hd e=>?_,lW (by rw[b.Jw];omega)]
   .exact b.lvl j g c a
   .rcases bT.1 hd with h3|h3
    .have u:=h.one (r d h3) s e;subst u;have⟨l,p,f⟩:=pJ.1 ((jG CB i).mem_iff.1 h3);obtain⟨m,z,rfl⟩:=jo p;rw[eH]at z;rw[xZ]at f;have n:=b.lvl m aa d f;rw[b.lvl j g d a]at n;injection n with n;omega
    .obtain rfl:d=(x,(al.length:Int)):=aQ h3;simp only[gY]at e;omega
theorem oh.dead (h:oh CB al A N) (b:N<=2*A.length) {c:eX} (f:c∈A):oh CB (al.set c.2.toNat false) (A.filter fun d=>decide (d.1≠c.1)) N/\(∀l,(∀d∈l,d∈CB.flatten)->sM (al.set c.2.toNat false) l=(sM al l).filter fun q=>decide (q≠c.1))/\(A.filter fun d=>decide (d.1≠c.1)).length+1=A.length:=by
 have⟨NB,E⟩:=h.nm;have g:=bG.1 (h.live.mem_iff.1 f);have⟨k,a,B⟩:=h.num g.1;have x:al[k]? =some true:=by
  have:=g.2;unfold cO at this;rw[a,gY]at this;simpa using this
 rw[a,gY];have r:(A.map (·.1)).Nodup:=Fg h.keys;have z:∀d∈CB.flatten,(cO (al.set k false) d=(cO al d&&decide (d.1≠c.1))):=fun d hd=>by
  have⟨m,b,H⟩:=h.num hd;by_cases e:d=c
  .subst e;have:m=k:=aa;subst this;unfold cO;rw[a,gY,uq B];simp
  .have D:k≠m:=fun s=>e (h.one hd g.1 (by rw[b,a,s]));have t:cO (al.set k false) d=cO al d:=by
    unfold cO;rw[b,gY,nS D]
   rw[t];cases w:cO al d with
   |false=>rfl
   |true=>
    have y:=h.live.mem_iff.2 (bG.2 ⟨hd,w⟩);have F:d.1≠c.1:=fun n=>by
     have u:A.Pairwise fun p q=>p.1≠q.1:=dz.1 r;rcases fo u y f with h1|h1|h1
     .exact e h1
     .exact h1 n
     .exact h1 n.symm
    simp[F]
 have o:∀l:List eX,(∀d∈l,d∈CB.flatten)->l.filter (cO (al.set k false))=(l.filter (cO al)).filter fun d=>decide (d.1≠c.1):=fun l j=>by
  rw[rD];refine qQ fun d hd=>?_;rw[z d (j d hd)];exact Bool.and_comm _ _
 have C:(A.filter fun d=>decide (d.1≠c.1)).length+1=A.length:=by
  have:=List.length_eq_countP_add_countP (fun d:eX=>decide (d.1≠c.1)) (l:=A);rw[<-IC,this];congr 1;have v:A.countP (fun d=>decide ¬decide (d.1≠c.1)=true)=(A.map (·.1)).count c.1:=by
   rw[List.count,EC];refine AU fun d _=>?_;simp[Function.comp]
  rw[v,r.count,aO (rC f)]
 refine⟨⟨⟨NB,?_⟩,?_,?_,h.good⟩,fun l j=>?_,C⟩
 .have:=KU (NB:=NB) ⟨E,b⟩ k x;rw[show((A.filter fun d=>decide (d.1≠c.1)).length:Int)=A.length-1 by omega];have e:(al.set k false).map (fun _=>(0:Int))=al.map fun _=>0:=by
   rw[kP];refine rH ay fun i h1 G=>?_;rw[List.getElem_set];split<;>simp
  rw[e];exact this
 .rw[o _ fun d hd=>hd];exact h.live.filter _
 .unfold ids at*;exact((List.filter_sublist.map _).map _).nodup h.keys
 .unfold sM;rw[o l j,yc];rfl
theorem oh.anew (h:oh CB al A N) {L:List eX} (n:L=(CB.reverse.flatten).filter (cO al)):
  oh (setC (Lib.bitLen L.length) L) al A L.length/\L.length=A.length:=by
 have⟨NB,t⟩:=h.nm;have hp:L.Perm A:=by
  rw[n];exact(((uQ CB).flatten).filter _).trans h.live.symm
 have u:L.length<=5000:=by
  have g:=h.Jy.1;have j:=h.levels.2.1;have:=hp.length_eq;omega
 have s:L.length<2^Lib.bitLen L.length:=by
  by_cases f:L.length=0
  .rw[f];decide
  .exact(bz _ aa f).2.2
 have hP:=kR _ L s;have e:((CB.map (·.map nn)).reverse.flatten).filter (dG al)=L.map nn:=by
  rw[n,<-OO,List.map_flatten,Ey]
 have o:∀c∈L,c∈CB.flatten/\cO al c=true:=fun c d=>bG.1 (h.live.mem_iff.1 (hp.mem_iff.1 d));refine⟨⟨?_,?_,h.keys,fun c d=>h.good c (o c (hP.mem_iff.1 d)).1⟩,hp.length_eq⟩
 .have:=KV (NB':=(setC (Lib.bitLen L.length) (L.map nn)).map fun l=>l.mergeSort fun p q=>decide (p.1<=q.1)) t (by rw[e,bR];exact⟨ay,fun i g j=>by rw[fP];exact ru _ _⟩) (fun l r=>by
   obtain⟨m,-,rfl⟩:=dA.1 r;have:=ry (le:=fun p q:ji=>decide (p.1<=q.1)) (fun a b c g j=>by simp at*;omega) (fun a b=>aH) m;exact this.imp fun h=>aQ h)
  have k:=this.1.toxc;rw[e,bR]at k;rw[BU];exact⟨_,k⟩
 .refine hp.symm.trans (hP.symm.trans ?_);rw[lY.2 fun c d=>(o c (hP.mem_iff.1 d)).2]
end
end
end Go.Proofs.YtkjdbndekceffaaGreat
namespace Go.Proofs
open Go.Shelf
def Tryz.Jz:Go.Shelf.Ren:=⟨fun|45=>198|n=>n,fun|22=>35|23=>27|3=>3|4=>4|0=>0|n=>n,fun|n=>n⟩
theorem Tryz.JA:Go.Proofs.SlLaysE.n45 Tryz.prog Tryz.Jz:={
 mixed:=aM
 f45:=gz Tryz.func198
 t0:=uS
 a0:=vB
 z0:=ve
 v0:=uV
 t3:=rG
 a3:=nZ
 z3:=nW
 v3:=rJ
 t4:=pI
 a4:=rU
 z4:=rR
 v4:=rM
 t22:=Tryz.underlying35
 a22:=Tryz.isAgg35
 z22:=Tryz.sizeOf35
 v22:=Tryz.zeroValue35
 a23:=yh
 z23:=yf}
def Tryz.JB:Go.Shelf.Ren:=⟨fun|45=>197|n=>n,fun|22=>143|23=>2|3=>3|4=>4|0=>0|n=>n,fun|n=>n⟩
theorem Tryz.JC:Go.Proofs.SlLaysE.n45 Tryz.prog Tryz.JB:={
 mixed:=aM
 f45:=gz Tryz.func197
 t0:=uS
 a0:=vB
 z0:=ve
 v0:=uV
 t3:=rG
 a3:=nZ
 z3:=nW
 v3:=rJ
 t4:=pI
 a4:=rU
 z4:=rR
 v4:=rM
 t22:=Tryz.underlying143
 a22:=Tryz.isAgg143
 z22:=Tryz.sizeOf143
 v22:=Tryz.zeroValue143
 a23:=Tryz.isAgg2
 z23:=Tryz.sizeOf2}
def Tryz.JD:Go.Shelf.Ren:=⟨fun|45=>199|n=>n,fun|22=>148|23=>3|3=>3|4=>4|0=>0|n=>n,fun|n=>n⟩
theorem Tryz.Fh:Go.Proofs.SlLaysE.n45 Tryz.prog Tryz.JD:={
 mixed:=aM
 f45:=gz Tryz.func199
 t0:=uS
 a0:=vB
 z0:=ve
 v0:=uV
 t3:=rG
 a3:=nZ
 z3:=nW
 v3:=rJ
 t4:=pI
 a4:=rU
 z4:=rR
 v4:=rM
 t22:=Tryz.underlying148
 a22:=Tryz.isAgg148
 z22:=Tryz.sizeOf148
 v22:=Tryz.zeroValue148
 a23:=nZ
 z23:=nW}
end Go.Proofs
