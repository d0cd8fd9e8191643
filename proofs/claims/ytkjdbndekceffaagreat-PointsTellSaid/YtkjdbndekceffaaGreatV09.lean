/- Made small by a program. -/
import Derived.Test.YtkjdbndekceffaaGreatV06
import Derived.Test.YtkjdbndekceffaaGreatV08
set_option linter.unusedSimpArgs false
set_option linter.unusedVariables false
set_option maxRecDepth 100000
set_option maxHeartbeats 16000000
namespace Go.Proofs.YtkjdbndekceffaaGreat
open Tryz
section
open Go.RowKit Go.Sort Go.Shelf Go.Lib Go.Maps
theorem x9:eU 124:=bP func124 aL rfl
theorem PS (q p:Pt) (a:Nat) (W:World) (b:W.cell? (ag a 0)=some (ae p.1)) (c:W.cell? (ag a 1)=some (ae p.2.1)) (d:W.cell? (ag a 2)=some (ak p.2.2)):
  aK 124 #[jb q.1 q.2.1 q.2.2,aj a] W fun e w'=>e=.returned (.bool (decide (q=p)))/\yF W w':=by
 have f:=iF W _ b;have g:=ah b;have h:=ah c;have i:=ah d;have⟨j,k,l⟩:=p;have⟨m,n,o⟩:=q;simp only at*;go_enter func124,ntmps124;go_wp2
 all_goals
  go_ret;exact⟨by simp[*],(yF.refl _).alloc _⟩
theorem Sk (p:Pt) (d:Nat) (a:Option Addr) (c:Nat) (l:List Pt) (w:World) (r:w.cell? (ag d 0)=some (ae p.1)) (D:w.cell? (ag d 1)=some (ae p.2.1)) (E:w.cell? (ag d 2)=some (ak p.2.2)) (F:bV bX 3 w a l) (T:l.length<=1000000):
  aK 190 #[.slice a l.length c,.func (.func 124) #[] #[aj d]] w fun e w'=>
   (∃k:Int,e=.returned (ae k)/\((k=-1/\p∉l)\/∃i:Nat,k=i/\i<l.length/\l[i]? =some p/\p∉l.take i))/\Below w.heap.size w w':=by
 have K:=af F;have t:=iF w _ r;have I:=af (fun(q:Pt) (W:World) (s:Below w.heap.size w W)=>PS q p d W ((s.cell (p:=(ag d 0)) t).trans r) ((s.cell (p:=(ag d 1)) t).trans D) ((s.cell (p:=(ag d 2)) t).trans E));have P:=x9;clear r D E F;go_enter func190,ntmps190;go_wp2
 go_loopw [8] (fun u wr=>∃i:Nat,u=.int .i64 i/\i<=l.length/\Hid (p∉l.take i)/\Hid (Below w.heap.size w wr)) (fun u _=>l.length-(intOf u).toNat)
 case atStart=>exact⟨0,rfl,aT _,by simp[Hid],aJ _ _⟩
 case round=>
  obtain⟨i,rfl,hi,n,g⟩:=hrel;by_cases f:i<l.length
  .obtain⟨b,off,B,Q,j⟩:=(K.o.below g.o).get aa;have G:=j i f 0 aa;have x1:=j i f 1 aa;have x2:=j i f 2 aa;simp only[bX,eG,eQ,df]at G x1 x2;have C:l.take (i+1)=l.take i++[l[i]]:=gT f;have M:Hid (p∉l.take (i+1)↔¬l[i]=p):=by
    show _↔_;rw[C,bW];have:=n.o;constructor
    .intro h e;exact h (.inr (by simp[e]))
    .rintro h (h9|h9)
     .exact this h9
     .exact h (lS.1 h9).symm
   have J:Hid (l[i]? =some l[i]):=cK f;have H:=af (I.o l[i] wr g.o);have z:=af B;clear j B C;generalize l[i]=q at*;obtain⟨x,y,v⟩:=q;simp only at G x1 x2;obtain rfl:=z.o;clear z;have S:(i:Int)<(l.length:Int):=aa
   go_wp2_with fail
   refine H.o.mono ?_;rintro e w2 ⟨rfl,N⟩;have A:=af (g.o.trans ((N.below (aA _)).mono g.o.size));by_cases m:(x,y,v)=p
   .have hd:decide ((x,y,v)=p)=true:=by simp[m]
    go_wp2_with fail
    go_ret;exact⟨⟨i,rfl,.inr ⟨i,rfl,f,by rw[J.o,m],n.o⟩⟩,A.o⟩
   .have hd:decide ((x,y,v)=p)=false:=by simp[m]
    have L:=af (M.o.2 m)
    go_wp2_with fail
    go_roundw
    case rel=>exact⟨i+1,by go_num,aa,L,A⟩
    case measure=>exact bZ
  .have R:¬(i:Int)<(l.length:Int):=aa;have O:i=l.length:=aa
   go_wp2_with fail
   go_ret;have h9:=n.o;rw[O,iE]at h9;exact⟨⟨-1,rfl,.inl ⟨rfl,h9⟩⟩,g.o⟩
theorem EJ:∀(L:List Pt) (j:Nat) (p:Pt),(((L.flatMap bX).set (j*3) (.int .i64 p.1)).set (j*3+1) (.int .i64 p.2.1)).set (j*3+2) (.int .u32 p.2.2)=(L.set j p).flatMap bX
 |[],j,p=>ax
 |q::L,0,p=>by simp[bX]
 |q::L,j+1,p=>by
  have ih:=EJ L j p;rw[oD,mE,mE,<-ih];simp only[bX,nk,gu,show(j+1)*3=j*3+1+1+1 by omega,oD,show j*3+1+1+1+1=(j*3+1)+1+1+1 by omega,show j*3+1+1+1+2=(j*3+2)+1+1+1 by omega]
theorem uj {w:World} {base g c j n:Nat} {L:List Pt} (h:w.ownsRow base 29 3 (aC g n c) n (L.flatMap bX)) (p:Pt):
  (((w.setCell (ag g (j*3)) (.int .i64 p.1)).setCell (ag g (j*3+1)) (.int .i64 p.2.1)).setCell (ag g (j*3+2)) (.int .u32 p.2.2)).ownsRow base 29 3 (aC g n c) n ((L.set j p).flatMap bX):=by
 rw[<-EJ];exact((((h.stored (j*3) (.int .i64 p.1)).1).stored (j*3+1) (.int .i64 p.2.1)).1.stored (j*3+2) (.int .u32 p.2.2)).1
theorem yc {L:List Pt} {j:Nat} (a:j<L.length):(L.flatMap bX)[j*3]? =some (.int .i64 L[j].1)/\(L.flatMap bX)[j*3+1]? =some (.int .i64 L[j].2.1)/\(L.flatMap bX)[j*3+2]? =some (.int .u32 L[j].2.2):=by
 induction L generalizing j with
 |nil=>simp at a
 |cons q L ih=>
  cases j with
  |zero=>simp[bX]
  |succ j=>
   have:=ih (j:=j) (aQ a);simp only[mE,bX,nk,gu,show(j+1)*3=j*3+1+1+1 by omega,eQ,show j*3+1+1+1+1=(j*3+1)+1+1+1 by omega,show j*3+1+1+1+2=(j*3+2)+1+1+1 by omega,vJ];exact this
theorem D7 {l:List Pt} {i m:Nat} (hi:i<=m) (d:m+1<l.length):((l.eraseIdx i).take m++l.drop m).set m l[m+1]=(l.eraseIdx i).take (m+1)++l.drop (m+1):=by
 have e:(l.eraseIdx i).length=l.length-1:=List.length_eraseIdx_of_lt aa;have c:((l.eraseIdx i).take m).length=m:=by rw[dO];omega
 have a:(l.eraseIdx i)[m]? =some l[m+1]:=by rw[List.getElem?_eraseIdx,aN aa,cK d]
 have b:m<(l.eraseIdx i).length:=aa;rw[cK b]at a;injection a with a;rw[su _ _ aa,c,jh,ky (by omega:m<l.length),pz,gT b,a,dW];rfl
theorem AR {l:List Pt} {p:Pt} {i:Nat} (a:l.Nodup) (hi:l[i]? =some p):(l.filter fun q=>decide (q≠p))=l.eraseIdx i:=by
 induction l generalizing i with
 |nil=>simp at hi
 |cons x l ih=>
  rw[mF]at a;cases i with
  |zero=>
   simp only[eG,jH]at hi;subst hi;rw[lT,aN ax,List.eraseIdx_cons_zero];exact kV.2 fun q b=>by simp only[bO];rintro rfl;exact a.1 b
  |succ i=>
   rw[eQ]at hi;have c:x≠p:=fun e=>a.1 (e▸List.mem_of_getElem? hi);rw[lT,aO (aQ c),List.eraseIdx_cons_succ,ih a.2 hi]
theorem Gj (w:World) (g m c:Nat) (d:∀j,j<3->(w.cell? (ag g (m*3+j))).isSome=true) (e:∀j,j<3->w.frozen? (ag g (m*3+j))=false):
  (Builtin.clear_ #[22] 0 #[.slice (some (ag g (m*3))) 1 c]).run prog w=.ok (.tuple #[]) (((w.setCell (ag g (m*3)) (.int .i64 0)).setCell (ag g (m*3+1)) (.int .i64 0)).setCell (ag g (m*3+2)) (.int .u32 0)):=by
 have b:=run_storeCells_cells (P:=prog) g (m*3) [.int .i64 0,.int .i64 0,.int .u32 0] 0 w (aQ d) (aQ e) (by intro v a;simp at a;rcases a with rfl|rfl<;>rfl);simp only[df]at b;have a:(zeroValue 29).run prog w=.ok (.agg #[ae 0,ae 0,ak 0]) w:=aL;have f:(Builtin.zeroCells (Value.agg #[ae 0,ae 0,ak 0]).cells 1).toList=[.int .i64 0,.int .i64 0,.int .u32 0]:=aL;simp[Builtin.clear_,qC underlying22,a,f,b,World.setCells]
theorem Np {w:World} {base g n n' b:Nat} {e:TypeId} {L:List Pt} (h:w.ownsRow base e 3 (aC g n b) n (L.flatMap bX)) (v:n'<=n):w.ownsRow base e 3 (aC g n' b) n' ((L.take n').flatMap bX):=by
 have⟨i,j⟩:=h;rw[gK bq]at i;refine⟨by rw[gK bq,dO];omega,?_⟩;rcases j with⟨c,-⟩|⟨t,s,d,c,k,l,u,m,o,p⟩
 .cases c
 .injection c with a _ f;injection a with a;injection a with a _ _;subst a f;refine .inr ⟨g,b,d,rfl,k,l,aa,m,o,?_⟩;have q:(L.take n').flatMap bX=(L.flatMap bX).take (n'*3):=by
   have r:L.flatMap bX=(L.take n').flatMap bX++(L.drop n').flatMap bX:=by rw[<-gZ,jd]
   rw[r,List.take_left' (by rw[gK bq,dO];omega)]
  rw[q,<-p,Ca];congr 1;omega
theorem PT (p:Pt) (b g c n base:Nat) (l:List Pt) (w:World) (H:w.cell? (ag b 0)=some (ae p.1)) (S:w.cell? (ag b 1)=some (ae p.2.1)) (T:w.cell? (ag b 2)=some (ak p.2.2)) (I:w.ownsRow base 29 3 (aC g n c) n (l.flatMap bX)) (aN:l.length=n) (aQ:n<=1000000) (K:b≠g) (aR:l.Nodup):
  aK 123 #[aC g n c,.func (.func 124) #[] #[aj b]] w fun e w'=>
   ∃n',e=.returned (aC g n' c)/\n'=(l.filter fun q=>decide (q≠p)).length/\w'.ownsRow base 29 3 (aC g n' c) n' ((l.filter fun q=>decide (q≠p)).flatMap bX)/\aB (fun k=>k=g) w w':=by
 subst aN;obtain⟨F,C⟩:∃F,Hid (F=l.filter fun q=>decide (q≠p)):=⟨_,rfl⟩;rw[<-C.o];have J:=iF w _ H;have ad:=af (Sk p b (some (ag g 0)) c l w H S T (by
  obtain⟨ay,aE,t,-,-,aV⟩:=bV.aD bq ai I;injection t with t _ _;rw[t];exact aV) aQ)
 have ah:=af (fun(q:Pt) (W:World) (v:aB (fun k=>k=g) w W)=>PS q p b W ((dJ (a:=(ag b 0)) (v.block b J K)).trans H) ((dJ (a:=(ag b 1)) (v.block b J K)).trans S) ((dJ (a:=(ag b 2)) (v.block b J K)).trans T));have a4:l.length<=c:=by
  obtain⟨ay,aE,t,-,u,-⟩:=bV.aD bq ai I;injection t with _ _ t;omega
 have HO:=af I;have Q:=af aR;have a1:=x9;go_enter func123,ntmps123
 go_wp2_with fail
 refine ad.o.mono ?_;rintro e w1 ⟨⟨k,rfl,aM⟩,Y⟩;have P:=af (az HO.o Y);have O:Hid (aB (fun k=>k=g) w w1):=(aB.refl _ w).below Y;rcases aM with⟨rfl,aT⟩|⟨i,rfl,hi,X,-⟩
 .have aG:(l.filter fun q=>decide (q≠p))=l:=kV.2 fun q aU=>by simp only[bO];rintro rfl;exact aT aU
  go_wp2_with fail
  go_ret;have hF:=C.o.trans aG;rw[hF];exact⟨_,rfl,rfl,P.o,O.o⟩
 .have N:=af (C.o.trans (AR Q.o X));have am:=af X;have a7:((i:Int)==-1)=false:=by simp only[Fw];omega
  have a5:=List.length_eraseIdx_of_lt hi
  go_wp2_with fail
  go_loopw [5,6] (fun L aX wr=>∃m:Nat,L=.int .i64 m/\aX=.int .i64 ((m+1:Nat):Int)/\i<=m/\m+1<=l.length/\Hid (wr.ownsRow base 29 3 (aC g l.length c) l.length (((l.eraseIdx i).take m++l.drop m).flatMap bX))/\Hid (aB (fun k=>k=g) w wr)) (fun L _ _=>l.length-(intOf L).toNat)
  case atStart=>exact⟨i,rfl,by go_num,aA _,aa,by rw[yG,List.take_left' (by rw[dO];omega),jd];exact P.o,O.o⟩
  case round=>
   obtain⟨m,rfl,rfl,aL,a6,d,D⟩:=hrel;by_cases Z:m+1<l.length
   .have U:((l.eraseIdx i).take m++l.drop m).length=l.length:=aH;have y:((l.eraseIdx i).take m++l.drop m)[m+1]? =some l[m+1]:=by
     have G:((l.eraseIdx i).take m).length=m:=by rw[dO];omega
     rw[nV aa,G,FC,show m+(m+1-m)=m+1 by omega,cK Z]
    have aW:=D7 aL Z;have aS:¬l[m+1]=p:=fun e=>by
     have u:=am.o;rw[cK hi]at u;injection u with u;have:=(List.getElem_inj Q.o).1 (u.trans e.symm);omega
    generalize(l.eraseIdx i).take m++l.drop m=R at*;generalize l[m+1]=q at*;have V:m+1<R.length:=aa;have⟨f0,f1,f2⟩:=yc V;rw[cK V]at y;injection y with y;rw[y]at f0 f1 f2;have ab:=d.o.cellAt ((m+1)*3) aa;have x1:=d.o.cellAt ((m+1)*3+1) aa;have x2:=d.o.cellAt ((m+1)*3+2) aa;rw[f0]at ab;rw[f1]at x1;rw[f2]at x2;have av:=af aW;have ac:=af (fun W v=>ah.o q W v);have aF:m<R.length:=aa;have⟨r,s,h⟩:=q;simp only at ab x1 x2;have hd:decide ((r,s,h)=p)=false:=by simp[aS]
    have al:=af ((aJ wr.heap.size wr).alloc (aA _) (.cells #[ae r,ae s,ak h] 29));have n0:(wr.alloc (.cells #[ae r,ae s,ak h] 29)).cell? (ag wr.heap.size 0)=some (ae r):=by rw[eX _ _ _ _ rfl];rfl
    have aY:(wr.alloc (.cells #[ae r,ae s,ak h] 29)).cell? (ag wr.heap.size 1)=some (ae s):=by rw[eX _ _ _ _ rfl];rfl
    have aZ:(wr.alloc (.cells #[ae r,ae s,ak h] 29)).cell? (ag wr.heap.size 2)=some (ak h):=by rw[eX _ _ _ _ rfl];rfl
    have aq:=af n0;have ar:=af aY;have au:=af aZ
    go_wp2_with fail
    refine(ac.o _ (D.o.grown (rP wr _ none) ax)).mono ?_;rintro e w2 ⟨rfl,aI⟩;rw[hd];have x:=aI.below (aA _);have a8:=(x.cell (p:=(ag wr.heap.size 0)) ax).trans aq.o;have y1:=(x.cell (p:=(ag wr.heap.size 1)) ax).trans ar.o;have y2:=(x.cell (p:=(ag wr.heap.size 2)) ax).trans au.o;have M:Hid (Below wr.heap.size wr w2):=al.o.trans (x.mono ax);have f:=af (az d.o M.o);have z:=f.o.cellAt (m*3) aa;have A:=f.o.cellAt (m*3+1) aa;have B:=f.o.cellAt (m*3+2) aa;have a9:=f.o.frozenAt (m*3);have ba:=f.o.frozenAt (m*3+1);have bb:=f.o.frozenAt (m*3+2);have⟨f0,f1,f2⟩:=yc aF;rw[f0]at z;rw[f1]at A;rw[f2]at B;have ao:Hid (aB (fun k=>k=g) w w2):=D.o.grown (bT M.o) ax;have E:=af (uj (j:=m) f.o (r,s,h));have aP:(m:Int)<(l.length:Int):=aa;go_wp2;go_roundw
    case rel=>exact⟨m+1,by go_num,by go_num,aa,aa,by rw[<-av.o];exact E.o,((ao.o.set _ (.inl rfl)).set _ (.inl rfl)).set _ (.inl rfl)⟩
    case measure=>exact bZ
   .have a2:¬((m+1:Nat):Int)<(l.length:Int):=aa;have aP:(0:Int)<=(m:Int)/\(m:Int)<=(l.length:Int):=aa;have aO:l.length-m=1:=aa;have U:m<((l.eraseIdx i).take m++l.drop m).length:=aH;have⟨f0,f1,f2⟩:=yc U;have z:=d.o.cellAt (m*3) aa;have A:=d.o.cellAt (m*3+1) aa;have B:=d.o.cellAt (m*3+2) aa;rw[f0]at z;rw[f1]at A;rw[f2]at B;have aw:=Gj wr g m (c-m) (fun j a3=>by
     obtain rfl|rfl|rfl:j=0\/j=1\/j=2:=aa
     .simp[z]
     .simp[A]
     .simp[B]) (fun j _=>d.o.frozenAt (m*3+j))
    have a0:(Builtin.clear_ #[22] 0 #[.slice (some (ag g (m*3))) (l.length-m) (c-m)]).run prog wr=.ok (.tuple #[]) (((wr.setCell (ag g (m*3)) (.int .i64 0)).setCell (ag g (m*3+1)) (.int .i64 0)).setCell (ag g (m*3+2)) (.int .u32 0)):=by rw[aO];exact aw
    have E:=af (Np (n':=m) (uj (j:=m) d.o (0,0,0)) aa);have an:Hid (((((l.eraseIdx i).take m++l.drop m).set m (0,0,0)).take m)=F):=by
     have G:((l.eraseIdx i).take m).length=m:=by rw[dO];omega
     show _=_;rw[N.o,su _ _ aa,List.take_left' G,jc aa]
    have ap:Hid (m=(l.eraseIdx i).length):=by show _=_;omega
    go_wp2_with fail
    go_ret;exact⟨m,rfl,by rw[N.o];exact ap.o,by rw[<-an.o];exact E.o,((D.o.set _ (.inl rfl)).set _ (.inl rfl)).set _ (.inl rfl)⟩
theorem PU {l:List Pt} (h:(ids l).Nodup) (f:Pt->Bool):(ids (l.filter f)).Nodup:=(List.filter_sublist.map _).nodup h
theorem wN {l:List Pt} (h:(ids l).Nodup):l.Nodup:=(dF.1 h).imp fun h e=>h (congrArg (fun p:Pt=>p.2.2) e)
end
section
open Go.RowKit Go.Maps
def nn (c:fB):jv:=(c.2,c.2)
def dx (al:List Bool) (c:fB):Bool:=al[c.2.toNat]? ==some true
def uk (al:List Bool) (l:List fB):List Pt:=(l.filter (dx al)).map (·.1)
def iJ (fA:List Int) (l:List fB) (i:Int):List Int:=l.foldl (fun v c=>v.set c.2.toNat i) fA
theorem nO:∀(l:List fB) (fA:List Int) (i:Int),(iJ fA l i).length=fA.length
 |[],_,_=>rfl
 |c::l,fA,i=>by
  show(iJ (fA.set c.2.toNat i) l i).length=_;rw[nO l];simp
theorem Il (fA:List Int) (l:List fB) (c:fB) (i:Int):iJ fA (l++[c]) i=(iJ fA l i).set c.2.toNat i:=by simp[iJ]
theorem rA:∀(l:List fB) (fA:List Int) (i:Int) (k:Nat),(∀c∈l,c.2.toNat≠k)->(iJ fA l i)[k]? =fA[k]?
 |[],_,_,_,_=>rfl
 |c::l,fA,i,k,h=>by
  show(iJ (fA.set c.2.toNat i) l i)[k]? =_;rw[rA l _ i k (fun d hd=>h d (lM _ hd)),oC (h c ny)]
theorem zI:∀(l:List fB) (fA:List Int) (i:Int) (c:fB),c∈l->c.2.toNat<fA.length->(iJ fA l i)[c.2.toNat]? =some i
 |d::l,fA,i,c,h,g=>by
  show(iJ (fA.set d.2.toNat i) l i)[c.2.toNat]? =_;by_cases f:∃e∈l,e.2.toNat=c.2.toNat
  .obtain⟨e,b,a⟩:=f;rw[<-a];exact zI l _ i e b (by rw[nu,a];exact g)
  .have j:∀e∈l,e.2.toNat≠c.2.toNat:=fun e b a=>f ⟨e,b,a⟩;rcases gW.1 h with rfl|h
   .rw[rA l _ i _ j,ve g]
   .exact absurd rfl (j c h)
structure oP (CB:List (List fB)) (al:List Bool) (A:List fB) (N:Int):Prop where
 nm:∃NB,xY (CB.map (·.map nn)) NB al (al.map fun _=>0) A.length N
 live:A.Perm (CB.flatten.filter (dx al))
 keys:(ids (A.map (·.1))).Nodup
 good:∀c∈CB.flatten,GU c.1
structure Vx (CB:List (List fB)) (al:List Bool) (fA:List Int):Prop where
 Km:fA.length=al.length
 lvl:∀(i:Nat) (h:i<CB.length),∀c∈CB[i],fA[c.2.toNat]? =some (i:Int)
theorem yf (CB:List (List fB)):(CB.map (·.map nn)).flatten=CB.flatten.map nn:=by rw[List.map_flatten]
theorem PV (al:List Bool) (l:List fB):(l.map nn).filter (dL al)=(l.filter (dx al)).map nn:=by
 rw[yY];rfl
theorem Nq {α a:Type} (f:α->a) (CB:List (List α)) (i:Nat):fw (CB.map (·.map f)) i=(fw CB i).map f:=by
 simp[fw,List.map_flatten,FJ,List.map_take]
theorem Nr {α a:Type} (f:α->a) (CB:List (List α)) (i:Nat) (x:α):(kT CB i x).map (·.map f)=kT (CB.map (·.map f)) i (f x):=by
 simp[kT,Nq,y7]
theorem CX {α a:Type} (f:α->a):∀(k:Nat) (r:List α),(setC k r).map (·.map f)=setC k (r.map f)
 |0,_=>rfl
 |k+1,r=>by
  unfold setC;rw[bK];split
  .rw[bJ,CX f k,y7];simp[List.map_take]
  .rw[bJ,CX f k];rfl
section
variable {CB:List (List fB)} {al:List Bool} {fA:List Int} {A:List fB} {N:Int}
theorem oP.num (h:oP CB al A N) {c:fB} (a:c∈CB.flatten):∃k:Nat,c.2=k/\k<al.length:=by
 have⟨NB,b⟩:=h.nm;exact b.uX (nn c) (by rw[yf];exact sF a)
theorem oP.UJ (h:oP CB al A N):(CB.flatten.map (·.2)).Nodup:=by
 have⟨NB,a⟩:=h.nm;have:=a.xZ;rw[yf,wu]at this;exact this
theorem oP.one (h:oP CB al A N) {c d:fB} (a:c∈CB.flatten) (hd:d∈CB.flatten) (e:c.2.toNat=d.2.toNat):c=d:=by
 obtain⟨k,f,-⟩:=h.num a;obtain⟨m,g,-⟩:=h.num hd;have b:CB.flatten.Pairwise fun p q=>p.2≠q.2:=dF.1 h.UJ;rcases eZ b a hd with h1|h1|h1
 .exact h1
 .exact absurd aa h1
 .exact absurd aa h1
theorem oP.stored (h:oP CB al A N):N=(CB.flatten.length:Nat):=by
 have⟨NB,a⟩:=h.nm;have:=a.stored;rw[yf,bK]at this;exact this
theorem oP.levels (h:oP CB al A N):CB.length<=13/\CB.flatten.length<=5000/\al.length<=5000/\(CB.length≠0->2^(CB.length-1)<=CB.flatten.length):=by
 have⟨NB,b⟩:=h.nm;have a:=b.levels;have c:=b.small;rw[bK]at a;rw[yf,bK]at a c;exact⟨a.1,c,b.bound,a.2⟩
theorem oP.size (h:oP CB al A N) (i:Nat) (hi:i<CB.length):CB[i].length=0\/CB[i].length=2^i:=by
 have⟨NB,a⟩:=h.nm;have:=a.size i (aQ hi);simpa using this
theorem oP.inl (h:oP CB al A N) {i:Nat} (hi:i<CB.length) {c:fB} (a:c∈CB[i]):c∈CB.flatten:=qz.2 ⟨_,bC hi,a⟩
theorem oP.few (h:oP CB al A N) (i:Nat) (hi:i<CB.length):CB[i].length<=5000:=
 bA (Fa (bC hi)).length_le h.levels.2.1
theorem oP.bk (h:oP CB al A N) (i:Nat) (hi:i<CB.length):Jw (uk al CB[i])/\(ids (uk al CB[i])).Nodup/\∀c∈CB[i],∃k:Nat,c.2=k/\k<al.length:=by
 refine⟨fun p hp=>?_,?_,fun c a=>h.num (h.inl hi a)⟩
 .obtain⟨c,a,rfl⟩:=dD.1 hp;exact(h.good c (h.inl hi (bI.1 a).1)).2.2
 .have b:((CB.flatten.filter (dx al)).map (·.1)).Perm (A.map (·.1)):=(h.live.map _).symm;have d:(ids ((CB.flatten.filter (dx al)).map (·.1))).Nodup:=((b.map _).nodup_iff).2 h.keys;exact((((Fa (bC hi)).filter _).map _).map _).nodup d
theorem oP.apart (h:oP CB al A N) {i j:Nat} (hi:i<CB.length) (b:j<CB.length) (k:i≠j) {c d:fB} (a:c∈CB[i]) (hd:d∈CB[j]):c.2.toNat≠d.2.toNat:=fun e=>by
 have g:=h.one (h.inl hi a) (h.inl b hd) e;subst g;have f:=gH.1 (List.pairwise_flatten.1 (dF.1 h.UJ)).2;rcases Nat.lt_or_gt_of_ne k with h4|h4
 .exact f i j hi b h4 c a c hd rfl
 .exact f j i b hi h4 c hd c a rfl
theorem oP.Kn (h:oP CB al A N):A.length<=CB.flatten.length/\(A.length:Int)=(al.count true:Nat):=by
 have⟨NB,a⟩:=h.nm;exact⟨by rw[h.live.length_eq];exact fq _ _,a.cnt⟩
theorem UK:oP [] [] [] 0:=⟨⟨[],UI.toxY⟩,qE _,qD,ax⟩
theorem UL:Vx [] [] []:=⟨rfl,fun i h=>absurd h (kz _)⟩
theorem Ns {al:List Bool} {c:fB} {b:Bool} {k:Nat} (a:c.2=k) (d:k<al.length):dx (al++[b]) c=dx al c:=by
 unfold dx;rw[a,iD,mr d]
theorem LX (h:oP CB al A N) (b:Bool) {l:List fB} (f:∀c∈l,c∈CB.flatten):l.filter (dx (al++[b]))=l.filter (dx al):=l9 fun c a=>by
 have⟨k,d,e⟩:=h.num (f c a);exact Ns d e
theorem oP.add (h:oP CB al A N) (s:N<=2*A.length) (x:Pt) (z:GU x) (w:x.2.2∉ids (A.map (·.1))) (f:al.length<5000) (i:Nat) (hi:i<=CB.length) (v:∀j (d:j<CB.length),j<i->CB[j]≠[]) (m:∀h:i<CB.length,CB[i]=[]):
  oP (kT CB i (x,(al.length:Int))) (al++[true]) (A++[(x,(al.length:Int))]) (N+1):=by
 have⟨NB,u⟩:=h.nm;have hP:=uN CB i (x,(al.length:Int)) m;have t:∀c∈(kT CB i (x,(al.length:Int))).flatten,c=(x,(al.length:Int))\/c∈CB.flatten:=fun c hc=>gW.1 (hP.mem_iff.1 hc);refine⟨?_,?_,?_,?_⟩
 .have y:=PQ (NB:=NB) (pl:=al.map fun _=>0) ⟨u,s⟩ (al.length:Int) 0 (fun e l=>?_) f i (aQ hi) (fun j d r=>?_) (fun d=>?_) ((fw (CB.map (·.map nn)) i++[((al.length:Int),(al.length:Int))]).mergeSort fun p q=>decide (p.1<=q.1)) (pg _ _) ?_
  .have e:((A++[(x,(al.length:Int))]).length:Int)=A.length+1:=ax;rw[Nr,bJ,e];exact⟨_,y.toxY⟩
  .rw[yf]at l;obtain⟨c,hc,rfl⟩:=dD.1 l;have⟨k,C,D⟩:=h.num hc;show c.2≠_;omega
  .rw[gq];intro n;exact v j (aQ d) r (List.map_eq_nil_iff.1 n)
  .rw[gq,m (aQ d)];rfl
  .have:=sH (le:=fun p q:jv=>decide (p.1<=q.1)) (fun a b c g B=>by simp at*;omega) (fun a b=>aH) (fw (CB.map (·.map nn)) i++[((al.length:Int),(al.length:Int))]);exact this.imp fun h=>aQ h
 .refine List.Perm.trans ?_ ((hP.filter _).symm);have ht:dx (al++[true]) (x,(al.length:Int))=true:=by simp[dx]
  rw[lT,aO ht,LX h true fun c hc=>hc];exact List.perm_append_comm.trans (h.live.cons _)
 .have g:=h.keys;unfold ids at*;rw[bJ,bJ];refine oG.2 ⟨g,ax,fun a o b f=>?_⟩;obtain rfl:b=x.2.2:=aQ f;exact fun e=>w (e▸o)
 .intro c hc;rcases t c hc with rfl|hc
  .exact z
  .exact h.good c hc
theorem Vx.add (b:Vx CB al fA) (h:oP CB al A N) (x:Pt) (i:Nat) (hi:i<=CB.length):Vx (kT CB i (x,(al.length:Int))) (al++[true]) (iJ (fA++[(i:Int)]) (fw CB i++[(x,(al.length:Int))]) i):=by
 refine⟨by rw[nO];simp[b.Km],?_⟩;intro j t c a;have y:(fA++[(i:Int)]).length=al.length+1:=by simp[b.Km]
 have r:∀d∈fw CB i,d∈CB.flatten:=fun d hd=>by
  have:=(jW CB i).mem_iff.1 hd;have⟨l,p,f⟩:=qz.1 this;exact qz.2 ⟨l,List.mem_of_mem_take p,f⟩
 rw[qc]at a;by_cases q:j<i
 .rw[aO q]at a;cases a
 .rw[aN q]at a;by_cases o:j=i
  .rw[aO o]at a;subst o;refine zI _ _ _ c a ?_;rw[y];rcases bW.1 a with h3|h3
   .obtain⟨k,v,w⟩:=h.num (r c h3);omega
   .obtain rfl:c=(x,(al.length:Int)):=aQ h3;simp
  .rw[aN o,jA]at a;have g:j<CB.length:=by rw[qb _ _ _ hi]at t;split at t<;>omega
   rw[cK g,ic]at a;have s:=h.inl g a;have⟨k,v,w⟩:=h.num s;rw[rA _ _ _ _ fun d hd e=>?_,mr (by rw[b.Km];omega)]
   .exact b.lvl j g c a
   .rcases bW.1 hd with h3|h3
    .have u:=h.one (r d h3) s e;subst u;have⟨l,p,f⟩:=qz.1 ((jW CB i).mem_iff.1 h3);obtain⟨m,z,rfl⟩:=iN p;rw[dO]at z;rw[qx]at f;have n:=b.lvl m aa d f;rw[b.lvl j g d a]at n;injection n with n;omega
    .obtain rfl:d=(x,(al.length:Int)):=aQ h3;simp only[iD]at e;omega
theorem oP.dead (h:oP CB al A N) (b:N<=2*A.length) {c:fB} (f:c∈A):oP CB (al.set c.2.toNat false) (A.filter fun d=>decide (d.1≠c.1)) N/\(∀l,(∀d∈l,d∈CB.flatten)->uk (al.set c.2.toNat false) l=(uk al l).filter fun q=>decide (q≠c.1))/\(A.filter fun d=>decide (d.1≠c.1)).length+1=A.length:=by
 have⟨NB,E⟩:=h.nm;have g:=bI.1 (h.live.mem_iff.1 f);have⟨k,a,B⟩:=h.num g.1;have x:al[k]? =some true:=by
  have:=g.2;unfold dx at this;rw[a,iD]at this;simpa using this
 rw[a,iD];have r:(A.map (·.1)).Nodup:=wN h.keys;have z:∀d∈CB.flatten,(dx (al.set k false) d=(dx al d&&decide (d.1≠c.1))):=fun d hd=>by
  have⟨m,b,H⟩:=h.num hd;by_cases e:d=c
  .subst e;have:m=k:=aa;subst this;unfold dx;rw[a,iD,ve B];simp
  .have D:k≠m:=fun s=>e (h.one hd g.1 (by rw[b,a,s]));have t:dx (al.set k false) d=dx al d:=by
    unfold dx;rw[b,iD,oC D]
   rw[t];cases w:dx al d with
   |false=>rfl
   |true=>
    have y:=h.live.mem_iff.2 (bI.2 ⟨hd,w⟩);have F:d.1≠c.1:=fun n=>by
     have u:A.Pairwise fun p q=>p.1≠q.1:=dF.1 r;rcases eZ u y f with h1|h1|h1
     .exact e h1
     .exact h1 n
     .exact h1 n.symm
    simp[F]
 have o:∀l:List fB,(∀d∈l,d∈CB.flatten)->l.filter (dx (al.set k false))=(l.filter (dx al)).filter fun d=>decide (d.1≠c.1):=fun l j=>by
  rw[sK];refine l9 fun d hd=>?_;rw[z d (j d hd)];exact Bool.and_comm _ _
 have C:(A.filter fun d=>decide (d.1≠c.1)).length+1=A.length:=by
  have:=List.length_eq_countP_add_countP (fun d:fB=>decide (d.1≠c.1)) (l:=A);rw[<-JA,this];congr 1;have v:A.countP (fun d=>decide ¬decide (d.1≠c.1)=true)=(A.map (·.1)).count c.1:=by
   rw[List.count,FN];refine BK fun d _=>?_;simp[Function.comp]
  rw[v,r.count,aO (sF f)]
 refine⟨⟨⟨NB,?_⟩,?_,?_,h.good⟩,fun l j=>?_,C⟩
 .have:=LU (NB:=NB) ⟨E,b⟩ k x;rw[show((A.filter fun d=>decide (d.1≠c.1)).length:Int)=A.length-1 by omega];have e:(al.set k false).map (fun _=>(0:Int))=al.map fun _=>0:=by
   rw[jg];refine sO ax fun i h1 G=>?_;rw[List.getElem_set];split<;>simp
  rw[e];exact this
 .rw[o _ fun d hd=>hd];exact h.live.filter _
 .unfold ids at*;exact((List.filter_sublist.map _).map _).nodup h.keys
 .unfold uk;rw[o l j,yY];rfl
theorem oP.anew (h:oP CB al A N) {L:List fB} (n:L=(CB.reverse.flatten).filter (dx al)):
  oP (setC (Lib.bitLen L.length) L) al A L.length/\L.length=A.length:=by
 have⟨NB,t⟩:=h.nm;have hp:L.Perm A:=by
  rw[n];exact(((vP CB).flatten).filter _).trans h.live.symm
 have u:L.length<=5000:=by
  have g:=h.Kn.1;have j:=h.levels.2.1;have:=hp.length_eq;omega
 have s:L.length<2^Lib.bitLen L.length:=by
  by_cases f:L.length=0
  .rw[f];decide
  .exact(bD _ aa f).2.2
 have hP:=lu _ L s;have e:((CB.map (·.map nn)).reverse.flatten).filter (dL al)=L.map nn:=by
  rw[n,<-PV,List.map_flatten,FJ]
 have o:∀c∈L,c∈CB.flatten/\dx al c=true:=fun c d=>bI.1 (h.live.mem_iff.1 (hp.mem_iff.1 d));refine⟨⟨?_,?_,h.keys,fun c d=>h.good c (o c (hP.mem_iff.1 d)).1⟩,hp.length_eq⟩
 .have:=LV (NB':=(setC (Lib.bitLen L.length) (L.map nn)).map fun l=>l.mergeSort fun p q=>decide (p.1<=q.1)) t (by rw[e,bK];exact⟨ax,fun i g j=>by rw[gq];exact pg _ _⟩) (fun l r=>by
   obtain⟨m,-,rfl⟩:=dD.1 r;have:=sH (le:=fun p q:jv=>decide (p.1<=q.1)) (fun a b c g j=>by simp at*;omega) (fun a b=>aH) m;exact this.imp fun h=>aQ h)
  have k:=this.1.toxY;rw[e,bK]at k;rw[CX];exact⟨_,k⟩
 .refine hp.symm.trans (hP.symm.trans ?_);rw[kV.2 fun c d=>(o c (hP.mem_iff.1 d)).2]
end
end
end Go.Proofs.YtkjdbndekceffaaGreat
namespace Go.Proofs
open Go.Shelf
def Tryz.Ko:Go.Shelf.Ren:=⟨fun|45=>198|n=>n,fun|22=>35|23=>27|3=>3|4=>4|0=>0|n=>n,fun|n=>n⟩
theorem Tryz.Kq:Go.Proofs.SlLaysE.n45 Tryz.prog Tryz.Ko:={
 mixed:=aL
 f45:=gQ Tryz.func198
 t0:=vR
 a0:=wB
 z0:=vZ
 v0:=vU
 t3:=sN
 a3:=oM
 z3:=oJ
 v3:=sP
 t4:=qy
 a4:=tq
 z4:=sW
 v4:=sQ
 t22:=Tryz.underlying35
 a22:=Tryz.isAgg35
 z22:=Tryz.sizeOf35
 v22:=Tryz.zeroValue35
 a23:=y8
 z23:=yZ}
def Tryz.Kr:Go.Shelf.Ren:=⟨fun|45=>197|n=>n,fun|22=>143|23=>2|3=>3|4=>4|0=>0|n=>n,fun|n=>n⟩
theorem Tryz.Kt:Go.Proofs.SlLaysE.n45 Tryz.prog Tryz.Kr:={
 mixed:=aL
 f45:=gQ Tryz.func197
 t0:=vR
 a0:=wB
 z0:=vZ
 v0:=vU
 t3:=sN
 a3:=oM
 z3:=oJ
 v3:=sP
 t4:=qy
 a4:=tq
 z4:=sW
 v4:=sQ
 t22:=Tryz.underlying143
 a22:=Tryz.isAgg143
 z22:=Tryz.sizeOf143
 v22:=Tryz.zeroValue143
 a23:=Tryz.isAgg2
 z23:=Tryz.sizeOf2}
def Tryz.Ku:Go.Shelf.Ren:=⟨fun|45=>199|n=>n,fun|22=>148|23=>3|3=>3|4=>4|0=>0|n=>n,fun|n=>n⟩
theorem Tryz.Gl:Go.Proofs.SlLaysE.n45 Tryz.prog Tryz.Ku:={
 mixed:=aL
 f45:=gQ Tryz.func199
 t0:=vR
 a0:=wB
 z0:=vZ
 v0:=vU
 t3:=sN
 a3:=oM
 z3:=oJ
 v3:=sP
 t4:=qy
 a4:=tq
 z4:=sW
 v4:=sQ
 t22:=Tryz.underlying148
 a22:=Tryz.isAgg148
 z22:=Tryz.sizeOf148
 v22:=Tryz.zeroValue148
 a23:=oM
 z23:=oJ}
end Go.Proofs
