/- Made small by a program. -/
import Derived.Test.YtkjdbndekceffaaGreatV01
set_option linter.unusedSimpArgs false
set_option linter.unusedVariables false
set_option maxRecDepth 100000
set_option maxHeartbeats 16000000
namespace Go.Proofs.YtkjdbndekceffaaGreat
open Tryz
section
open Go.RowKit Go.Sort
theorem eO (x y:Int) (w:World):Calls prog 224 #[.int .u32 x,.int .u32 y] w fun e w'=>e=.returned (.bool (ltInt x y))/\w'=w:=by
 by_cases h:x<y
 .rw[show ltInt x y=true by simp[ltInt,h]];go_enter func224,ntmps224;go_wp2;go_ret;exact⟨xk (by first|rfl|(simp;done)|(simp[h];done)),rfl⟩
 .rw[show ltInt x y=false by simp[ltInt,h]];go_enter func224,ntmps224;go_wp2;go_ret;exact⟨xk (by first|rfl|(simp;done)|(simp[h];done)),rfl⟩
abbrev xg:Int->Value:=Value.int .u32
theorem VC (blk off I a b:Nat) (d:Array Int) (w:World) (D:Holds (Value.int .u32) w blk off d) (O:a<=b) (R:b<=d.size) (Z:d.size<4611686018427387904):
  Calls prog 218 #[.slice (some ⟨blk,off,none⟩) d.size I,.int .i64 a,.int .i64 b] w fun e w'=>
   e=.returned (.tuple #[])/\∃n,w'=putRow (Value.int .u32) (Sort.ahead w n) blk off (Sort.insertionSort ltInt d a b):=by
 have r:=af D;have A:=af eO;clear D;go_enter func218,ntmps218;go_wp2
 go_loopw [6] (fun y wr=>∃(i n:Nat) (dk:Array Int),y=.int .i64 i/\a<i/\i<=b+1/\Hid (dk.size=d.size)/\Hid (wr=putRow (Value.int .u32) (Sort.ahead w n) blk off dk)/\
   Hid (insOuter ltInt a b i dk=insOuter ltInt a b (a+1) d)) (fun y _=>b+1-(intOf y).toNat)
 case atStart=>exact⟨a+1,0,d,by go_num,aa,aa,rfl,(qI _ _ _ _ _ r.o).symm,rfl⟩
 case round=>
  obtain⟨i,n,dk,rfl,P,S,L,F,HO⟩:=hrel;by_cases x:i<b
  .obtain⟨H,J⟩:∃H:World,H=wr:=⟨_,rfl⟩;subst J;go_wp2
   go_loopw [7] (fun z M=>∃(j m:Nat) (c:Array Int),z=.int .i64 j/\a<=j/\j<=i/\Hid (c.size=d.size)/\Hid (M=putRow (Value.int .u32) (Sort.ahead w m) blk off c)/\
     Hid (insInner ltInt a j c=insInner ltInt a i dk)) (fun z _=>(intOf z).toNat)
   case atStart=>exact⟨i,n,dk,rfl,aa,aA _,L,F,rfl⟩
   case round=>
    obtain⟨j,m,c,rfl,Q,Y,g,k,s⟩:=hrel;obtain⟨G,B⟩:∃G:Nat->Int,∀t,G t=c[t]! :=⟨fun t=>c[t]!,fun _=>rfl⟩;have f:=af B;clear B;have E:j<d.size:=aa;have l:∀t,t<d.size->wr.cell? ⟨blk,off+t,none⟩=some (.int .u32 (G t)):=fun t ht=>by
     rw[k.o,f.o];exact wh _ _ _ _ d c (jR _ _ _ _ _ _ r.o) g.o t (by rw[g.o];exact ht)
    have p:∀t,t<d.size->wr.frozen? ⟨blk,off+t,none⟩=false:=fun t ht=>by
     rw[k.o,sV];exact((jR _ _ m _ _ _ r.o) t ht).2
    have T:(0:Int)<=(j:Int):=aa;have U:(j:Int)<(d.size:Int):=aa;have ab:=l j E;have f0:=p j E;by_cases K:a<j
    .have x1:=l (j-1) aa;have f1:=p (j-1) aa;have N:((j:Int)-1).toNat=j-1:=aa;have V:(0:Int)<=(j:Int)-1:=aa;have W:(j:Int)-1<(d.size:Int):=aa;have X:(1:Int)<=(j:Int):=aa;clear l p;cases h:ltInt (G j) (G (j-1))with
     |true=>
      have u:=af h;have C:=A.o (G j) (G (j-1));rw[h]at C;have q:=af C;clear h C;go_wp2;have v:IntKind.i64.wrap ((j:Int)-1)=(j:Int)-1:=BZ _ aa
      go_quiet ((go_at_call 224;exact gV (q.o _)))
      clear v;go_wp2;go_region
      all_goals go_wp2
      all_goals go_roundw
      case rel=>exact⟨j-1,m+(nq+1),swp c j (j-1),by go_num,aa,aa,by show _=_;rw[iq];exact g.o,by
       show _=_;rw[k.o,f.o,f.o];exact swap_worldA _ w m (nq+1) blk off c j (j-1) (by rw[g.o];omega) (by rw[g.o];omega),by
       show _=_;rw[<-s.o,insInner_go ltInt a j c K (by rw[<-f.o,<-f.o];exact u.o)]⟩
      case measure=>exact bZ
     |false=>
      have u:=af h;have C:=A.o (G j) (G (j-1));rw[h]at C;have q:=af C;clear h C;go_wp2;have v:IntKind.i64.wrap ((j:Int)-1)=(j:Int)-1:=BZ _ aa
      go_quiet ((go_at_call 224;exact gV (q.o _)))
      clear v;go_wp2;go_roundw
      case rel=>exact⟨i+1,m+nq,c,by go_num,aa,aa,g,by show _=_;rw[k.o];exact kX _ _ _ _ _ _ _,by show _=_;rw[<-HO.o,insOuter_go _ _ _ _ _ x,<-s.o,insInner_stop _ _ _ _ (Or.inr (by rw[<-f.o,<-f.o];exact u.o))]⟩
      case measure=>exact bZ
    .have hd:decide ((a:Int)<(j:Int))=false:=aH;clear l p;go_wp2
     go_quiet (fail)
     go_wp2;go_roundw
     case rel=>exact⟨i+1,m+nq,c,by go_num,aa,aa,g,by show _=_;rw[k.o];exact kX _ _ _ _ _ _ _,by show _=_;rw[<-HO.o,insOuter_go _ _ _ _ _ x,<-s.o,insInner_stop _ _ _ _ (Or.inl aa)]⟩
     case measure=>exact bZ
  .go_wp2
   go_end0
   exact⟨rfl,n,by rw[F.o];unfold Sort.insertionSort;rw[<-HO.o,insOuter_stop _ _ _ _ _ x]⟩
theorem OX (blk off ae a b l:Nat) (d:Array Int) (w:World) (C:Holds (Value.int .u32) w blk off d) (an:a<=l) (au:l<b) (ao:b<=d.size) (av:d.size<4611686018427387904):
  Calls prog 225 #[.slice (some ⟨blk,off,none⟩) d.size ae,.int .i64 a,.int .i64 b,.int .i64 l] w fun e w'=>
   e=.returned (.int .i64 (Sort.partitionEqual Sort.ltInt d a b l).1)/\∃n,w'=(putRow (Value.int .u32) w blk off (Sort.partitionEqual Sort.ltInt d a b l).2).drewN n:=by
 have R:a<d.size:=aa;have S:l<d.size:=aa;obtain⟨G,v⟩:∃G:Nat->Int,∀j,G j=d[j]! :=⟨fun j=>d[j]!,fun _=>rfl⟩;have ad:w.cell? ⟨blk,off+a,none⟩=some (.int .u32 (G a)):=by rw[v];exact(C a R).1
 have af:=(C a R).2;have W:w.cell? ⟨blk,off+l,none⟩=some (.int .u32 (G l)):=by rw[v];exact(C l S).1
 have ag:=(C l S).2;obtain⟨al,ak⟩:=qp (w:=w) (p:=⟨blk,off+a,none⟩) (x:=.int .u32 (G l)) (q:=⟨blk,off+l,none⟩) W;have m:Hid (∀j,G j=d[j]!):=v;have V:Hid (Holds (Value.int .u32) w blk off d):=C;clear v C;go_enter func225,ntmps225;go_wp2;go_region;go_wp2
 go_loopw [9,10] (fun B u wr=>∃(i j n:Nat) (dk:Array Int),B=.int .i64 i/\u=.int .i64 j/\a<i/\i<=j+1/\j<b/\dk.size=d.size/\wr=(putRow (Value.int .u32) w blk off dk).drewN n/\
   Sort.partEqLoop Sort.ltInt a i j dk=Sort.partEqLoop Sort.ltInt a (a+1) (b-1) (Sort.swp d a l))
  (fun B u _=>(intOf u).toNat+1-(intOf B).toNat)
 case atStart=>
  refine⟨a+1,b-1,1,Sort.swp d a l,by go_num,by go_num,aa,aa,aa,iq _ _ _,?_,rfl⟩;have e:=qJ (Value.int .u32) w blk off d 0 a l R S;rw[qI _ w blk off d V.o]at e;rw[m.o a,m.o l];exact e
 case round=>
  obtain⟨i,j,n,dk,rfl,rfl,am,ah,aq,ac,T,X⟩:=hrel;clear ad af W ag ak al m
  rename World=>W1
  have O:Holds (Value.int .u32) W1 blk off dk:=by
   rw[T];exact holds_putRow (Value.int .u32) w blk off d dk V.o ac
  obtain⟨g,v⟩:∃g:Nat->Int,∀t,g t=dk[t]! :=⟨fun t=>dk[t]!,fun _=>rfl⟩;have D:∀t,t<d.size->W1.cell? ⟨blk,off+t,none⟩=some (.int .u32 (g t)):=fun t ht=>by rw[v];exact(O t aa).1
  have Q:∀t,t<d.size->W1.frozen? ⟨blk,off+t,none⟩=false:=fun t ht=>(O t aa).2;have m:Hid (∀t,g t=dk[t]!):=v;have N:Hid (W1=(putRow (Value.int .u32) w blk off dk).drewN n):=T;have F:Hid (Sort.partEqLoop Sort.ltInt a i j dk=Sort.partEqLoop Sort.ltInt a (a+1) (b-1) (Sort.swp d a l)):=X;clear v T X O;go_wp2
  go_loopw [9] (fun B w1=>∃(c z:Nat),B=.int .i64 c/\i<=c/\c<=j+1/\w1=W1.drewN z/\
    Hid (Sort.scanUp (fun x=>!Sort.ltInt dk[a]! x) dk j c=Sort.scanUp (fun x=>!Sort.ltInt dk[a]! x) dk j i))
   (fun B _=>j+1-(intOf B).toNat)
  case atStart=>exact⟨i,0,rfl,aA _,ah,rfl,rfl⟩
  case round=>
   obtain⟨c,z,rfl,ap,Z,U,M⟩:=hrel;have A:∀t,t<d.size->wr.cell? ⟨blk,off+t,none⟩=some (.int .u32 (g t)):=fun t ht=>by rw[U];exact D t ht
   have H:Hid (wr=W1.drewN z):=U;clear U;by_cases ab:c<=j
   .go_wp2_with fail
    go_big_quiet (first|(go_at_call 224;refine gV (eO _ _ _)))
    go_wp2
    .
     have ht:(!Sort.ltInt (g a) (g c))=true:=by assumption
     go_roundw
     case rel=>exact⟨c+1,z+nq,by go_num,aa,aa,by rw[H.o,gI],(scanUp_go (fun x=>!Sort.ltInt dk[a]! x) dk j c ab (by rw[<-m.o a,<-m.o c];exact ht)).symm.trans M.o⟩
     case measure=>exact bZ
    .
     have ht:(!Sort.ltInt (g a) (g c))=false:=by assumption
     have K:Hid (c=Sort.scanUp (fun x=>!Sort.ltInt dk[a]! x) dk j i):=(scanUp_end (fun x=>!Sort.ltInt dk[a]! x) dk j c (Or.inr (by rw[<-m.o a,<-m.o c];exact ht))).symm.trans M.o;clear ht;have r:wr.drewN nq=W1.drewN (z+nq):=by rw[H.o,gI]
     clear A H M
     go_loopw [10] (fun u w2=>∃(f k:Nat),u=.int .i64 f/\f<=j/\c<=f+1/\w2=W1.drewN k/\
       Hid (Sort.scanDown (fun x=>Sort.ltInt dk[a]! x) dk c f=Sort.scanDown (fun x=>Sort.ltInt dk[a]! x) dk c j))
      (fun u _=>(intOf u).toNat)
     case atStart=>exact⟨j,z+nq,rfl,aA _,Z,r,rfl⟩
     case round=>
      clear r;obtain⟨f,k,rfl,aj,ai,r,y⟩:=hrel;have A:∀t,t<d.size->wr.cell? ⟨blk,off+t,none⟩=some (.int .u32 (g t)):=fun t ht=>by rw[r];exact D t ht
      have I:Hid (wr=W1.drewN k):=r;clear r;by_cases L:c<=f
      .go_wp2_with fail
       go_big_quiet (first|(go_at_call 224;refine gV (eO _ _ _)))
       go_wp2
       .
        have ht:Sort.ltInt (g a) (g f)=true:=by assumption
        go_roundw
        case rel=>exact⟨f-1,k+nq,by go_num,aa,aa,by rw[I.o,gI],(scanDown_go (fun x=>Sort.ltInt dk[a]! x) dk c f L aa (by rw[<-m.o a,<-m.o f];exact ht)).symm.trans y.o⟩
        case measure=>exact bZ
       .
        have ht:Sort.ltInt (g a) (g f)=false:=by assumption
        have E:Hid (f=Sort.scanDown (fun x=>Sort.ltInt dk[a]! x) dk c j):=(qF (fun x=>Sort.ltInt dk[a]! x) dk c f (Or.inr (by rw[<-m.o a,<-m.o f];exact ht))).symm.trans y.o;clear A y ht;have h:wr.drewN nq=W1.drewN (k+nq):=by rw[I.o,gI]
        generalize wr.drewN nq=s at h |-;have P:∀t,t<d.size->s.cell? ⟨blk,off+t,none⟩=some (.int .u32 (g t)):=fun t ht=>by rw[h];exact D t ht
        have Y:∀t,t<d.size->s.frozen? ⟨blk,off+t,none⟩=false:=fun t ht=>by rw[h];exact Q t ht
        have J:Hid (s=W1.drewN (k+nq)):=h;clear h;obtain⟨ax,aw⟩:=qp (w:=s) (p:=⟨blk,off+c,none⟩) (x:=.int .u32 (g f)) (q:=⟨blk,off+f,none⟩) (P f aa);have ar:=scans_lt Sort.ltInt a i j dk aa K.o E.o L;go_wp2;go_region
        all_goals go_wp2
        all_goals go_roundw
        case rel=>
         refine⟨c+1,f-1,n+(k+nq)+1,Sort.swp dk c f,by go_num,by go_num,aa,aa,aa,by rw[iq];exact ac,?_,?_⟩
         .rw[J.o,N.o,gI,m.o c,m.o f];exact qJ (Value.int .u32) w blk off dk _ c f aa aa
         .rw[<-F.o];exact(partEq_go Sort.ltInt a i j dk K.o E.o aa).symm
        case measure=>exact bZ
      .go_wp2_with fail
       go_big_quiet (first|(go_at_call 224;refine gV (eO _ _ _)))
       have E:Hid (f=Sort.scanDown (fun x=>Sort.ltInt dk[a]! x) dk c j):=(qF (fun x=>Sort.ltInt dk[a]! x) dk c f (Or.inl L)).symm.trans y.o;clear A y;have h:wr.drewN nq=W1.drewN (k+nq):=by rw[I.o,gI]
       generalize wr.drewN nq=s at h |-;have P:∀t,t<d.size->s.cell? ⟨blk,off+t,none⟩=some (.int .u32 (g t)):=fun t ht=>by rw[h];exact D t ht
       have Y:∀t,t<d.size->s.frozen? ⟨blk,off+t,none⟩=false:=fun t ht=>by rw[h];exact Q t ht
       have J:Hid (s=W1.drewN (k+nq)):=h;clear h;go_wp2;go_ret;have e:=partEq_break Sort.ltInt a i j dk K.o E.o aa;refine⟨?_,n+(k+nq),?_⟩
       .unfold Sort.partitionEqual;rw[<-F.o,e];rfl
       .unfold Sort.partitionEqual;rw[<-F.o,e,J.o,N.o,gI]
   .go_wp2_with fail
    go_big_quiet (first|(go_at_call 224;refine gV (eO _ _ _)))
    go_wp2;have K:Hid (c=Sort.scanUp (fun x=>!Sort.ltInt dk[a]! x) dk j i):=(scanUp_end (fun x=>!Sort.ltInt dk[a]! x) dk j c (Or.inl ab)).symm.trans M.o;have r:wr.drewN nq=W1.drewN (z+nq):=by rw[H.o,gI]
    clear A H M
    go_loopw [10] (fun u w2=>∃(f k:Nat),u=.int .i64 f/\f<=j/\c<=f+1/\w2=W1.drewN k/\
      Hid (Sort.scanDown (fun x=>Sort.ltInt dk[a]! x) dk c f=Sort.scanDown (fun x=>Sort.ltInt dk[a]! x) dk c j))
     (fun u _=>(intOf u).toNat)
    case atStart=>exact⟨j,z+nq,rfl,aA _,Z,r,rfl⟩
    case round=>
     clear r;obtain⟨f,k,rfl,aj,ai,r,y⟩:=hrel;have A:∀t,t<d.size->wr.cell? ⟨blk,off+t,none⟩=some (.int .u32 (g t)):=fun t ht=>by rw[r];exact D t ht
     have I:Hid (wr=W1.drewN k):=r;clear r;by_cases L:c<=f
     .exfalso;omega
     .go_wp2_with fail
      go_big_quiet (first|(go_at_call 224;refine gV (eO _ _ _)))
      have E:Hid (f=Sort.scanDown (fun x=>Sort.ltInt dk[a]! x) dk c j):=(qF (fun x=>Sort.ltInt dk[a]! x) dk c f (Or.inl L)).symm.trans y.o;clear A y;have h:wr.drewN nq=W1.drewN (k+nq):=by rw[I.o,gI]
      generalize wr.drewN nq=s at h |-;have P:∀t,t<d.size->s.cell? ⟨blk,off+t,none⟩=some (.int .u32 (g t)):=fun t ht=>by rw[h];exact D t ht
      have Y:∀t,t<d.size->s.frozen? ⟨blk,off+t,none⟩=false:=fun t ht=>by rw[h];exact Q t ht
      have J:Hid (s=W1.drewN (k+nq)):=h;clear h;go_wp2;go_ret;have e:=partEq_break Sort.ltInt a i j dk K.o E.o aa;refine⟨?_,n+(k+nq),?_⟩
      .unfold Sort.partitionEqual;rw[<-F.o,e];rfl
      .unfold Sort.partitionEqual;rw[<-F.o,e,J.o,N.o,gI]
theorem Ue (blk off aD a b s:Nat) (d:Array Int) (w:World) (Q:Holds (Value.int .u32) w blk off d) (aM:a<=s) (aO:s<b) (aN:b<=d.size) (aP:d.size<4611686018427387904):
  Calls prog 226 #[.slice (some ⟨blk,off,none⟩) d.size aD,.int .i64 a,.int .i64 b,.int .i64 s] w fun e w'=>
   e=.returned (.tuple #[.int .i64 (Sort.partition Sort.ltInt d a b s).1,.bool (Sort.partition Sort.ltInt d a b s).2.1])/\∃n,w'=(putRow (Value.int .u32) w blk off (Sort.partition Sort.ltInt d a b s).2.2).drewN n:=by
 have am:a<d.size:=aa;have ao:s<d.size:=aa;obtain⟨G,D⟩:∃G:Nat->Int,∀j,G j=d[j]! :=⟨fun j=>d[j]!,fun _=>rfl⟩;have aC:w.cell? ⟨blk,off+a,none⟩=some (.int .u32 (G a)):=by rw[D];exact(Q a am).1
 have aE:=(Q a am).2;have av:w.cell? ⟨blk,off+s,none⟩=some (.int .u32 (G s)):=by rw[D];exact(Q s ao).1
 have aF:=(Q s ao).2;obtain⟨aL,aK⟩:=qp (w:=w) (p:=⟨blk,off+a,none⟩) (x:=.int .u32 (G s)) (q:=⟨blk,off+s,none⟩) av;have I:((w.setCell ⟨blk,off+a,none⟩ (.int .u32 (G s))).setCell ⟨blk,off+s,none⟩ (.int .u32 (G a))).drew=(putRow (Value.int .u32) w blk off (Sort.swp d a s)).drewN 1:=by
  have e:=qJ (Value.int .u32) w blk off d 0 a s am ao;rw[qI _ w blk off d Q]at e;rw[D a,D s];exact e
 have ap:Hid (Holds (Value.int .u32) w blk off d):=Q;have au:=Hid.mk' I;clear D Q I;go_enter func226,ntmps226;go_wp2;go_region;go_wp2;clear aC aE av aF aK aL;have I:=au.o;clear au;generalize((w.setCell ⟨blk,off+a,none⟩ (.int .u32 (G s))).setCell ⟨blk,off+s,none⟩ (.int .u32 (G a))).drew=h at I |-;obtain⟨dk,ab⟩:∃dk,dk=Sort.swp d a s:=⟨_,rfl⟩;obtain⟨n,az⟩:∃n:Nat,n=1:=⟨_,rfl⟩;rw[<-ab,<-az]at I;clear az;have Y:dk.size=d.size:=by rw[ab,iq]
 have aw:((a:Int)+1)=((a+1:Nat):Int):=aa;have ax:((b:Int)-1)=((b-1:Nat):Int):=aa;rw[aw,ax];clear aw ax;obtain⟨i,hi⟩:∃i,i=a+1:=⟨_,rfl⟩;obtain⟨j,ak⟩:∃j,j=b-1:=⟨_,rfl⟩;rw[<-hi,<-ak];have aG:a<i:=aa;have ai:i<=j+1:=aa;have aI:j<b:=aa;have ae:=Hid.mk' hi;have af:=Hid.mk' ak;have ad:=Hid.mk' ab;clear hi ak ab;have S:Holds (Value.int .u32) h blk off dk:=by
  rw[I];exact holds_putRow (Value.int .u32) w blk off d dk ap.o Y
 obtain⟨g,D⟩:∃g:Nat->Int,∀t,g t=dk[t]! :=⟨fun t=>dk[t]!,fun _=>rfl⟩;have B:∀t,t<d.size->h.cell? ⟨blk,off+t,none⟩=some (.int .u32 (g t)):=fun t ht=>by rw[D];exact(S t aa).1
 have P:∀t,t<d.size->h.frozen? ⟨blk,off+t,none⟩=false:=fun t ht=>(S t aa).2;have m:Hid (∀t,g t=dk[t]!):=D;have O:Hid (h=(putRow (Value.int .u32) w blk off dk).drewN n):=I;clear D I S
 go_loopw [10] (fun N w1=>∃(f z:Nat),N=.int .i64 f/\i<=f/\f<=j+1/\w1=h.drewN z/\
   Hid (Sort.scanUp (fun x=>Sort.ltInt x dk[a]!) dk j f=Sort.scanUp (fun x=>Sort.ltInt x dk[a]!) dk j i))
  (fun N _=>j+1-(intOf N).toNat)
 case atStart=>exact⟨i,0,rfl,aA _,ai,rfl,rfl⟩
 case round=>
  obtain⟨f,z,rfl,aH,W,T,M⟩:=hrel;have A:∀t,t<d.size->wr.cell? ⟨blk,off+t,none⟩=some (.int .u32 (g t)):=fun t ht=>by rw[T];exact B t ht
  have J:Hid (wr=h.drewN z):=T;clear T;by_cases X:f<=j
  .go_wp2_with fail
   go_big_quiet (first|(go_at_call 224;refine gV (eO _ _ _)))
   go_wp2
   .
    have ht:Sort.ltInt (g f) (g a)=true:=by assumption
    go_roundw
    case rel=>exact⟨f+1,z+nq,by go_num,aa,aa,by rw[J.o,gI],(scanUp_go (fun x=>Sort.ltInt x dk[a]!) dk j f X (by rw[<-m.o a,<-m.o f];exact ht)).symm.trans M.o⟩
    case measure=>exact bZ
   .
    have ht:Sort.ltInt (g f) (g a)=false:=by assumption
    have H:Hid (f=Sort.scanUp (fun x=>Sort.ltInt x dk[a]!) dk j i):=(scanUp_end (fun x=>Sort.ltInt x dk[a]!) dk j f (Or.inr (by rw[<-m.o a,<-m.o f];exact ht))).symm.trans M.o;clear ht;have u:wr.drewN nq=h.drewN (z+nq):=by rw[J.o,gI]
    clear A J M
    go_loopw [11] (fun v w2=>∃(c l:Nat),v=.int .i64 c/\c<=j/\f<=c+1/\w2=h.drewN l/\
      Hid (Sort.scanDown (fun x=>!Sort.ltInt x dk[a]!) dk f c=Sort.scanDown (fun x=>!Sort.ltInt x dk[a]!) dk f j))
     (fun v _=>(intOf v).toNat)
    case atStart=>exact⟨j,z+nq,rfl,aA _,W,u,rfl⟩
    case round=>
     clear u;obtain⟨c,l,rfl,al,aj,u,y⟩:=hrel;have A:∀t,t<d.size->wr.cell? ⟨blk,off+t,none⟩=some (.int .u32 (g t)):=fun t ht=>by rw[u];exact B t ht
     have K:Hid (wr=h.drewN l):=u;clear u;by_cases L:f<=c
     .go_wp2_with fail
      go_big_quiet (first|(go_at_call 224;refine gV (eO _ _ _)))
      go_wp2
      .
       have ht:(!Sort.ltInt (g c) (g a))=true:=by assumption
       go_roundw
       case rel=>exact⟨c-1,l+nq,by go_num,aa,aa,by rw[K.o,gI],(scanDown_go (fun x=>!Sort.ltInt x dk[a]!) dk f c L aa (by rw[<-m.o a,<-m.o c];exact ht)).symm.trans y.o⟩
       case measure=>exact bZ
      .
       have ht:(!Sort.ltInt (g c) (g a))=false:=by assumption
       have C:Hid (c=Sort.scanDown (fun x=>!Sort.ltInt x dk[a]!) dk f j):=(qF (fun x=>!Sort.ltInt x dk[a]!) dk f c (Or.inr (by rw[<-m.o a,<-m.o c];exact ht))).symm.trans y.o;clear A y ht;have k:wr.drewN nq=h.drewN (l+nq):=by rw[K.o,gI]
       generalize wr.drewN nq=r at k |-;have F:∀t,t<d.size->r.cell? ⟨blk,off+t,none⟩=some (.int .u32 (g t)):=fun t ht=>by rw[k];exact B t ht
       have U:∀t,t<d.size->r.frozen? ⟨blk,off+t,none⟩=false:=fun t ht=>by rw[k];exact P t ht
       have E:Hid (r=h.drewN (l+nq)):=k;clear k;obtain⟨Z,V⟩:=qp (w:=r) (p:=⟨blk,off+f,none⟩) (x:=.int .u32 (g c)) (q:=⟨blk,off+c,none⟩) (F c aa);have aJ:=part_scans_lt Sort.ltInt a i j dk aa H.o C.o L;go_wp2;go_region
       all_goals go_wp2
       obtain⟨R,ah⟩:∃R,R=Sort.partLoop Sort.ltInt a (f+1) (c-1) (Sort.swp dk f c):=⟨_,rfl⟩;have aq:Hid (Sort.partition Sort.ltInt d a b s=(R.1,false,Sort.swp R.2 R.1 a)):=by rw[ah];exact part_first_go Sort.ltInt d a b s ae.o af.o ad.o H.o C.o aa
       have aB:((r.setCell ⟨blk,off+f,none⟩ (.int .u32 (g c))).setCell ⟨blk,off+c,none⟩ (.int .u32 (g f))).drew=(putRow (Value.int .u32) w blk off (Sort.swp dk f c)).drewN (n+(l+nq)+1):=by
        rw[E.o,O.o,gI,m.o f,m.o c];exact qJ (Value.int .u32) w blk off dk _ f c aa aa
       have ar:Hid (R=Sort.partLoop Sort.ltInt a (f+1) (c-1) (Sort.swp dk f c)):=ah;clear ah B P F U V E O m H C
       go_loopw [10,11] (fun N v wr=>∃(i j n:Nat) (dk:Array Int),N=.int .i64 i/\v=.int .i64 j/\a<i/\i<=j+1/\j<b/\dk.size=d.size/\wr=(putRow (Value.int .u32) w blk off dk).drewN n/\
         Sort.partLoop Sort.ltInt a i j dk=R)
        (fun N v _=>(intOf v).toNat+1-(intOf N).toNat)
       case atStart=>exact⟨f+1,c-1,_,Sort.swp dk f c,by go_num,by go_num,aa,aa,aa,by rw[iq];exact Y,aB,ar.o.symm⟩
       case round=>
        clear aB ar;obtain⟨i,j,n,dk,rfl,rfl,aG,ai,aI,Y,I,ay⟩:=hrel
        rename World=>h
        have ac:Hid (Sort.partLoop Sort.ltInt a i j dk=R):=ay;clear ay;have S:Holds (Value.int .u32) h blk off dk:=by
         rw[I];exact holds_putRow (Value.int .u32) w blk off d dk ap.o Y
        obtain⟨g,D⟩:∃g:Nat->Int,∀t,g t=dk[t]! :=⟨fun t=>dk[t]!,fun _=>rfl⟩;have B:∀t,t<d.size->h.cell? ⟨blk,off+t,none⟩=some (.int .u32 (g t)):=fun t ht=>by rw[D];exact(S t aa).1
        have P:∀t,t<d.size->h.frozen? ⟨blk,off+t,none⟩=false:=fun t ht=>(S t aa).2;have m:Hid (∀t,g t=dk[t]!):=D;have O:Hid (h=(putRow (Value.int .u32) w blk off dk).drewN n):=I;clear D I S;go_wp2
        go_loopw [10] (fun N w1=>∃(f z:Nat),N=.int .i64 f/\i<=f/\f<=j+1/\w1=h.drewN z/\
          Hid (Sort.scanUp (fun x=>Sort.ltInt x dk[a]!) dk j f=Sort.scanUp (fun x=>Sort.ltInt x dk[a]!) dk j i))
         (fun N _=>j+1-(intOf N).toNat)
        case atStart=>exact⟨i,0,rfl,aA _,ai,rfl,rfl⟩
        case round=>
         obtain⟨f,z,rfl,aH,W,T,M⟩:=hrel;have A:∀t,t<d.size->wr.cell? ⟨blk,off+t,none⟩=some (.int .u32 (g t)):=fun t ht=>by rw[T];exact B t ht
         have J:Hid (wr=h.drewN z):=T;clear T;by_cases X:f<=j
         .go_wp2_with fail
          go_big_quiet (first|(go_at_call 224;refine gV (eO _ _ _)))
          go_wp2
          .
           have ht:Sort.ltInt (g f) (g a)=true:=by assumption
           go_roundw
           case rel=>exact⟨f+1,z+nq,by go_num,aa,aa,by rw[J.o,gI],(scanUp_go (fun x=>Sort.ltInt x dk[a]!) dk j f X (by rw[<-m.o a,<-m.o f];exact ht)).symm.trans M.o⟩
           case measure=>exact bZ
          .
           have ht:Sort.ltInt (g f) (g a)=false:=by assumption
           have H:Hid (f=Sort.scanUp (fun x=>Sort.ltInt x dk[a]!) dk j i):=(scanUp_end (fun x=>Sort.ltInt x dk[a]!) dk j f (Or.inr (by rw[<-m.o a,<-m.o f];exact ht))).symm.trans M.o;clear ht;have u:wr.drewN nq=h.drewN (z+nq):=by rw[J.o,gI]
           clear A J M
           go_loopw [11] (fun v w2=>∃(c l:Nat),v=.int .i64 c/\c<=j/\f<=c+1/\w2=h.drewN l/\
             Hid (Sort.scanDown (fun x=>!Sort.ltInt x dk[a]!) dk f c=Sort.scanDown (fun x=>!Sort.ltInt x dk[a]!) dk f j))
            (fun v _=>(intOf v).toNat)
           case atStart=>exact⟨j,z+nq,rfl,aA _,W,u,rfl⟩
           case round=>
            clear u;obtain⟨c,l,rfl,al,aj,u,y⟩:=hrel;have A:∀t,t<d.size->wr.cell? ⟨blk,off+t,none⟩=some (.int .u32 (g t)):=fun t ht=>by rw[u];exact B t ht
            have K:Hid (wr=h.drewN l):=u;clear u;by_cases L:f<=c
            .go_wp2_with fail
             go_big_quiet (first|(go_at_call 224;refine gV (eO _ _ _)))
             go_wp2
             .
              have ht:(!Sort.ltInt (g c) (g a))=true:=by assumption
              go_roundw
              case rel=>exact⟨c-1,l+nq,by go_num,aa,aa,by rw[K.o,gI],(scanDown_go (fun x=>!Sort.ltInt x dk[a]!) dk f c L aa (by rw[<-m.o a,<-m.o c];exact ht)).symm.trans y.o⟩
              case measure=>exact bZ
             .
              have ht:(!Sort.ltInt (g c) (g a))=false:=by assumption
              have C:Hid (c=Sort.scanDown (fun x=>!Sort.ltInt x dk[a]!) dk f j):=(qF (fun x=>!Sort.ltInt x dk[a]!) dk f c (Or.inr (by rw[<-m.o a,<-m.o c];exact ht))).symm.trans y.o;clear A y ht;have k:wr.drewN nq=h.drewN (l+nq):=by rw[K.o,gI]
              generalize wr.drewN nq=r at k |-;have F:∀t,t<d.size->r.cell? ⟨blk,off+t,none⟩=some (.int .u32 (g t)):=fun t ht=>by rw[k];exact B t ht
              have U:∀t,t<d.size->r.frozen? ⟨blk,off+t,none⟩=false:=fun t ht=>by rw[k];exact P t ht
              have E:Hid (r=h.drewN (l+nq)):=k;clear k;obtain⟨Z,V⟩:=qp (w:=r) (p:=⟨blk,off+f,none⟩) (x:=.int .u32 (g c)) (q:=⟨blk,off+c,none⟩) (F c aa);have aJ:=part_scans_lt Sort.ltInt a i j dk aa H.o C.o L;go_wp2;go_region
              all_goals go_wp2
              all_goals go_roundw
              case rel=>
               refine⟨f+1,c-1,n+(l+nq)+1,Sort.swp dk f c,by go_num,by go_num,aa,aa,aa,by rw[iq];exact Y,?_,?_⟩
               .rw[E.o,O.o,gI,m.o f,m.o c];exact qJ (Value.int .u32) w blk off dk _ f c aa aa
               .exact(part_go Sort.ltInt a i j dk H.o C.o aa).symm.trans ac.o
              case measure=>exact bZ
            .go_wp2_with fail
             go_big_quiet (first|(go_at_call 224;refine gV (eO _ _ _)))
             have C:Hid (c=Sort.scanDown (fun x=>!Sort.ltInt x dk[a]!) dk f j):=(qF (fun x=>!Sort.ltInt x dk[a]!) dk f c (Or.inl L)).symm.trans y.o;clear A y;have k:wr.drewN nq=h.drewN (l+nq):=by rw[K.o,gI]
             generalize wr.drewN nq=r at k |-;have F:∀t,t<d.size->r.cell? ⟨blk,off+t,none⟩=some (.int .u32 (g t)):=fun t ht=>by rw[k];exact B t ht
             have U:∀t,t<d.size->r.frozen? ⟨blk,off+t,none⟩=false:=fun t ht=>by rw[k];exact P t ht
             have E:Hid (r=h.drewN (l+nq)):=k;clear k;obtain⟨Z,V⟩:=qp (w:=r) (p:=⟨blk,off+c,none⟩) (x:=.int .u32 (g a)) (q:=⟨blk,off+a,none⟩) (F a aa);have an:c<d.size:=aa;go_wp2;go_region
             all_goals go_wp2
             all_goals go_ret2
             have e:Sort.partition Sort.ltInt d a b s=(c,false,Sort.swp dk c a):=by
              have ag:=(part_break Sort.ltInt a i j dk H.o C.o aa).symm.trans ac.o;rw[aq.o,<-ag]
             refine⟨?_,n+(l+nq)+1,?_⟩
             .rw[e];rfl
             .rw[e,E.o,O.o,gI,m.o a,m.o c];exact qJ (Value.int .u32) w blk off dk _ c a aa aa
         .go_wp2_with fail
          go_big_quiet (first|(go_at_call 224;refine gV (eO _ _ _)))
          go_wp2;have H:Hid (f=Sort.scanUp (fun x=>Sort.ltInt x dk[a]!) dk j i):=(scanUp_end (fun x=>Sort.ltInt x dk[a]!) dk j f (Or.inl X)).symm.trans M.o;have u:wr.drewN nq=h.drewN (z+nq):=by rw[J.o,gI]
          clear A J M
          go_loopw [11] (fun v w2=>∃(c l:Nat),v=.int .i64 c/\c<=j/\f<=c+1/\w2=h.drewN l/\
            Hid (Sort.scanDown (fun x=>!Sort.ltInt x dk[a]!) dk f c=Sort.scanDown (fun x=>!Sort.ltInt x dk[a]!) dk f j))
           (fun v _=>(intOf v).toNat)
          case atStart=>exact⟨j,z+nq,rfl,aA _,W,u,rfl⟩
          case round=>
           clear u;obtain⟨c,l,rfl,al,aj,u,y⟩:=hrel;have A:∀t,t<d.size->wr.cell? ⟨blk,off+t,none⟩=some (.int .u32 (g t)):=fun t ht=>by rw[u];exact B t ht
           have K:Hid (wr=h.drewN l):=u;clear u;by_cases L:f<=c
           .exfalso;omega
           .go_wp2_with fail
            go_big_quiet (first|(go_at_call 224;refine gV (eO _ _ _)))
            have C:Hid (c=Sort.scanDown (fun x=>!Sort.ltInt x dk[a]!) dk f j):=(qF (fun x=>!Sort.ltInt x dk[a]!) dk f c (Or.inl L)).symm.trans y.o;clear A y;have k:wr.drewN nq=h.drewN (l+nq):=by rw[K.o,gI]
            generalize wr.drewN nq=r at k |-;have F:∀t,t<d.size->r.cell? ⟨blk,off+t,none⟩=some (.int .u32 (g t)):=fun t ht=>by rw[k];exact B t ht
            have U:∀t,t<d.size->r.frozen? ⟨blk,off+t,none⟩=false:=fun t ht=>by rw[k];exact P t ht
            have E:Hid (r=h.drewN (l+nq)):=k;clear k;obtain⟨Z,V⟩:=qp (w:=r) (p:=⟨blk,off+c,none⟩) (x:=.int .u32 (g a)) (q:=⟨blk,off+a,none⟩) (F a aa);have an:c<d.size:=aa;go_wp2;go_region
            all_goals go_wp2
            all_goals go_ret2
            have e:Sort.partition Sort.ltInt d a b s=(c,false,Sort.swp dk c a):=by
             have ag:=(part_break Sort.ltInt a i j dk H.o C.o aa).symm.trans ac.o;rw[aq.o,<-ag]
            refine⟨?_,n+(l+nq)+1,?_⟩
            .rw[e];rfl
            .rw[e,E.o,O.o,gI,m.o a,m.o c];exact qJ (Value.int .u32) w blk off dk _ c a aa aa
     .go_wp2_with fail
      go_big_quiet (first|(go_at_call 224;refine gV (eO _ _ _)))
      have C:Hid (c=Sort.scanDown (fun x=>!Sort.ltInt x dk[a]!) dk f j):=(qF (fun x=>!Sort.ltInt x dk[a]!) dk f c (Or.inl L)).symm.trans y.o;clear A y;have k:wr.drewN nq=h.drewN (l+nq):=by rw[K.o,gI]
      generalize wr.drewN nq=r at k |-;have F:∀t,t<d.size->r.cell? ⟨blk,off+t,none⟩=some (.int .u32 (g t)):=fun t ht=>by rw[k];exact B t ht
      have U:∀t,t<d.size->r.frozen? ⟨blk,off+t,none⟩=false:=fun t ht=>by rw[k];exact P t ht
      have E:Hid (r=h.drewN (l+nq)):=k;clear k;obtain⟨Z,V⟩:=qp (w:=r) (p:=⟨blk,off+c,none⟩) (x:=.int .u32 (g a)) (q:=⟨blk,off+a,none⟩) (F a aa);have an:c<d.size:=aa;go_wp2;go_region
      all_goals go_wp2
      all_goals go_ret2
      have e:Sort.partition Sort.ltInt d a b s=(c,true,Sort.swp dk c a):=part_first_break Sort.ltInt d a b s ae.o af.o ad.o H.o C.o aa;refine⟨?_,n+(l+nq)+1,?_⟩
      .rw[e];rfl
      .rw[e,E.o,O.o,gI,m.o a,m.o c];exact qJ (Value.int .u32) w blk off dk _ c a aa aa
  .go_wp2_with fail
   go_big_quiet (first|(go_at_call 224;refine gV (eO _ _ _)))
   go_wp2;have H:Hid (f=Sort.scanUp (fun x=>Sort.ltInt x dk[a]!) dk j i):=(scanUp_end (fun x=>Sort.ltInt x dk[a]!) dk j f (Or.inl X)).symm.trans M.o;have u:wr.drewN nq=h.drewN (z+nq):=by rw[J.o,gI]
   clear A J M
   go_loopw [11] (fun v w2=>∃(c l:Nat),v=.int .i64 c/\c<=j/\f<=c+1/\w2=h.drewN l/\
     Hid (Sort.scanDown (fun x=>!Sort.ltInt x dk[a]!) dk f c=Sort.scanDown (fun x=>!Sort.ltInt x dk[a]!) dk f j))
    (fun v _=>(intOf v).toNat)
   case atStart=>exact⟨j,z+nq,rfl,aA _,W,u,rfl⟩
   case round=>
    clear u;obtain⟨c,l,rfl,al,aj,u,y⟩:=hrel;have A:∀t,t<d.size->wr.cell? ⟨blk,off+t,none⟩=some (.int .u32 (g t)):=fun t ht=>by rw[u];exact B t ht
    have K:Hid (wr=h.drewN l):=u;clear u;by_cases L:f<=c
    .exfalso;omega
    .go_wp2_with fail
     go_big_quiet (first|(go_at_call 224;refine gV (eO _ _ _)))
     have C:Hid (c=Sort.scanDown (fun x=>!Sort.ltInt x dk[a]!) dk f j):=(qF (fun x=>!Sort.ltInt x dk[a]!) dk f c (Or.inl L)).symm.trans y.o;clear A y;have k:wr.drewN nq=h.drewN (l+nq):=by rw[K.o,gI]
     generalize wr.drewN nq=r at k |-;have F:∀t,t<d.size->r.cell? ⟨blk,off+t,none⟩=some (.int .u32 (g t)):=fun t ht=>by rw[k];exact B t ht
     have U:∀t,t<d.size->r.frozen? ⟨blk,off+t,none⟩=false:=fun t ht=>by rw[k];exact P t ht
     have E:Hid (r=h.drewN (l+nq)):=k;clear k;obtain⟨Z,V⟩:=qp (w:=r) (p:=⟨blk,off+c,none⟩) (x:=.int .u32 (g a)) (q:=⟨blk,off+a,none⟩) (F a aa);have an:c<d.size:=aa;go_wp2;go_region
     all_goals go_wp2
     all_goals go_ret2
     have e:Sort.partition Sort.ltInt d a b s=(c,true,Sort.swp dk c a):=part_first_break Sort.ltInt d a b s ae.o af.o ad.o H.o C.o aa;refine⟨?_,n+(l+nq)+1,?_⟩
     .rw[e];rfl
     .rw[e,E.o,O.o,gI,m.o a,m.o c];exact qJ (Value.int .u32) w blk off dk _ c a aa aa
theorem MN (blk off X a b:Nat) (d:Array Int) (w:World) (N:Holds (Value.int .u32) w blk off d) (ad:a<b) (af:b<=d.size) (ak:d.size<4611686018427387904):
  Calls prog 223 #[.slice (some ⟨blk,off,none⟩) d.size X,.int .i64 a,.int .i64 b] w fun e w'=>
   e=.returned (.bool (Sort.partialInsertionSort ltInt d a b).2)/\∃n,w'=putRow (Value.int .u32) (Sort.ahead w n) blk off (Sort.partialInsertionSort ltInt d a b).1:=by
 have A:Hid (Holds (Value.int .u32) w blk off d):=N;have W:Hid (w=putRow (Value.int .u32) (Sort.ahead w 0) blk off d):=(qI _ _ _ _ _ N).symm;clear N;go_enter func223,ntmps223;go_wp2
 go_loopw [7,8] (fun I P wr=>∃(i s n:Nat) (dk:Array Int),I=.int .i64 i/\P=.int .i64 s/\s<=5/\a<i/\i<=b/\dk.size=d.size/\wr=putRow (Value.int .u32) (Sort.ahead w n) blk off dk/\
   partialIns ltInt a b (5-s) i dk=partialIns ltInt a b 5 (a+1) d) (fun _ P _=>5-(intOf P).toNat)
 case atStart=>exact⟨a+1,0,0,d,by go_num,rfl,aa,aa,aa,rfl,W.o,rfl⟩
 case round=>
  obtain⟨i,s,n,dk,rfl,rfl,aj,ae,Y,V,al,R⟩:=hrel;have HO:Hid (partialIns ltInt a b (5-s) i dk=partialIns ltInt a b 5 (a+1) d):=R;clear R;go_wp2
  .
   have z:s<5:=aa
   go_loopw [7] (fun I D=>∃(k m:Nat),I=.int .i64 k/\i<=k/\k<=b/\D=putRow (Value.int .u32) (Sort.ahead w m) blk off dk/\scanSorted ltInt dk b k=scanSorted ltInt dk b i) (fun I _=>b-(intOf I).toNat)
   case atStart=>exact⟨i,n,rfl,aA _,Y,rfl,rfl⟩
   case round=>
    obtain⟨k,m,rfl,ag,ai,C,hS⟩:=hrel;obtain⟨G,p⟩:∃G:Nat->Int,∀t,G t=dk[t]! :=⟨fun t=>dk[t]!,fun _=>rfl⟩;have J:∀t,t<d.size->wr.cell? ⟨blk,off+t,none⟩=some (.int .u32 (G t)):=fun t ht=>by
     rw[C,p];exact wh _ _ _ _ d dk (jR _ _ _ _ _ _ A.o) V t aa
    have K:∀t,t<d.size->wr.frozen? ⟨blk,off+t,none⟩=false:=fun t ht=>by
     rw[C,sV];exact((jR _ _ m _ _ _ A.o) t ht).2
    have f:Hid (wr=putRow (Value.int .u32) (Sort.ahead w m) blk off dk):=C;have l:Hid (∀t,G t=dk[t]!):=p;have M:Hid (scanSorted ltInt dk b k=scanSorted ltInt dk b i):=hS;clear C p hS;go_wp2;by_cases Z:k<b
    .go_quiet (first|(go_at_call 224;refine gV (eO _ _ _)))
     go_wp2
     all_goals first
      |(at_end
        have q:ltInt (G k) (G (k-1))=false:=by
         have h:(!ltInt (G k) (G (k-1)))=true:=by assumption
         simpa using h
        go_roundw
        case rel=>exact⟨k+1,m+nq,by go_num,aa,aa,by rw[f.o];exact kX _ _ _ _ _ _ _,by rw[<-M.o,scanSorted_go ltInt dk b k Z (by rw[<-l.o,<-l.o];exact q)]⟩
        case measure=>simp[intOf];omega)
      |(have q:ltInt (G k) (G (k-1))=true:=by
         have h:(!ltInt (G k) (G (k-1)))=false:=by assumption
         simpa using h
        have B:Hid (scanSorted ltInt dk b i=k):=by
         show scanSorted ltInt dk b i=k;rw[<-M.o,scanSorted_stop ltInt dk b k (Or.inr (by rw[<-l.o,<-l.o];exact q))]
        first
         |(at_ret
           have H:Sort.partialInsertionSort ltInt d a b=(dk,false):=by
            unfold Sort.partialInsertionSort;rw[<-HO.o,pi_short ltInt a b s i dk z (by rw[B.o];omega) aa]
           rw[H];go_ret;exact⟨rfl,m+nq,by rw[f.o];exact kX _ _ _ _ _ _ _⟩)
         |(at_region 11
           have ac:¬b-a<50:=aa;go_region;have ab:((wr.drewN (nq+1)).setCell ⟨blk,off+k,none⟩ (.int .u32 (G (k-1)))).setCell ⟨blk,off+(k-1),none⟩ (.int .u32 (G k))=putRow (Value.int .u32) (Sort.ahead w (m+(nq+1))) blk off (swp dk k (k-1)):=by
            rw[f.o,l.o,l.o];exact swap_worldA _ w m (nq+1) blk off dk k (k-1) aa aa
           have O:(swp dk k (k-1)).size=d.size:=by rw[iq];exact V
           go_wp2
           all_goals first
            |(at_loop
              have T:k-a>=2:=aa
              go_loopw [9] (fun r D=>∃(j m2:Nat) (g:Array Int),r=.int .i64 j/\j<=k-1/\g.size=d.size/\D=putRow (Value.int .u32) (Sort.ahead w m2) blk off g/\
                shiftDown ltInt j g=shiftDown ltInt (k-1) (swp dk k (k-1))) (fun r _=>(intOf r).toNat)
              case atStart=>exact⟨k-1,_,(swp dk k (k-1)),by congr 1;omega,aA _,O,rfl,rfl⟩
              case round=>
               obtain⟨j,m2,g,rfl,ah,F,C,Q⟩:=hrel;obtain⟨G,p⟩:∃G:Nat->Int,∀t,G t=g[t]! :=⟨fun t=>g[t]!,fun _=>rfl⟩;have J:∀t,t<d.size->wr.cell? ⟨blk,off+t,none⟩=some (.int .u32 (G t)):=fun t ht=>by
                rw[C,p];exact wh _ _ _ _ d g (jR _ _ _ _ _ _ A.o) F t aa
               have K:∀t,t<d.size->wr.frozen? ⟨blk,off+t,none⟩=false:=fun t ht=>by
                rw[C,sV];exact((jR _ _ m2 _ _ _ A.o) t ht).2
               have f:Hid (wr=putRow (Value.int .u32) (Sort.ahead w m2) blk off g):=C;have l:Hid (∀t,G t=g[t]!):=p;have L:Hid (shiftDown ltInt j g=shiftDown ltInt (k-1) (swp dk k (k-1))):=Q;clear C p Q ab;go_wp2
               all_goals first
                |(at_region 16
                  go_quiet (first|(go_at_call 224;refine gV (eO _ _ _)))
                  go_wp2
                  all_goals first
                   |(at_region 17
                     have q:ltInt (G j) (G (j-1))=true:=by
                      have h:(!ltInt (G j) (G (j-1)))=false:=by assumption
                      simpa using h
                     go_region
                     all_goals go_wp2
                     go_roundw
                     case rel=>
                      refine⟨j-1,m2+(nq+1),swp g j (j-1),by congr 1;omega,aa,by rw[iq];exact F,?_,?_⟩
                      .rw[f.o,l.o,l.o];exact swap_worldA _ w m2 (nq+1) blk off g j (j-1) aa aa
                      .rw[<-L.o,shiftDown_go ltInt j g aa (by rw[<-l.o,<-l.o];exact q)]
                     case measure=>simp[intOf];omega)
                   |(
                     have q:ltInt (G j) (G (j-1))=false:=by
                      have h:(!ltInt (G j) (G (j-1)))=true:=by assumption
                      simpa using h
                     have x:Hid (fixDown ltInt a k (swp dk k (k-1))=g):=by
                      show fixDown ltInt a k (swp dk k (k-1))=g;unfold fixDown;rw[aO T,<-L.o,shiftDown_stop ltInt j g (Or.inr (by rw[<-l.o,<-l.o];exact q))]
                     first
                      |(at_end
                        go_roundw
                        case rel=>
                         refine⟨k,s+1,_,g,rfl,by go_num,aa,aa,aa,F,(by first|rfl|exact f.o|(rw[f.o];exact kX _ _ _ _ _ _ _)),?_⟩;rw[<-HO.o,pi_go ltInt a b s i k dk z B.o aa aa,x.o,show fixUp ltInt b k g=g from by unfold fixUp;rw[aN aa]]
                        case measure=>simp[intOf];omega)
                      |(at_loop
                        go_loopw [10] (fun r D=>∃(j m3:Nat) (c:Array Int),r=.int .i64 j/\k+1<=j/\j<=b/\c.size=d.size/\D=putRow (Value.int .u32) (Sort.ahead w m3) blk off c/\
                          shiftUp ltInt b j c=shiftUp ltInt b (k+1) g) (fun r _=>b-(intOf r).toNat)
                        case atStart=>exact⟨k+1,_,g,by go_num,aA _,aa,F,(by first|rfl|exact f.o|(rw[f.o];exact kX _ _ _ _ _ _ _)),rfl⟩
                        case round=>
                         obtain⟨j,m3,c,rfl,U,S,u,v,E⟩:=hrel;obtain⟨G,p⟩:∃G:Nat->Int,∀t,G t=c[t]! :=⟨fun t=>c[t]!,fun _=>rfl⟩;have J:∀t,t<d.size->wr.cell? ⟨blk,off+t,none⟩=some (.int .u32 (G t)):=fun t ht=>by
                          rw[v,p];exact wh _ _ _ _ d c (jR _ _ _ _ _ _ A.o) u t aa
                         have K:∀t,t<d.size->wr.frozen? ⟨blk,off+t,none⟩=false:=fun t ht=>by
                          rw[v,sV];exact((jR _ _ m3 _ _ _ A.o) t ht).2
                         have f:Hid (wr=putRow (Value.int .u32) (Sort.ahead w m3) blk off c):=v;have l:Hid (∀t,G t=c[t]!):=p;have y:Hid (shiftUp ltInt b j c=shiftUp ltInt b (k+1) g):=E;clear v p E;go_wp2
                         all_goals first
                          |(at_region 22
                            go_quiet (first|(go_at_call 224;refine gV (eO _ _ _)))
                            go_wp2
                            all_goals first
                             |(at_region 23
                               have q:ltInt (G j) (G (j-1))=true:=by
                                have h:(!ltInt (G j) (G (j-1)))=false:=by assumption
                                simpa using h
                               go_region
                               all_goals go_wp2
                               go_roundw
                               case rel=>
                                refine⟨j+1,m3+(nq+1),swp c j (j-1),by go_num,aa,aa,by rw[iq];exact u,?_,?_⟩
                                .rw[f.o,l.o,l.o];exact swap_worldA _ w m3 (nq+1) blk off c j (j-1) aa aa
                                .rw[<-y.o,shiftUp_go ltInt b j c aa (by rw[<-l.o,<-l.o];exact q)]
                               case measure=>simp[intOf];omega)
                             |(at_end
                               have q:ltInt (G j) (G (j-1))=false:=by
                                have h:(!ltInt (G j) (G (j-1)))=true:=by assumption
                                simpa using h
                               go_roundw
                               case rel=>
                                refine⟨k,s+1,_,c,rfl,by go_num,aa,aa,aa,u,(by first|rfl|exact f.o|(rw[f.o];exact kX _ _ _ _ _ _ _)),?_⟩;rw[<-HO.o,pi_go ltInt a b s i k dk z B.o aa aa,x.o,show fixUp ltInt b k g=c from by unfold fixUp;rw[aO aa,<-y.o,y9 ltInt b j c (Or.inr (by rw[<-l.o,<-l.o];exact q))]]
                               case measure=>simp[intOf];omega))
                          |(at_end
                            go_roundw
                            case rel=>
                             refine⟨k,s+1,_,c,rfl,by go_num,aa,aa,aa,u,(by first|rfl|exact f.o|(rw[f.o];exact kX _ _ _ _ _ _ _)),?_⟩;rw[<-HO.o,pi_go ltInt a b s i k dk z B.o aa aa,x.o,show fixUp ltInt b k g=c from by unfold fixUp;rw[aO aa,<-y.o,y9 ltInt b j c (Or.inl aa)]]
                            case measure=>simp[intOf];omega))))
                |(
                  have x:Hid (fixDown ltInt a k (swp dk k (k-1))=g):=by
                   show fixDown ltInt a k (swp dk k (k-1))=g;unfold fixDown;rw[aO T,<-L.o,shiftDown_stop ltInt j g (Or.inl aa)]
                  first
                   |(at_end
                     go_roundw
                     case rel=>
                      refine⟨k,s+1,_,g,rfl,by go_num,aa,aa,aa,F,(by first|rfl|exact f.o|(rw[f.o];exact kX _ _ _ _ _ _ _)),?_⟩;rw[<-HO.o,pi_go ltInt a b s i k dk z B.o aa aa,x.o,show fixUp ltInt b k g=g from by unfold fixUp;rw[aN aa]]
                     case measure=>simp[intOf];omega)
                   |(at_loop
                     go_loopw [10] (fun r D=>∃(j m3:Nat) (c:Array Int),r=.int .i64 j/\k+1<=j/\j<=b/\c.size=d.size/\D=putRow (Value.int .u32) (Sort.ahead w m3) blk off c/\
                       shiftUp ltInt b j c=shiftUp ltInt b (k+1) g) (fun r _=>b-(intOf r).toNat)
                     case atStart=>exact⟨k+1,_,g,by go_num,aA _,aa,F,(by first|rfl|exact f.o|(rw[f.o];exact kX _ _ _ _ _ _ _)),rfl⟩
                     case round=>
                      obtain⟨j,m3,c,rfl,U,S,u,v,E⟩:=hrel;obtain⟨G,p⟩:∃G:Nat->Int,∀t,G t=c[t]! :=⟨fun t=>c[t]!,fun _=>rfl⟩;have J:∀t,t<d.size->wr.cell? ⟨blk,off+t,none⟩=some (.int .u32 (G t)):=fun t ht=>by
                       rw[v,p];exact wh _ _ _ _ d c (jR _ _ _ _ _ _ A.o) u t aa
                      have K:∀t,t<d.size->wr.frozen? ⟨blk,off+t,none⟩=false:=fun t ht=>by
                       rw[v,sV];exact((jR _ _ m3 _ _ _ A.o) t ht).2
                      have f:Hid (wr=putRow (Value.int .u32) (Sort.ahead w m3) blk off c):=v;have l:Hid (∀t,G t=c[t]!):=p;have y:Hid (shiftUp ltInt b j c=shiftUp ltInt b (k+1) g):=E;clear v p E;go_wp2
                      all_goals first
                       |(at_region 22
                         go_quiet (first|(go_at_call 224;refine gV (eO _ _ _)))
                         go_wp2
                         all_goals first
                          |(at_region 23
                            have q:ltInt (G j) (G (j-1))=true:=by
                             have h:(!ltInt (G j) (G (j-1)))=false:=by assumption
                             simpa using h
                            go_region
                            all_goals go_wp2
                            go_roundw
                            case rel=>
                             refine⟨j+1,m3+(nq+1),swp c j (j-1),by go_num,aa,aa,by rw[iq];exact u,?_,?_⟩
                             .rw[f.o,l.o,l.o];exact swap_worldA _ w m3 (nq+1) blk off c j (j-1) aa aa
                             .rw[<-y.o,shiftUp_go ltInt b j c aa (by rw[<-l.o,<-l.o];exact q)]
                            case measure=>simp[intOf];omega)
                          |(at_end
                            have q:ltInt (G j) (G (j-1))=false:=by
                             have h:(!ltInt (G j) (G (j-1)))=true:=by assumption
                             simpa using h
                            go_roundw
                            case rel=>
                             refine⟨k,s+1,_,c,rfl,by go_num,aa,aa,aa,u,(by first|rfl|exact f.o|(rw[f.o];exact kX _ _ _ _ _ _ _)),?_⟩;rw[<-HO.o,pi_go ltInt a b s i k dk z B.o aa aa,x.o,show fixUp ltInt b k g=c from by unfold fixUp;rw[aO aa,<-y.o,y9 ltInt b j c (Or.inr (by rw[<-l.o,<-l.o];exact q))]]
                            case measure=>simp[intOf];omega))
                       |(at_end
                         go_roundw
                         case rel=>
                          refine⟨k,s+1,_,c,rfl,by go_num,aa,aa,aa,u,(by first|rfl|exact f.o|(rw[f.o];exact kX _ _ _ _ _ _ _)),?_⟩;rw[<-HO.o,pi_go ltInt a b s i k dk z B.o aa aa,x.o,show fixUp ltInt b k g=c from by unfold fixUp;rw[aO aa,<-y.o,y9 ltInt b j c (Or.inl aa)]]
                         case measure=>simp[intOf];omega))))
            |(
              have x:Hid (fixDown ltInt a k (swp dk k (k-1))=(swp dk k (k-1))):=by
               show fixDown ltInt a k (swp dk k (k-1))=(swp dk k (k-1));unfold fixDown;rw[aN aa]
              first
               |(at_end
                 go_roundw
                 case rel=>
                  refine⟨k,s+1,_,(swp dk k (k-1)),rfl,by go_num,aa,aa,aa,O,(by first|rfl|exact f.o|(rw[f.o];exact kX _ _ _ _ _ _ _)),?_⟩;rw[<-HO.o,pi_go ltInt a b s i k dk z B.o aa aa,x.o,show fixUp ltInt b k (swp dk k (k-1))=(swp dk k (k-1))from by unfold fixUp;rw[aN aa]]
                 case measure=>simp[intOf];omega)
               |(at_loop
                 go_loopw [10] (fun r D=>∃(j m3:Nat) (c:Array Int),r=.int .i64 j/\k+1<=j/\j<=b/\c.size=d.size/\D=putRow (Value.int .u32) (Sort.ahead w m3) blk off c/\
                   shiftUp ltInt b j c=shiftUp ltInt b (k+1) (swp dk k (k-1))) (fun r _=>b-(intOf r).toNat)
                 case atStart=>exact⟨k+1,_,(swp dk k (k-1)),by go_num,aA _,aa,O,(by first|rfl|exact f.o|(rw[f.o];exact kX _ _ _ _ _ _ _)),rfl⟩
                 case round=>
                  obtain⟨j,m3,c,rfl,U,S,u,v,E⟩:=hrel;obtain⟨G,p⟩:∃G:Nat->Int,∀t,G t=c[t]! :=⟨fun t=>c[t]!,fun _=>rfl⟩;have J:∀t,t<d.size->wr.cell? ⟨blk,off+t,none⟩=some (.int .u32 (G t)):=fun t ht=>by
                   rw[v,p];exact wh _ _ _ _ d c (jR _ _ _ _ _ _ A.o) u t aa
                  have K:∀t,t<d.size->wr.frozen? ⟨blk,off+t,none⟩=false:=fun t ht=>by
                   rw[v,sV];exact((jR _ _ m3 _ _ _ A.o) t ht).2
                  have f:Hid (wr=putRow (Value.int .u32) (Sort.ahead w m3) blk off c):=v;have l:Hid (∀t,G t=c[t]!):=p;have y:Hid (shiftUp ltInt b j c=shiftUp ltInt b (k+1) (swp dk k (k-1))):=E;clear v p E;go_wp2
                  all_goals first
                   |(at_region 22
                     go_quiet (first|(go_at_call 224;refine gV (eO _ _ _)))
                     go_wp2
                     all_goals first
                      |(at_region 23
                        have q:ltInt (G j) (G (j-1))=true:=by
                         have h:(!ltInt (G j) (G (j-1)))=false:=by assumption
                         simpa using h
                        go_region
                        all_goals go_wp2
                        go_roundw
                        case rel=>
                         refine⟨j+1,m3+(nq+1),swp c j (j-1),by go_num,aa,aa,by rw[iq];exact u,?_,?_⟩
                         .rw[f.o,l.o,l.o];exact swap_worldA _ w m3 (nq+1) blk off c j (j-1) aa aa
                         .rw[<-y.o,shiftUp_go ltInt b j c aa (by rw[<-l.o,<-l.o];exact q)]
                        case measure=>simp[intOf];omega)
                      |(at_end
                        have q:ltInt (G j) (G (j-1))=false:=by
                         have h:(!ltInt (G j) (G (j-1)))=true:=by assumption
                         simpa using h
                        go_roundw
                        case rel=>
                         refine⟨k,s+1,_,c,rfl,by go_num,aa,aa,aa,u,(by first|rfl|exact f.o|(rw[f.o];exact kX _ _ _ _ _ _ _)),?_⟩;rw[<-HO.o,pi_go ltInt a b s i k dk z B.o aa aa,x.o,show fixUp ltInt b k (swp dk k (k-1))=c from by unfold fixUp;rw[aO aa,<-y.o,y9 ltInt b j c (Or.inr (by rw[<-l.o,<-l.o];exact q))]]
                        case measure=>simp[intOf];omega))
                   |(at_end
                     go_roundw
                     case rel=>
                      refine⟨k,s+1,_,c,rfl,by go_num,aa,aa,aa,u,(by first|rfl|exact f.o|(rw[f.o];exact kX _ _ _ _ _ _ _)),?_⟩;rw[<-HO.o,pi_go ltInt a b s i k dk z B.o aa aa,x.o,show fixUp ltInt b k (swp dk k (k-1))=c from by unfold fixUp;rw[aO aa,<-y.o,y9 ltInt b j c (Or.inl aa)]]
                     case measure=>simp[intOf];omega)))))
    .
     go_quiet (first|(go_at_call 224;refine gV (eO _ _ _)))
     go_wp2;obtain rfl:k=b:=aa;have H:Sort.partialInsertionSort ltInt d a k=(dk,true):=by
      unfold Sort.partialInsertionSort;rw[<-HO.o,pi_true ltInt a k s i dk z (by rw[<-M.o,scanSorted_stop ltInt dk k k (Or.inl aa)])]
     rw[H];go_ret;exact⟨rfl,m+nq,by rw[f.o];exact kX _ _ _ _ _ _ _⟩
  .
   obtain rfl:s=5:=aa;have H:Sort.partialInsertionSort ltInt d a b=(dk,false):=by
    unfold Sort.partialInsertionSort;rw[<-HO.o,pi_end]
   rw[H];go_ret;exact⟨rfl,n,rfl⟩
theorem RB (a b X:Nat) (i:X<18446744073709551616) (w:World) (p:w.cell? ⟨a,b,none⟩=some (.int .u64 X)) (q:w.frozen? ⟨a,b,none⟩=false):
  Calls prog 287 #[.pointer (some ⟨a,b,none⟩)] w fun e w'=>e=.returned (.int .u64 (xorNextN X:Nat))/\w'=(w.setCell ⟨a,b,none⟩ (.int .u64 (xorNextN X:Nat))).drewN 3:=by
 obtain⟨A,c⟩:∃A:Nat,A=X ^^^ (X*8192%18446744073709551616):=⟨_,rfl⟩;obtain⟨B,d⟩:∃B:Nat,B=A ^^^ (A/128):=⟨_,rfl⟩;obtain⟨C,f⟩:∃C:Nat,C=B ^^^ (B*131072%18446744073709551616):=⟨_,rfl⟩;have j:A<18446744073709551616:=by rw[c];exact Nat.xor_lt_two_pow (n:=64) aa aa
 have k:B<18446744073709551616:=by rw[d];exact Nat.xor_lt_two_pow (n:=64) aa aa
 have l:bits .xor .u64 (X:Int) (IntKind.u64.wrap ((X:Int)*8192))=(A:Int):=by
  rw[IntKind.wrap_u64,show((X:Int)*8192%18446744073709551616)=((X*8192%18446744073709551616:Nat):Int) by omega,bits_xor_u64_nat _ _ i aa,c]
 have m:bits .xor .u64 (A:Int) ((A:Int)/128)=(B:Int):=by
  rw[show((A:Int)/128)=((A/128:Nat):Int) by omega,bits_xor_u64_nat _ _ j aa,d]
 have o:bits .xor .u64 (B:Int) (IntKind.u64.wrap ((B:Int)*131072))=(C:Int):=by
  rw[IntKind.wrap_u64,show((B:Int)*131072%18446744073709551616)=((B*131072%18446744073709551616:Nat):Int) by omega,bits_xor_u64_nat _ _ k aa,f]
 have g:xorNextN X=C:=by unfold xorNextN;simp only[];rw[<-c,<-d,<-f]
 rw[g];clear c d f g;have r:∀v h,(w.setCell ⟨a,b,none⟩ v).setCell ⟨a,b,none⟩ h=w.setCell ⟨a,b,none⟩ h:=setCell_setCell w a b;go_enter func287,ntmps287;go_wp2;go_region
 all_goals go_wp2
 all_goals go_region
 all_goals go_wp2
 all_goals go_region
 all_goals go_wp2
 go_ret;exact⟨rfl,rfl⟩
theorem Uf (n:Nat) (c:n<4611686018427387904) (w:World):
  Calls prog 286 #[.int .i64 n] w fun e w'=>e=.returned (.int .u64 ((1 <<< bitsLen n:Nat):Int))/\w'=w:=by
 have a:∀w,Calls prog 86 #[.int .u64 (n:Int)] w fun e w'=>e=.returned (.int .i64 (bitsLen n:Nat))/\w'=w:=fun w=>by
  have h:=Tryz.bits_Len (n:Int) w aa aa;rwa [iD,bitLen_eq _ aa]at h
 have b:bitsLen n<=62:=(bitsLen_le_iff n 62).2 aa;have hp:=wrap_two_pow (bitsLen n) b;go_enter func286,ntmps286
 go_wp2_with (first|(go_at_call 86;refine(a _).mono ?_;rintro e w' ⟨rfl,rfl⟩))
 go_ret;exact⟨rfl,rfl⟩
theorem RD (blk off F a L:Nat) (d:Array Int) (w:World) (u:Holds (Value.int .u32) w blk off d) (k:blk<w.heap.size) (V:a+L<=d.size) (Y:d.size<4611686018427387904) (H:8<=L):
  Calls prog 220 #[.slice (some ⟨blk,off,none⟩) d.size F,.int .i64 a,.int .i64 ((a+L:Nat):Int)] w fun e w'=>
   e=.returned (.tuple #[])/\∃n os,w'=grow (putRow (Value.int .u32) (Sort.ahead w n) blk off (breakPatterns d a (a+L))) os:=by
 rw[breakPatterns_eq d a L H];obtain⟨M,f⟩:∃M:Nat,M=1 <<< bitsLen L:=⟨_,rfl⟩;have T:1<=M:=by rw[f,Nat.one_shiftLeft];exact Nat.two_pow_pos _
 have U:M<=2*L:=by rw[f,Nat.one_shiftLeft];exact two_pow_bitsLen_le aa
 have J:∀w,Calls prog 286 #[.int .i64 (L:Int)] w fun e w'=>e=.returned (.int .u64 (M:Int))/\w'=w:=by rw[f];exact fun w=>Uf L aa w
 rw[<-f];clear f;have A:Hid (Holds (Value.int .u32) w blk off d):=u;have E:Hid (w.alloc (Obj.cells #[.int .u64 (L:Int)] 364)=grow (putRow (Value.int .u32) (Sort.ahead w 0) blk off d) #[Obj.cells #[.int .u64 ((UInt64.ofNat L).toNat:Int)] 364]):=by
  show _=_;rw[show Sort.ahead w 0=w from rfl,qI _ _ _ _ _ u,alloc_eq_grow,show(UInt64.ofNat L).toNat=L from aH]
 clear u;go_enter func220,ntmps220
 go_wp2_with (first|(go_at_call 286;rw[show((a:Int)+(L:Int)-(a:Int))=(L:Int) by omega];refine(J _).mono ?_;rintro e w' ⟨rfl,rfl⟩))
 go_loopw [9] (fun y wr=>∃(t n:Nat) (r:UInt64) (dk:Array Int),y=.int .i64 ((a+L/4*2-1+t:Nat):Int)/\t<=3/\dk.size=d.size/\
   wr=grow (putRow (Value.int .u32) (Sort.ahead w n) blk off dk) #[Obj.cells #[.int .u64 (r.toNat:Int)] 364]/\
   bpRest a L M (a+L/4*2-1) (3-t) t (r,dk)=bpRest a L M (a+L/4*2-1) 3 0 (UInt64.ofNat L,d)) (fun y _=>a+L/4*2+3-(intOf y).toNat)
 case atStart=>exact⟨0,0,UInt64.ofNat L,d,by congr 1;omega,aa,rfl,E.o,rfl⟩
 case round=>
  obtain⟨t,n,r,dk,rfl,ht,v,c,B⟩:=hrel;obtain⟨R,j⟩:∃R:Nat,R=r.toNat:=⟨_,rfl⟩;have D:R<18446744073709551616:=by rw[j];exact r.toNat_lt
  obtain⟨b,i⟩:∃b:Nat,b=xorNextN R:=⟨_,rfl⟩;have Q:b<18446744073709551616:=by rw[i];exact xorNextN_lt R D
  obtain⟨O,h⟩:∃O:Nat,O=b &&& (M-1):=⟨_,rfl⟩;have Z:O<=M-1:=by rw[h];exact Nat.and_le_right
  have S:bits .and .u64 (b:Int) ((M:Int)-1)=(O:Int):=by
   rw[show((M:Int)-1)=((M-1:Nat):Int) by omega,bits_and_u64_nat _ _ Q aa,h]
  obtain⟨G,s⟩:∃G:Nat->Int,∀x,G x=dk[x]! :=⟨fun x=>dk[x]!,fun _=>rfl⟩;have l:(putRow (Value.int .u32) (Sort.ahead w n) blk off dk).heap.size=w.heap.size:=ax;have W:∀x,x<d.size->wr.cell? ⟨blk,off+x,none⟩=some (.int .u32 (G x)):=fun x C=>by
   rw[c,cell?_grow _ _ _ (by rw[l];exact k),s];exact wh _ _ _ _ d dk (jR _ _ _ _ _ _ A.o) v x aa
  have X:∀x,x<d.size->wr.frozen? ⟨blk,off+x,none⟩=false:=fun x C=>by
   rw[c,frozen?_grow _ _ _ (by rw[l];exact k),sV];exact((jR _ _ n _ _ _ A.o) x C).2
  have N:wr.cell? ⟨w.heap.size,0,none⟩=some (.int .u64 (R:Int)):=by rw[c,j,<-l];exact grow_one_cell _ _ _
  have P:wr.frozen? ⟨w.heap.size,0,none⟩=false:=by rw[c,<-l];exact grow_one_frozen _ _ _
  have K:Calls prog 287 #[.pointer (some ⟨w.heap.size,0,none⟩)] wr fun e w'=>e=.returned (.int .u64 (b:Int))/\w'=(wr.setCell ⟨w.heap.size,0,none⟩ (.int .u64 (b:Int))).drewN 3:=by
   rw[i];exact RB _ _ R D wr N P
  have p:Hid (wr=grow (putRow (Value.int .u32) (Sort.ahead w n) blk off dk) #[Obj.cells #[.int .u64 (r.toNat:Int)] 364]):=c;have z:Hid (∀x,G x=dk[x]!):=s;have m:Hid (bpRest a L M (a+L/4*2-1) (3-t) t (r,dk)=bpRest a L M (a+L/4*2-1) 3 0 (UInt64.ofNat L,d)):=B;have g:Hid (b=(xorNext r).toNat/\O=(xorNext r).toNat &&& (M-1)):=by
   have e:b=(xorNext r).toNat:=by rw[i,j,xorNext_toNat]
   exact⟨e,by rw[h,e]⟩
  clear c s B j i h
  go_wp2_with (first|(go_at_call 287;refine K.mono ?_;rintro e w' ⟨rfl,rfl⟩))
  .
   have I:L<=O:=aa;by_cases q:a+L/4*2-1+t=a+(O-L)
   all_goals
    go_region
    all_goals go_wp2
    go_roundw
    case rel=>
     refine⟨t+1,n+4,xorNext r,swp dk (a+L/4*2-1+t) (a+(O-L)),by first|rfl|(congr 1<;>omega),aa,by rw[iq];exact v,?_,?_⟩
     ·(try rw[q])
      rw[p.o,g.o.1];simp only[z.o];exact step_world (Value.int .u32) w n 4 blk off dk _ _ k aa aa _ _ _
     .rw[<-m.o,bp_step a L M _ t r dk (O-L) aa (by rw[<-g.o.2,aO aa])]
    case measure=>exact bZ
  .have I:¬L<=O:=aa;by_cases q:a+L/4*2-1+t=a+O
   all_goals
    go_region
    all_goals go_wp2
    go_roundw
    case rel=>
     refine⟨t+1,n+4,xorNext r,swp dk (a+L/4*2-1+t) (a+O),by first|rfl|(congr 1<;>omega),aa,by rw[iq];exact v,?_,?_⟩
     ·(try rw[q])
      rw[p.o,g.o.1];simp only[z.o];exact step_world (Value.int .u32) w n 4 blk off dk _ _ k aa aa _ _ _
     .rw[<-m.o,bp_step a L M _ t r dk O aa (by rw[<-g.o.2,aN aa])]
    case measure=>exact bZ
  .
   obtain rfl:t=3:=aa
   go_end0
   exact⟨rfl,n,_,by rw[<-m.o,p.o];rfl⟩
theorem VD (blk off c a b:Nat) (d:Array Int) (w:World) (g:Holds (Value.int .u32) w blk off d) (j:blk<w.heap.size) (m:a<=b) (i:b<=d.size) (k:d.size<4611686018427387904):
  Calls prog 220 #[.slice (some ⟨blk,off,none⟩) d.size c,.int .i64 a,.int .i64 b] w fun e w'=>
   e=.returned (.tuple #[])/\∃n os,w'=grow (putRow (Value.int .u32) (Sort.ahead w n) blk off (breakPatterns d a b)) os:=by
 obtain⟨L,rfl⟩:∃L,b=a+L:=⟨b-a,aa⟩;by_cases f:8<=L
 .exact RD blk off c a L d w g j i k f
 .have l:breakPatterns d a (a+L)=d:=by unfold breakPatterns;simp only[Nat.add_sub_cancel_left];rw[aN f]
  rw[l];have h:Hid (w=grow (putRow (Value.int .u32) (Sort.ahead w 0) blk off d) #[]):=by
   show _=_;rw[grow_empty,show Sort.ahead w 0=w from rfl,qI _ _ _ _ _ g]
  go_enter func220,ntmps220;go_wp2
  go_end0
  exact⟨rfl,0,#[],h.o⟩
theorem kE {w:World} {blk off b e n t:Nat} {d:Array Int} (h:Holds (Value.int .u32) w blk off d) (c:b≠blk):Holds (Value.int .u32) (putRow (Value.int .i64) (Sort.ahead w n) b e (one t)) blk off d:=fun j a=>
 ⟨by rw[cell?_putRow_other _ _ _ _ _ _ (Or.inl (jk c))];exact(h j a).1,by rw[sV];exact(h j a).2⟩
theorem JP (d:Array Int) (o:Nat) (q:d.size=o) (blk off p a b g h s:Nat) (w:World) (k:Holds (Value.int .u32) w blk off d) (l:a<d.size) (m:b<d.size)
  (hS:Holds (Value.int .i64) w g h (one s)) (r:s<2^62):
  Calls prog 318 #[.slice (some ⟨blk,off,none⟩) o p,.int .i64 a,.int .i64 b,.pointer (some ⟨g,h,none⟩)] w fun e w'=>
   e=.returned (.tuple #[.int .i64 (order2 ltInt d a b s).1,.int .i64 (order2 ltInt d a b s).2.1])/\∃n,w'=putRow (Value.int .i64) (Sort.ahead w n) g h (one (order2 ltInt d a b s).2.2):=by
 subst q
 replace r:s<4611686018427387904:=aa
 have t:=(k a l).1;have cb:=(k b m).1;have⟨cs,u⟩:=one_cell hS;have i:d[a]! =d[a]:=sZ d a l;have j:d[b]! =d[b]:=sZ d b m;go_enter func318,ntmps318;go_wp2
 go_region_with (go_at_call 224;refine(eO _ _ _).mono ?_;rintro e w' ⟨rfl,rfl⟩)
 all_goals(try go_wp2)
 all_goals first
  |(have f:ltInt d[b] d[a]=true:=by assumption
    have c:order2 ltInt d a b s=(b,a,s+1):=by simp[order2,i,j,f]
    go_ret2;rw[c];refine⟨rfl,1,?_⟩;rw[putRow_ahead,<-one_set hS (s+1)];simp[drew_eq_ahead])
  |(have f:ltInt d[b] d[a]=false:=by assumption
    have c:order2 ltInt d a b s=(a,b,s):=by simp[order2,i,j,f]
    go_ret2;rw[c];refine⟨rfl,1,?_⟩;rw[putRow_ahead,qI _ _ _ _ _ hS];rfl)
theorem TI (d:Array Int) (p:Nat) (q:d.size=p) (blk off h a b c f g s:Nat) (w:World) (i:Holds (Value.int .u32) w blk off d) (l:a<d.size) (m:b<d.size) (o:c<d.size) (j:f≠blk)
  (hS:Holds (Value.int .i64) w f g (one s)) (x:s+3<2^62):
  Calls prog 289 #[.slice (some ⟨blk,off,none⟩) p h,.int .i64 a,.int .i64 b,.int .i64 c,.pointer (some ⟨f,g,none⟩)] w fun e w'=>
   e=.returned (.int .i64 (median ltInt d a b c s).1)/\∃n,w'=putRow (Value.int .i64) (Sort.ahead w n) f g (one (median ltInt d a b c s).2):=by
 subst q;have k:=order2_lt d s l m;have y:=order2_swaps d a b s;have r:=order2_lt d (order2 ltInt d a b s).2.2 k.2 o;have z:=order2_swaps d (order2 ltInt d a b s).2.1 c (order2 ltInt d a b s).2.2;go_enter func289,ntmps289
 go_wp2_with (go_at_call_of 318 (Value.int .i64 (b:Int));refine(JP d _ rfl blk off h a b f g s w i l m hS aa).mono ?_;rintro e w' ⟨rfl,t,rfl⟩)
 go_wp2_with (go_at_call_of 318 (Value.int .i64 (c:Int));refine(JP d _ rfl blk off h (order2 ltInt d a b s).2.1 c f g (order2 ltInt d a b s).2.2 _ (kE i j) k.2 o (holds_one hS) aa).mono ?_;rintro e w' ⟨rfl,u,rfl⟩)
 go_wp2_with (go_at_call_of 318 (Value.int .i64 ((order2 ltInt d a b s).1:Int));refine(JP d _ rfl blk off h (order2 ltInt d a b s).1 (order2 ltInt d (order2 ltInt d a b s).2.1 c (order2 ltInt d a b s).2.2).1 f g (order2 ltInt d (order2 ltInt d a b s).2.1 c (order2 ltInt d a b s).2.2).2.2 _
  (kE (kE i j) j) k.1 r.1 (holds_one (holds_one hS)) aa).mono ?_;rintro e w' ⟨rfl,v,rfl⟩)
 go_ret;refine⟨rfl,t+(u+v),?_⟩;rw[one_one,one_one];rfl
theorem OY (d:Array Int) (g:Nat) (j:d.size=g) (blk off f a b c s:Nat) (w:World) (h:Holds (Value.int .u32) w blk off d) (p:1<=a) (i:a+1<d.size) (m:d.size<2^62) (k:b≠blk)
  (hS:Holds (Value.int .i64) w b c (one s)) (l:s+3<2^62):
  Calls prog 288 #[.slice (some ⟨blk,off,none⟩) g f,.int .i64 a,.pointer (some ⟨b,c,none⟩)] w fun e w'=>
   e=.returned (.int .i64 (medianAdjacent ltInt d a s).1)/\∃n,w'=putRow (Value.int .i64) (Sort.ahead w n) b c (one (medianAdjacent ltInt d a s).2):=by
 subst j
 replace m:d.size<4611686018427387904:=aa
 go_enter func288,ntmps288
 go_wp2_with (go_at_call 289;rw[show((a:Int)-1)=((a-1:Nat):Int) by omega,show((a:Int)+1)=((a+1:Nat):Int) by omega];refine(TI d _ rfl blk off f (a-1) a (a+1) b c s w h aa aa i k hS l).mono ?_;rintro e w' ⟨rfl,o,rfl⟩)
 go_ret;exact⟨rfl,o,rfl⟩
theorem FP (blk off b:Nat) (d:Array Int) (w:World) (p:Holds (Value.int .u32) w blk off d) (q:blk<w.heap.size) (v:d.size<4611686018427387904):
  ∃a:Nat->Nat->World,
   w.alloc (.cells #[.int .i64 0] 3)=a 0 0/\
   (∀N S:Nat,(a N S).cell? ⟨w.heap.size,0,none⟩=some (.int .i64 (S:Int)))/\
   (∀N S:Nat,∃os,a N S=grow (Sort.ahead w N) os)/\
   (∀x s N:Nat,1<=x->x+1<d.size->s+3<4611686018427387904->Calls prog 288 #[.slice (some ⟨blk,off,none⟩) d.size b,.int .i64 (x:Int),.pointer (some ⟨w.heap.size,0,none⟩)] (a N s) fun e w'=>
     e=.returned (.int .i64 ((medianAdjacent ltInt d x s).1:Int))/\∃g,w'=a g (medianAdjacent ltInt d x s).2)/\
   (∀x y z s N:Nat,x<d.size->y<d.size->z<d.size->s+3<4611686018427387904->Calls prog 289 #[.slice (some ⟨blk,off,none⟩) d.size b,.int .i64 (x:Int),.int .i64 (y:Int),.int .i64 (z:Int),.pointer (some ⟨w.heap.size,0,none⟩)] (a N s) fun e w'=>
     e=.returned (.int .i64 ((median ltInt d x y z s).1:Int))/\∃g,w'=a g (median ltInt d x y z s).2):=by
 have f:w.heap.size≠blk:=aa;have m:Holds (Value.int .u32) (w.alloc (.cells #[.int .i64 0] 3)) blk off d:=by rw[alloc_eq_grow];exact holds_grow _ _ _ _ _ _ q p
 have c:Holds (Value.int .i64) (w.alloc (.cells #[.int .i64 0] 3)) w.heap.size 0 (one 0):=fun j r=>by
  obtain rfl:j=0:=aQ r;simp
 refine⟨fun N S=>putRow (Value.int .i64) (Sort.ahead (w.alloc (.cells #[.int .i64 0] 3)) N) w.heap.size 0 (one S),(qI _ _ _ _ _ c).symm,fun N S=>(one_cell (holds_one (n:=N) (t:=S) c)).1,fun N S=>counter_grow w N S,?_,?_⟩
 .intro x s N h i u;refine(OY d _ rfl blk off b x w.heap.size 0 s _ (kE m f) h i aa f (holds_one c) aa).mono ?_;rintro e w' ⟨k,n,l⟩;exact⟨k,N+n,by rw[l,one_one]⟩
 .intro x y z s N h i o u;refine(TI d _ rfl blk off b x y z w.heap.size 0 s _ (kE m f) h i o f (holds_one c) aa).mono ?_;rintro e w' ⟨k,n,l⟩;exact⟨k,N+n,by rw[l,one_one]⟩
theorem OZ (blk off u a b:Nat) (d:Array Int) (w:World) (Q:Holds (Value.int .u32) w blk off d) (ab:blk<w.heap.size) (al:a<b) (am:b<=d.size) (ac:d.size<4611686018427387904):
  Calls prog 221 #[.slice (some ⟨blk,off,none⟩) d.size u,.int .i64 a,.int .i64 b] w fun e w'=>
   e=.returned (.tuple #[.int .i64 (choosePivot ltInt d a b).1,.int .i64 (hintCode (choosePivot ltInt d a b).2)])/\∃n os,w'=grow (Sort.ahead w n) os:=by
 obtain⟨j,R,ag,O,x,C⟩:=FP blk off u d w Q ab ac;clear Q;rw[choosePivot_eq];obtain⟨i,G⟩:∃i:Nat,i=a+(b-a)/4*1:=⟨_,rfl⟩;obtain⟨g,y⟩:∃g:Nat,g=a+(b-a)/4*2:=⟨_,rfl⟩;obtain⟨K,H⟩:∃K:Nat,K=a+(b-a)/4*3:=⟨_,rfl⟩;have ah:((a:Int)+((b:Int)-(a:Int))/4)=(i:Int):=aa;have ai:((a:Int)+((b:Int)-(a:Int))/4*2)=(g:Int):=aa;have aj:((a:Int)+((b:Int)-(a:Int))/4*3)=(K:Int):=aa;by_cases M:b-a>=8
 .by_cases P:b-a>=50
  .
   obtain⟨z,r,k⟩:∃z r,medianAdjacent ltInt d i 0=(z,r):=⟨_,_,rfl⟩;obtain⟨j1,t,l⟩:∃j1 t,medianAdjacent ltInt d g r=(j1,t):=⟨_,_,rfl⟩;obtain⟨A,B,F⟩:∃A B,medianAdjacent ltInt d K t=(A,B):=⟨_,_,rfl⟩;obtain⟨p,s,v⟩:∃p s,median ltInt d z j1 A B=(p,s):=⟨_,_,rfl⟩;have q:rawPivot ltInt d a b=(p,s):=by simp only[rawPivot,aO M,aO P,<-G,<-y,<-H,k,l,F,v]
   have m1:=medianAdjacent_mem ltInt d i 0;rw[k]at m1;have m2:=medianAdjacent_mem ltInt d g r;rw[l]at m2;have m3:=medianAdjacent_mem ltInt d K t;rw[F]at m3;have T:=medianAdjacent_count ltInt d i 0;rw[k]at T;have U:=medianAdjacent_count ltInt d g r;rw[l]at U;have V:=medianAdjacent_count ltInt d K t;rw[F]at V;simp only[]at m1 m2 m3 T U V;have X:Calls prog 288 #[.slice (some ⟨blk,off,none⟩) d.size u,.int .i64 (i:Int),.pointer (some ⟨w.heap.size,0,none⟩)] (j 0 0) fun e w'=>e=.returned (.int .i64 (z:Int))/\∃m,w'=j m r:=by
    have h:=x i 0 0 aa aa aa;rw[k]at h;exact h
   have Y:∀N,Calls prog 288 #[.slice (some ⟨blk,off,none⟩) d.size u,.int .i64 (g:Int),.pointer (some ⟨w.heap.size,0,none⟩)] (j N r) fun e w'=>e=.returned (.int .i64 (j1:Int))/\∃m,w'=j m t:=fun N=>by
    have h:=x g r N aa aa aa;rw[l]at h;exact h
   have Z:∀N,Calls prog 288 #[.slice (some ⟨blk,off,none⟩) d.size u,.int .i64 (K:Int),.pointer (some ⟨w.heap.size,0,none⟩)] (j N t) fun e w'=>e=.returned (.int .i64 (A:Int))/\∃m,w'=j m B:=fun N=>by
    have h:=x K t N aa aa aa;rw[F]at h;exact h
   have L:∀N,Calls prog 289 #[.slice (some ⟨blk,off,none⟩) d.size u,.int .i64 (z:Int),.int .i64 (j1:Int),.int .i64 (A:Int),.pointer (some ⟨w.heap.size,0,none⟩)] (j N B) fun e w'=>e=.returned (.int .i64 (p:Int))/\∃m,w'=j m s:=fun N=>by
    have h:=C z j1 A B N aa aa aa aa;rw[v]at h;exact h
   rw[q];obtain⟨c,f⟩:∃c:Int,c=hintCode (hintOf s):=⟨_,rfl⟩;have o:s=0->c=1:=fun h=>by rw[f,h];rfl
   have I:s=12->c=2:=fun h=>by rw[f,h];rfl
   have J:s≠0->s≠12->c=0:=fun k l=>by rw[f];unfold hintOf;rw[aN k,aN l];rfl
   show Calls prog 221 _ w fun e w'=>e=.returned (.tuple #[.int .i64 (p:Int),.int .i64 (hintCode (hintOf s))])/\∃n os,w'=grow (Sort.ahead w n) os;rw[<-f];clear f q;clear k l F v x C G y H m1 m2 m3;go_enter func221,ntmps221
   go_wp2_with (first
    |(go_at_call_has 288 (Value.int .i64 (i:Int));refine X.mono ?_;rintro e w' ⟨rfl,ad,rfl⟩)
    |(go_at_call_has 288 (Value.int .i64 (g:Int));refine(Y _).mono ?_;rintro e w' ⟨rfl,ae,rfl⟩)
    |(go_at_call_has 288 (Value.int .i64 (K:Int));refine(Z _).mono ?_;rintro e w' ⟨rfl,af,rfl⟩)
    |(go_at_call 289;refine(L _).mono ?_;rintro e w' ⟨rfl,W,rfl⟩))
   all_goals
    go_ret2;refine⟨?_,_,O _ _⟩
    first
     |(have D:(s:Int)=0:=of_beq_int (by assumption)
       rw[o aa];rfl)
     |(have E:(s:Int)=12:=of_beq_int (by assumption)
       rw[I aa];rfl)
     |(have D:(s:Int)≠0:=of_bne_int (by assumption)
       have E:(s:Int)≠12:=of_bne_int (by assumption);rw[J aa aa];rfl)
     |(rw[o aa];rfl)
  .
   obtain⟨p,s,v⟩:∃p s,median ltInt d i g K 0=(p,s):=⟨_,_,rfl⟩;have q:rawPivot ltInt d a b=(p,s):=by simp only[rawPivot,aO M,aN P,<-G,<-y,<-H,v]
   have L:Calls prog 289 #[.slice (some ⟨blk,off,none⟩) d.size u,.int .i64 (i:Int),.int .i64 (g:Int),.int .i64 (K:Int),.pointer (some ⟨w.heap.size,0,none⟩)] (j 0 0) fun e w'=>e=.returned (.int .i64 (p:Int))/\∃m,w'=j m s:=by
    have h:=C i g K 0 0 aa aa aa aa;rw[v]at h;exact h
   rw[q];obtain⟨c,f⟩:∃c:Int,c=hintCode (hintOf s):=⟨_,rfl⟩;have o:s=0->c=1:=fun h=>by rw[f,h];rfl
   have I:s=12->c=2:=fun h=>by rw[f,h];rfl
   have J:s≠0->s≠12->c=0:=fun k l=>by rw[f];unfold hintOf;rw[aN k,aN l];rfl
   show Calls prog 221 _ w fun e w'=>e=.returned (.tuple #[.int .i64 (p:Int),.int .i64 (hintCode (hintOf s))])/\∃n os,w'=grow (Sort.ahead w n) os;rw[<-f];clear f q;clear v x C G y H;go_enter func221,ntmps221
   go_wp2_with (first|(go_at_call 289;refine L.mono ?_;rintro e w' ⟨rfl,W,rfl⟩))
   all_goals
    go_ret2;refine⟨?_,_,O _ _⟩
    first
     |(have D:(s:Int)=0:=of_beq_int (by assumption)
       rw[o aa];rfl)
     |(have E:(s:Int)=12:=of_beq_int (by assumption)
       rw[I aa];rfl)
     |(have D:(s:Int)≠0:=of_bne_int (by assumption)
       have E:(s:Int)≠12:=of_bne_int (by assumption);rw[J aa aa];rfl)
     |(rw[o aa];rfl)
 .
  obtain⟨p,hp⟩:∃p:Nat,p=g:=⟨_,rfl⟩;obtain⟨s,S⟩:∃s:Nat,s=0:=⟨_,rfl⟩;have q:rawPivot ltInt d a b=(p,s):=by simp only[rawPivot,aN M,<-y,hp,S]
  rw[q];obtain⟨c,f⟩:∃c:Int,c=hintCode (hintOf s):=⟨_,rfl⟩;have o:s=0->c=1:=fun h=>by rw[f,h];rfl
  have I:s=12->c=2:=fun h=>by rw[f,h];rfl
  have J:s≠0->s≠12->c=0:=fun k l=>by rw[f];unfold hintOf;rw[aN k,aN l];rfl
  show Calls prog 221 _ w fun e w'=>e=.returned (.tuple #[.int .i64 (p:Int),.int .i64 (hintCode (hintOf s))])/\∃n os,w'=grow (Sort.ahead w n) os;rw[<-f];clear f q;subst hp;clear x C G y H;have ak:w.alloc (.cells #[.int .i64 0] 3)=j 0 s:=by rw[S];exact R
  clear R;go_enter func221,ntmps221;go_wp2
  all_goals
   go_ret2;refine⟨?_,_,O _ _⟩
   first
    |(have D:(s:Int)=0:=of_beq_int (by assumption)
      rw[o aa];rfl)
    |(have E:(s:Int)=12:=of_beq_int (by assumption)
      rw[I aa];rfl)
    |(have D:(s:Int)≠0:=of_bne_int (by assumption)
      have E:(s:Int)≠12:=of_bne_int (by assumption);rw[J aa aa];rfl)
    |(rw[o aa];rfl)
def Row (blk off:Nat) (w:World) (dk:Array Int) (wr:World):Prop:=∃n,wr=putRow xg (Sort.ahead w n) blk off dk
section
variable {blk off:Nat} {w wr:World} {d dk:Array Int}
theorem Row.self (h:Holds xg w blk off d):Row blk off w d w:=⟨0,(qI _ _ _ _ _ h).symm⟩
theorem Row.holds (a:Row blk off w dk wr) (h:Holds xg w blk off d) (b:dk.size=d.size):Holds xg wr blk off dk:=by
 obtain⟨n,rfl⟩:=a;exact holds_putRow _ _ _ _ _ _ (jR _ _ _ _ _ _ h) b
theorem Row.cells (a:Row blk off w dk wr) (h:Holds xg w blk off d) (b:dk.size=d.size) (t:Nat) (ht:t<d.size):wr.cell? ⟨blk,off+t,none⟩=some (.int .u32 dk[t]!):=(a.holds h b t aa).1
theorem Row.fz (a:Row blk off w dk wr) (h:Holds xg w blk off d) (b:dk.size=d.size) (t:Nat) (ht:t<d.size):wr.frozen? ⟨blk,off+t,none⟩=false:=(a.holds h b t aa).2
theorem Row.drewN (a:Row blk off w dk wr) (q:Nat):Row blk off w dk (wr.drewN q):=by
 obtain⟨n,rfl⟩:=a;exact⟨n+q,kX _ _ _ _ _ _ _⟩
theorem Row.drew (a:Row blk off w dk wr):Row blk off w dk wr.drew:=a.drewN 1
theorem Row.swap (c:Row blk off w dk wr) {j k:Nat} (a:j<dk.size) (b:k<dk.size):Row blk off w (swp dk j k) ((wr.setCell ⟨blk,off+j,none⟩ (.int .u32 dk[k]!)).setCell ⟨blk,off+k,none⟩ (.int .u32 dk[j]!)):=by
 obtain⟨n,rfl⟩:=c;exact⟨n,putRow_swp xg _ _ _ _ _ _ a b⟩
theorem Row.trans {w':World} {d':Array Int} (b:Row blk off w dk wr) (c:d'.size=dk.size) (a:Row blk off wr d' w'):Row blk off w d' w':=by
 obtain⟨n,rfl⟩:=b;obtain⟨m,rfl⟩:=a;exact⟨n+m,by rw[putRow_ahead_putRow _ _ _ _ _ _ _ _ c]⟩
end
theorem JQ (blk off z E:Nat) (d:Array Int) (I:d.size=z) (lo hi first:Nat) (w:World) (D:Holds xg w blk off d) (J:lo<=hi) (L:first+hi<=z) (N:z<4611686018427387904):
  Calls prog 285 #[.slice (some ⟨blk,off,none⟩) z E,.int .i64 lo,.int .i64 hi,.int .i64 first] w fun e w'=>e=.returned (.tuple #[])/\Row blk off w (siftDown ltInt hi first lo d) w':=by
 subst I;have f:=af D;clear D;go_enter func285,ntmps285;go_wp2
 go_loopw [8,9] (fun A _ wr=>∃(root:Nat) (dk:Array Int),A=.int .i64 root/\root<=hi/\Hid (dk.size=d.size)/\Hid (Row blk off w dk wr)/\Hid (siftDown ltInt hi first root dk=siftDown ltInt hi first lo d)) (fun A _ _=>hi-(intOf A).toNat)
 case atStart=>exact⟨lo,d,rfl,J,rfl,Row.self f.o,rfl⟩
 case round=>
  obtain⟨root,dk,rfl,M,b,q,r⟩:=hrel;obtain⟨G,C⟩:∃G:Nat->Int,∀t,G t=dk[t]! :=⟨fun t=>dk[t]!,fun _=>rfl⟩;have a:=af C;clear C;have i:∀t,t<d.size->wr.cell? ⟨blk,off+t,none⟩=some (.int .u32 (G t)):=fun t ht=>by rw[a.o];exact q.o.cells f.o b.o t ht
  have j:∀t,t<d.size->wr.frozen? ⟨blk,off+t,none⟩=false:=fun t ht=>q.o.fz f.o b.o t ht;by_cases B:hi<=2*root+1
  .have F:(hi:Int)<=2*(root:Int)+1:=aa;clear i j;go_wp2
   first
   |(refine kC (ll rfl _ _ _) rfl ?_;exact⟨rfl,by rw[<-r.o,sd_end ltInt dk B];exact q.o⟩)
   |(go_end0;exact⟨rfl,by rw[<-r.o,sd_end ltInt dk B];exact q.o⟩)
  .have F:¬((hi:Int)<=2*(root:Int)+1):=aa;by_cases y:2*root+2<hi
   .have H:decide (2*(root:Int)+1+1<(hi:Int))=true:=aH;have K:2*(root:Int)+1+1<(hi:Int):=aa;go_wp2
    go_big_quiet ((go_at_call 224;exact gV (eO _ _ _)))
    go_wp2
    .have s:ltInt (G (first+(2*root+1))) (G (first+(2*root+1)+1))=true:=by assumption
     rw[a.o,a.o]at s;have u:=af s;clear s;obtain⟨g,l⟩:∃x,x=wr.drewN nq:=⟨_,rfl⟩;have c:Hid (Row blk off w dk g):=by rw[l];exact q.o.drewN nq
     rw[<-l];clear l i j q;have i:∀t,t<d.size->g.cell? ⟨blk,off+t,none⟩=some (.int .u32 (G t)):=fun t ht=>by rw[a.o];exact c.o.cells f.o b.o t ht
     have j:∀t,t<d.size->g.frozen? ⟨blk,off+t,none⟩=false:=fun t ht=>c.o.fz f.o b.o t ht;go_wp2;revert nq;intro _
     go_big_quiet ((go_at_call 224;exact gV (eO _ _ _)))
     go_wp2
     .have hS:ltInt (G (first+root)) (G (first+(2*root+1+1)))=false:=by
       have n:(!ltInt (G (first+root)) (G (first+(2*root+1+1))))=true:=by assumption
       simpa using n
      rw[a.o,a.o]at hS
      (try simp only[Exit.inBlock,Exit.then])
      refine kC (ll rfl _ _ _) rfl ?_;exact⟨rfl,by rw[<-r.o,sd_right_stop ltInt dk y u.o hS];exact c.o.drewN nq⟩
     .have hS:ltInt (G (first+root)) (G (first+(2*root+1+1)))=true:=by
       have n:(!ltInt (G (first+root)) (G (first+(2*root+1+1))))=false:=by assumption
       simpa using n
      rw[a.o,a.o]at hS;have v:=af hS;clear hS;obtain⟨p,m⟩:∃x,x=g.drewN nq:=⟨_,rfl⟩;have k:Hid (Row blk off w dk p):=by rw[m];exact c.o.drewN nq
      rw[<-m];clear m i j c;have i:∀t,t<d.size->p.cell? ⟨blk,off+t,none⟩=some (.int .u32 (G t)):=fun t ht=>by rw[a.o];exact k.o.cells f.o b.o t ht
      have j:∀t,t<d.size->p.frozen? ⟨blk,off+t,none⟩=false:=fun t ht=>k.o.fz f.o b.o t ht;go_region
      all_goals go_wp2
      all_goals go_roundw
      case rel=>exact⟨2*root+1+1,swp dk (first+root) (first+(2*root+1+1)),by go_num,aa,by show _=_;rw[iq];exact b.o,by
       show Row _ _ _ _ _;rw[a.o,a.o];exact((k.o).swap (by rw[b.o];omega) (by rw[b.o];omega)).drew,by show _=_;rw[<-r.o,sd_right_go ltInt dk y u.o v.o]⟩
      case measure=>exact bZ
    .have s:ltInt (G (first+(2*root+1))) (G (first+(2*root+1)+1))=false:=by assumption
     rw[a.o,a.o]at s;have u:=af s;clear s;obtain⟨g,l⟩:∃x,x=wr.drewN nq:=⟨_,rfl⟩;have c:Hid (Row blk off w dk g):=by rw[l];exact q.o.drewN nq
     rw[<-l];clear l i j q;have i:∀t,t<d.size->g.cell? ⟨blk,off+t,none⟩=some (.int .u32 (G t)):=fun t ht=>by rw[a.o];exact c.o.cells f.o b.o t ht
     have j:∀t,t<d.size->g.frozen? ⟨blk,off+t,none⟩=false:=fun t ht=>c.o.fz f.o b.o t ht;go_wp2;revert nq;intro _
     go_big_quiet ((go_at_call 224;exact gV (eO _ _ _)))
     go_wp2
     .have hS:ltInt (G (first+root)) (G (first+(2*root+1)))=false:=by
       have n:(!ltInt (G (first+root)) (G (first+(2*root+1))))=true:=by assumption
       simpa using n
      rw[a.o,a.o]at hS
      (try simp only[Exit.inBlock,Exit.then])
      refine kC (ll rfl _ _ _) rfl ?_;exact⟨rfl,by rw[<-r.o,sd_left_stop ltInt dk aa (fun _=>u.o) hS];exact c.o.drewN nq⟩
     .have hS:ltInt (G (first+root)) (G (first+(2*root+1)))=true:=by
       have n:(!ltInt (G (first+root)) (G (first+(2*root+1))))=false:=by assumption
       simpa using n
      rw[a.o,a.o]at hS;have v:=af hS;clear hS;obtain⟨p,m⟩:∃x,x=g.drewN nq:=⟨_,rfl⟩;have k:Hid (Row blk off w dk p):=by rw[m];exact c.o.drewN nq
      rw[<-m];clear m i j c;have i:∀t,t<d.size->p.cell? ⟨blk,off+t,none⟩=some (.int .u32 (G t)):=fun t ht=>by rw[a.o];exact k.o.cells f.o b.o t ht
      have j:∀t,t<d.size->p.frozen? ⟨blk,off+t,none⟩=false:=fun t ht=>k.o.fz f.o b.o t ht;go_region
      all_goals go_wp2
      all_goals go_roundw
      case rel=>exact⟨2*root+1,swp dk (first+root) (first+(2*root+1)),by go_num,aa,by show _=_;rw[iq];exact b.o,by
       show Row _ _ _ _ _;rw[a.o,a.o];exact((k.o).swap (by rw[b.o];omega) (by rw[b.o];omega)).drew,by show _=_;rw[<-r.o,sd_left_go ltInt dk aa (fun _=>u.o) v.o]⟩
      case measure=>exact bZ
   .have H:decide (2*(root:Int)+1+1<(hi:Int))=false:=FM aa;go_wp2
    go_big_quiet ((go_at_call 224;exact gV (eO _ _ _)))
    go_wp2;obtain⟨g,l⟩:∃x,x=wr.drewN nq:=⟨_,rfl⟩;have c:Hid (Row blk off w dk g):=by rw[l];exact q.o.drewN nq
    rw[<-l];clear l i j q;have i:∀t,t<d.size->g.cell? ⟨blk,off+t,none⟩=some (.int .u32 (G t)):=fun t ht=>by rw[a.o];exact c.o.cells f.o b.o t ht
    have j:∀t,t<d.size->g.frozen? ⟨blk,off+t,none⟩=false:=fun t ht=>c.o.fz f.o b.o t ht;go_wp2;revert nq;intro _
    go_big_quiet ((go_at_call 224;exact gV (eO _ _ _)))
    go_wp2
    .have hS:ltInt (G (first+root)) (G (first+(2*root+1)))=false:=by
      have n:(!ltInt (G (first+root)) (G (first+(2*root+1))))=true:=by assumption
      simpa using n
     rw[a.o,a.o]at hS
     (try simp only[Exit.inBlock,Exit.then])
     refine kC (ll rfl _ _ _) rfl ?_;exact⟨rfl,by rw[<-r.o,sd_left_stop ltInt dk aa (fun h=>absurd h y) hS];exact c.o.drewN nq⟩
    .have hS:ltInt (G (first+root)) (G (first+(2*root+1)))=true:=by
      have n:(!ltInt (G (first+root)) (G (first+(2*root+1))))=false:=by assumption
      simpa using n
     rw[a.o,a.o]at hS;have v:=af hS;clear hS;obtain⟨p,m⟩:∃x,x=g.drewN nq:=⟨_,rfl⟩;have k:Hid (Row blk off w dk p):=by rw[m];exact c.o.drewN nq
     rw[<-m];clear m i j c;have i:∀t,t<d.size->p.cell? ⟨blk,off+t,none⟩=some (.int .u32 (G t)):=fun t ht=>by rw[a.o];exact k.o.cells f.o b.o t ht
     have j:∀t,t<d.size->p.frozen? ⟨blk,off+t,none⟩=false:=fun t ht=>k.o.fz f.o b.o t ht;go_region
     all_goals go_wp2
     all_goals go_roundw
     case rel=>exact⟨2*root+1,swp dk (first+root) (first+(2*root+1)),by go_num,aa,by show _=_;rw[iq];exact b.o,by
      show Row _ _ _ _ _;rw[a.o,a.o];exact((k.o).swap (by rw[b.o];omega) (by rw[b.o];omega)).drew,by show _=_;rw[<-r.o,sd_left_go ltInt dk aa (fun h=>absurd h y) v.o]⟩
     case measure=>exact bZ
theorem mU (hi F root:Nat) (d:Array Int):(siftDown ltInt hi F root d).size=d.size:=size_siftDown ltInt hi F _ root d (aA _)
theorem Ug (blk off u s:Nat) (d:Array Int) (O:d.size=u) (a b:Nat) (w:World) (F:Holds xg w blk off d) (N:a<=b) (U:b<=u) (A:u<4611686018427387904):
  Calls prog 219 #[.slice (some ⟨blk,off,none⟩) u s,.int .i64 a,.int .i64 b] w fun e w'=>e=.returned (.tuple #[])/\Row blk off w (heapSort ltInt d a b) w':=by
 subst O;have n:=af F;clear F;have Q:=half_start N;go_enter func219,ntmps219;go_wp2
 go_loopw [9] (fun D wr=>∃(z:Int) (k:Nat) (dk:Array Int),D=.int .i64 z/\z=(k:Int)-1/\k<=(b-a-1)/2+1/\Hid (dk.size=d.size)/\Hid (Row blk off w dk wr)/\Hid (heapBuild ltInt (b-a) a k dk=heapBuild ltInt (b-a) a ((b-a-1)/2+1) d)) (fun D _=>(intOf D+1).toNat)
 case atStart=>exact⟨((b-a-1:Nat):Int)/2,(b-a-1)/2+1,d,rfl,aa,aA _,rfl,Row.self n.o,rfl⟩
 case round=>
  obtain⟨z,k,dk,rfl,q,y,c,g,i⟩:=hrel;clear Q;cases k with
  |succ k=>
   obtain rfl:z=(k:Int):=aa;clear q;have C:=JQ blk off d.size s dk c.o k (b-a) a wr (g.o.holds n.o c.o) aa aa A;rw[show(((b-a:Nat)):Int)=(b:Int)-(a:Int) by omega]at C;have h:=af C;clear C
   go_wp2_with fail
   refine h.o.mono ?_;rintro e w2 ⟨rfl,P⟩;have K:=af (g.o.trans (mU _ _ _ _) P);go_wp2;go_roundw
   case rel=>exact⟨(k:Int)-1,k,siftDown ltInt (b-a) a k dk,by go_num,rfl,aa,by show _=_;rw[mU];exact c.o,K,i.o⟩
   case measure=>first|(simp[intOf];done)|(simp[intOf];omega)
  |zero=>
   obtain rfl:z=-1:=aa;clear q y;have J:Hid (heapSort ltInt d a b=heapPop ltInt a (b-a) dk):=by
    show _=_;unfold heapSort;rw[<-i.o];rfl
   clear i;obtain⟨w1,L⟩:∃x,x=wr:=⟨_,rfl⟩;subst L;go_wp2
   go_loopw [10] (fun B wr=>∃(z:Int) (k:Nat) (f:Array Int),B=.int .i64 z/\z=(k:Int)-1/\k<=b-a/\Hid (f.size=d.size)/\Hid (Row blk off w f wr)/\Hid (heapPop ltInt a k f=heapPop ltInt a (b-a) dk)) (fun B _=>(intOf B+1).toNat)
   case atStart=>exact⟨(b:Int)-(a:Int)-1,b-a,dk,rfl,aa,aA _,c,g,rfl⟩
   case round=>
    clear c g;obtain⟨z,k,f,rfl,q,y,c,g,i⟩:=hrel;cases k with
    |zero=>
     obtain rfl:z=-1:=aa;clear q y;go_wp2
     go_end0
     exact⟨rfl,by rw[J.o,<-i.o];exact g.o⟩
    |succ k=>
     obtain rfl:z=(k:Int):=aa;clear q;obtain⟨G,E⟩:∃G:Nat->Int,∀t,G t=f[t]! :=⟨fun t=>f[t]!,fun _=>rfl⟩;have r:=af E;clear E;have H:∀t,t<d.size->wr.cell? ⟨blk,off+t,none⟩=some (.int .u32 (G t)):=fun t ht=>by rw[r.o];exact g.o.cells n.o c.o t ht
     have I:∀t,t<d.size->wr.frozen? ⟨blk,off+t,none⟩=false:=fun t ht=>g.o.fz n.o c.o t ht;have R:a+k<d.size:=aa;have S:a<d.size:=aa;have V:k<b-a:=aa;by_cases M:k=0
     .subst M;go_wp2;go_region;have l:=af (g.o.swap (j:=a) (k:=a) (by rw[c.o];omega) (by rw[c.o];omega)).drew;rw[<-r.o]at l;clear H I;generalize((wr.setCell ⟨blk,off+a,none⟩ (.int .u32 (G a))).setCell ⟨blk,off+a,none⟩ (.int .u32 (G a))).drew=w2 at*;have m:(swp f a a).size=d.size:=by rw[iq];exact c.o
      have h:=af (JQ blk off d.size s (swp f a a) m 0 0 a w2 (l.o.holds n.o m) aa aa A);clear m
      go_wp2_with fail
      refine h.o.mono ?_;rintro e w3 ⟨rfl,p⟩;have v:=af (l.o.trans (mU _ _ _ _) p);clear p h;go_wp2;go_roundw
      case rel=>exact⟨-1,0,siftDown ltInt 0 a 0 (swp f a a),by go_num,rfl,aa,by show _=_;rw[mU,iq];exact c.o,v,i.o⟩
      case measure=>first|(simp[intOf];done)|(simp[intOf];omega)
     .have T:a<a+k:=aa;go_wp2;go_region;have l:=af (g.o.swap (j:=a) (k:=a+k) (by rw[c.o];omega) (by rw[c.o];omega)).drew;rw[<-r.o,<-r.o]at l;clear H I;generalize((wr.setCell ⟨blk,off+a,none⟩ (.int .u32 (G (a+k)))).setCell ⟨blk,off+(a+k),none⟩ (.int .u32 (G a))).drew=w2 at*;have m:(swp f a (a+k)).size=d.size:=by rw[iq];exact c.o
      have h:=af (JQ blk off d.size s (swp f a (a+k)) m 0 k a w2 (l.o.holds n.o m) aa aa A);clear m
      go_wp2_with fail
      refine h.o.mono ?_;rintro e w3 ⟨rfl,p⟩;have v:=af (l.o.trans (mU _ _ _ _) p);clear p h;go_wp2;go_roundw
      case rel=>exact⟨(k:Int)-1,k,siftDown ltInt k a 0 (swp f a (a+k)),by go_num,rfl,aa,by show _=_;rw[mU,iq];exact c.o,v,i.o⟩
      case measure=>first|(simp[intOf];done)|(simp[intOf];omega)
theorem FQ (i j:Nat) (d:Array Int) (h:¬i<j):reverseLoop i j d=d:=by rw[reverseLoop,aN h]
theorem JR (i j:Nat) (d:Array Int) (h:i<j):reverseLoop i j d=reverseLoop (i+1) (j-1) (swp d i j):=by rw[reverseLoop,aO h]
theorem VE (blk off l x:Nat) (d:Array Int) (E:d.size=l) (a b:Nat) (w:World) (v:Holds xg w blk off d) (H:a<=b) (J:b<=l) (L:l<4611686018427387904):
  Calls prog 222 #[.slice (some ⟨blk,off,none⟩) l x,.int .i64 a,.int .i64 b] w fun e w'=>e=.returned (.tuple #[])/\Row blk off w (reverseRange d a b) w':=by
 subst E;have n:=af v;clear v;go_enter func222,ntmps222;go_wp2
 go_loopw [6,7] (fun p q wr=>∃(i:Nat) (c:Int) (dk:Array Int),p=.int .i64 i/\q=.int .i64 c/\-1<=c/\a<=i/\(c<a->c=(a:Int)-1/\i=a/\b=a)/\c<(d.size:Int)/\Hid (dk.size=d.size)/\Hid (Row blk off w dk wr)/\Hid (reverseLoop i c.toNat dk=reverseRange d a b)) (fun p q _=>(intOf q-intOf p).toNat)
 case atStart=>exact⟨a,(b:Int)-1,d,rfl,rfl,aa,aA _,fun h=>⟨aa,rfl,aa⟩,aa,rfl,Row.self n.o,by
  show _=_;unfold reverseRange;rw[show((b:Int)-1).toNat=b-1 by omega]⟩
 case round=>
  obtain⟨i,c,dk,rfl,rfl,B,I,C,D,f,g,r⟩:=hrel;by_cases F:(i:Int)<c
  .obtain⟨j,rfl⟩:∃j:Nat,c=(j:Int):=⟨c.toNat,aa⟩;have A:i<j:=aa;have K:j<d.size:=aa;obtain⟨G,u⟩:∃G:Nat->Int,∀t,G t=dk[t]! :=⟨fun t=>dk[t]!,fun _=>rfl⟩;have m:=af u;clear u C B D F;have y:∀t,t<d.size->wr.cell? ⟨blk,off+t,none⟩=some (.int .u32 (G t)):=fun t ht=>by rw[m.o];exact g.o.cells n.o f.o t ht
   have z:∀t,t<d.size->wr.frozen? ⟨blk,off+t,none⟩=false:=fun t ht=>g.o.fz n.o f.o t ht;go_wp2;go_region;have s:=af (g.o.swap (j:=i) (k:=j) (by rw[f.o];omega) (by rw[f.o];omega)).drew;rw[<-m.o,<-m.o]at s;clear y z;generalize((wr.setCell ⟨blk,off+i,none⟩ (.int .u32 (G j))).setCell ⟨blk,off+j,none⟩ (.int .u32 (G i))).drew=w2 at*;go_wp2;go_roundw
   case rel=>exact⟨i+1,(j:Int)-1,swp dk i j,by go_num,rfl,aa,aa,fun h=>aa,aa,by show _=_;rw[iq];exact f.o,s,by
    show _=_;rw[<-r.o,show((j:Int)-1).toNat=j-1 by omega,iD,JR i j dk A]⟩
   case measure=>exact bZ
  .go_wp2
   go_end0
   exact⟨rfl,by rw[<-r.o,FQ _ _ _ aa];exact g.o⟩
structure El:Prop where
 ins:∀(blk off cap a b:Nat) (d:Array Int) (w:World),Holds xg w blk off d->a<=b->b<=d.size->d.size<4611686018427387904->
  Calls prog 218 #[.slice (some ⟨blk,off,none⟩) d.size cap,.int .i64 a,.int .i64 b] w fun e w'=>e=.returned (.tuple #[])/\∃n,w'=putRow xg (Sort.ahead w n) blk off (insertionSort ltInt d a b)
 brk:∀(blk off cap a b:Nat) (d:Array Int) (w:World),Holds xg w blk off d->blk<w.heap.size->a<=b->b<=d.size->d.size<4611686018427387904->
  Calls prog 220 #[.slice (some ⟨blk,off,none⟩) d.size cap,.int .i64 a,.int .i64 b] w fun e w'=>e=.returned (.tuple #[])/\∃n os,w'=grow (putRow xg (Sort.ahead w n) blk off (breakPatterns d a b)) os
 piv:∀(blk off cap a b:Nat) (d:Array Int) (w:World),Holds xg w blk off d->blk<w.heap.size->a<b->b<=d.size->d.size<4611686018427387904->
  Calls prog 221 #[.slice (some ⟨blk,off,none⟩) d.size cap,.int .i64 a,.int .i64 b] w fun e w'=>e=.returned (.tuple #[.int .i64 (choosePivot ltInt d a b).1,.int .i64 (hintCode (choosePivot ltInt d a b).2)])/\∃n os,w'=grow (Sort.ahead w n) os
 par:∀(blk off cap a b:Nat) (d:Array Int) (w:World),Holds xg w blk off d->a<b->b<=d.size->d.size<4611686018427387904->
  Calls prog 223 #[.slice (some ⟨blk,off,none⟩) d.size cap,.int .i64 a,.int .i64 b] w fun e w'=>e=.returned (.bool (partialInsertionSort ltInt d a b).2)/\∃n,w'=putRow xg (Sort.ahead w n) blk off (partialInsertionSort ltInt d a b).1
 peq:∀(blk off cap a b pivot:Nat) (d:Array Int) (w:World),Holds xg w blk off d->a<=pivot->pivot<b->b<=d.size->d.size<4611686018427387904->
  Calls prog 225 #[.slice (some ⟨blk,off,none⟩) d.size cap,.int .i64 a,.int .i64 b,.int .i64 pivot] w fun e w'=>e=.returned (.int .i64 (partitionEqual ltInt d a b pivot).1)/\∃n,w'=putRow xg (Sort.ahead w n) blk off (partitionEqual ltInt d a b pivot).2
 prt:∀(blk off cap a b pivot:Nat) (d:Array Int) (w:World),Holds xg w blk off d->a<=pivot->pivot<b->b<=d.size->d.size<4611686018427387904->
  Calls prog 226 #[.slice (some ⟨blk,off,none⟩) d.size cap,.int .i64 a,.int .i64 b,.int .i64 pivot] w fun e w'=>e=.returned (.tuple #[.int .i64 (partition ltInt d a b pivot).1,.bool (partition ltInt d a b pivot).2.1])/\∃n,w'=putRow xg (Sort.ahead w n) blk off (partition ltInt d a b pivot).2.2
theorem VF (C:El) (S:Plain13):∀(N blk off q a b limit:Nat) (d:Array Int) (w:World),b-a<N->Holds xg w blk off d->blk<w.heap.size->a<=b->b<=d.size->d.size<4611686018427387904->limit<4611686018427387904->Below ltInt a b d->
  Calls prog 149 #[.slice (some ⟨blk,off,none⟩) d.size q,.int .i64 a,.int .i64 b,.int .i64 limit] w fun e w'=>e=.returned (.tuple #[])/\At xg w blk off (pdq ltInt d a b limit true true) w':=by
 intro N
 induction N with
 |zero=>intro _ _ _ _ _ _ _ _ h;exact absurd h (kz _)
 |succ N ih=>
  intro blk off q a b limit d w a8 r l aN aO bi aB aH;go_enter func149,ntmps149;go_wp2
  go_loopg [1,2,3,8,9] (b-a) (fun k u B p a2 a4 wr=>∃(a' f g:Nat) (wb wp:Bool) (dk:Array Int),u=.int .i64 a'/\B=.int .i64 f/\p=.int .i64 g/\a2=.bool wb/\a4=.bool wp/\
   a'<=f/\f<=d.size/\f-a'<=k/\k<=b-a/\g<=limit/\dk.size=d.size/\Below ltInt a' f dk/\At xg w blk off dk wr/\pdq ltInt dk a' f g wb wp=pdq ltInt d a b limit true true)
  case atStart=>exact⟨a,b,limit,true,true,d,rfl,rfl,rfl,rfl,rfl,aN,aO,aA _,aA _,aA _,rfl,aH,At.refl r,rfl⟩
  case round=>
   obtain⟨a',f,g,wb,wp,dk,rfl,rfl,rfl,rfl,rfl,F,aP,bf,bg,K,j,aG,H,aV⟩:=hrel;have⟨ag,aQ⟩:=H.holds r j l;have A:Aside (pdq ltInt dk a' f g wb wp=pdq ltInt d a b limit true true):=aV;by_cases E:f-a'<=12
   .
    have aE:(f:Int)-(a':Int)<=12:=aa;have x:=C.ins blk off q a' f dk wr ag F aa aa;rw[j]at x
    go_wp2_with (go_at_call 218;refine x.mono ?_;rintro e w1 ⟨rfl,L⟩)
    (try simp only[Exit.inBlock,Exit.then]);refine kC (ll rfl _ _ _) rfl ?_
    refine⟨rfl,?_⟩;rw[<-A.o,pdq_small E];exact H.step l (S.ins S.swo dk a' f F aa).1.1 L
   .have aE:¬((f:Int)-(a':Int)<=12):=aa;by_cases J:g=0
    .
     subst J;have x:=Ug blk off d.size q dk j a' f wr ag F aa aa
     go_wp2_with (go_at_call 219;refine x.mono ?_;rintro e w1 ⟨rfl,L⟩)
     (try simp only[Exit.inBlock,Exit.then]);refine kC (ll rfl _ _ _) rfl ?_
     refine⟨rfl,?_⟩;rw[<-A.o,pdq_heap E rfl];exact H.step l (heapSort_holds S.swo dk a' f F aa).1.1 L
    .have bh:¬((g:Int)=0):=aa;have⟨u,a6,bd,B,a7,v,p,am⟩:=rd_facts (limit:=g) (wb:=wb) (wp:=wp) S.swo S.par reverseRange_holds (show a'<f by omega) (show f<=dk.size by omega) aG
     go_upto_if 35 with fail
     go_cut [3]from 19 (fun p wc=>p=.int .i64 (rd ltInt dk a' f g wb wp).lim/\At xg w blk off (rd ltInt dk a' f g wb wp).d1 wc)
     case first=>
      cases wb
      .have x:=C.brk blk off q a' f dk wr ag aQ F aa aa;rw[j]at x
       go_wp2_with (go_at_call 220;refine x.mono ?_;rintro e w1 ⟨rfl,L⟩)
       go_meet
       case rel=>
        refine⟨?_,H.stepG l u L⟩;show Value.int .i64 ((g:Int)-1)=Value.int .i64 ((g-1:Nat):Int);congr 1;omega
      .go_wp2_with fail
       go_meet
       case rel=>exact⟨rfl,H⟩
     case rest=>
      obtain⟨rfl,ap⟩:=hcut;have⟨aI,aR⟩:=ap.holds r (u.trans j) l;have aS:Calls prog 221 #[.slice (some ⟨blk,off,none⟩) d.size q,.int .i64 a',.int .i64 f] wc fun e w'=>e=.returned (.tuple #[.int .i64 (rd ltInt dk a' f g wb wp).c.1,.int .i64 (hintCode (rd ltInt dk a' f g wb wp).c.2)])/\∃n os,w'=grow (Sort.ahead wc n) os:=by
       have:=C.piv blk off q a' f (rd ltInt dk a' f g wb wp).d1 wc aI aR aa aa aa;rw[u,j]at this;exact this
      go_upto_if 50 with(go_at_call 221;refine aS.mono ?_;rintro e w2 ⟨rfl,aW⟩)
      have ac:At xg w blk off (rd ltInt dk a' f g wb wp).d1 w2:=ap.same r (u.trans j) l aW;have⟨aJ,a9⟩:=ac.holds r (u.trans j) l
      go_cut [11,12]from 19 (fun a0 ak wc=>a0=.int .i64 (rd ltInt dk a' f g wb wp).pivot/\ak=.int .i64 (hintCode (rd ltInt dk a' f g wb wp).hint)/\At xg w blk off (rd ltInt dk a' f g wb wp).d2 wc)
      case first=>
       by_cases T:(rd ltInt dk a' f g wb wp).c.2=.decreasing
       .have aT:hintCode (rd ltInt dk a' f g wb wp).c.2=2:=by rw[T];rfl
        have⟨P,Z,Y⟩:=rd_dec T;have av:=VE blk off _ q (rd ltInt dk a' f g wb wp).d1 rfl a' f w2 aJ F aa aa;rw[u,j]at av
        go_wp2_with (go_at_call 222;refine av.mono ?_;rintro e w3 ⟨rfl,aX⟩)
        go_meet
        case rel=>
         refine⟨?_,by rw[Y];rfl,by rw[P];exact ac.step l (by rw[<-P,B,u]) aX⟩;rw[Z];congr 1;omega
       .have aT:¬(hintCode (rd ltInt dk a' f g wb wp).c.2=2):=fun h=>T (hintCode_two h);have⟨P,Z,Y⟩:=rd_not T
        go_wp2_with fail
        go_meet
        case rel=>exact⟨by rw[Z],by rw[Y],by rw[P];exact ac⟩
      case rest=>
       obtain⟨rfl,rfl,R⟩:=hcut;have⟨aK,ba⟩:=R.holds r (B.trans j) l
       go_upto_region 15 with fail
       go_cut [12,68]from 19 (fun ak a1 O=>ak=.int .i64 (hintCode (rd ltInt dk a' f g wb wp).hint)/\a1=.bool (wb&&wp&&decide ((rd ltInt dk a' f g wb wp).hint=.increasing))/\O=wc)
       case first=>
        cases wb<;>cases wp<;>cases ah:(rd ltInt dk a' f g _ _).hint<;>
         (have aU:=congrArg hintCode ah
          simp only[hintCode]at aU
          go_wp2_with fail
          go_meet;exact⟨by simp[ah,hintCode],by simp[ah,hintCode],rfl⟩)
       case rest=>
        obtain⟨rfl,rfl,rfl⟩:=hcut
        go_upto_if 68 with fail
        go_cut []from 19 (fun O=>(rd ltInt dk a' f g wb wp).pi.2=false/\At xg w blk off (rd ltInt dk a' f g wb wp).pi.1 O)
        case first=>
         cases ao:(wb&&wp&&decide ((rd ltInt dk a' f g wb wp).hint=.increasing))
         .have D:=rd_pi_no ao
          go_wp2_with fail
          go_meet
          case rel=>exact⟨by rw[D],by rw[D];exact R⟩
         .have D:=rd_pi_yes ao;have aw:=C.par blk off q a' f (rd ltInt dk a' f g wb wp).d2 wc aK aa aa aa;rw[B,j,<-D]at aw
          go_wp2_with (go_at_call 223;refine aw.mono ?_;rintro e w4 ⟨rfl,aC⟩)
          all_goals first
           |(have y:(rd ltInt dk a' f g wb wp).pi.2=false:=by rw[D];assumption
             go_meet;exact⟨y,R.step l (by rw[p,B]) aC⟩)
           |(have y:(rd ltInt dk a' f g wb wp).pi.2=true:=by rw[D];assumption
             (try simp only[Exit.inBlock,Exit.then]);refine kC (ll rfl _ _ _) rfl ?_
             refine⟨rfl,?_⟩;rw[<-A.o,pdq_done E J y];exact R.step l (by rw[p,B]) aC)
        case rest=>
         have⟨y,ad⟩:=hcut;have⟨aL,bb⟩:=ad.holds r (p.trans j) l;have be:∀t,t<d.size->wc.cell? ⟨blk,off+t,none⟩=some (.int .u32 (rd ltInt dk a' f g wb wp).pi.1[t]!):=fun t ht=>(aL t aa).1
         go_upto_region 17 with fail
         go_cut [87]from 19 (fun a3 O=>a3=.bool (decide (a'>0)&&!ltInt (rd ltInt dk a' f g wb wp).pi.1[a'-1]! (rd ltInt dk a' f g wb wp).pi.1[(rd ltInt dk a' f g wb wp).pivot]!)/\At xg w blk off (rd ltInt dk a' f g wb wp).pi.1 O)
         case first=>
          rcases nW a' with ha0|ha0
          .have aM:decide ((a':Int)>0)=false:=FM aa
           go_big_quiet (first|(go_at_call 224;refine gV (eO _ _ _)))
           go_wp2_with fail
           go_meet
           case rel=>exact⟨by simp[ha0],ad.ahead nq⟩
          .have aM:(a':Int)>0:=aa
           go_big_quiet (first|(go_at_call 224;refine gV (eO _ _ _)))
           go_wp2_with fail
           go_meet
           case rel=>exact⟨by simp[ha0],ad.ahead nq⟩
         case rest=>
          obtain⟨rfl,ae⟩:=hcut;have⟨aq,bc⟩:=ae.holds r (p.trans j) l;cases Q:(decide (a'>0)&&!ltInt (rd ltInt dk a' f g wb wp).pi.1[a'-1]! (rd ltInt dk a' f g wb wp).pi.1[(rd ltInt dk a' f g wb wp).pivot]!)
          .
           obtain⟨i,G,d4,m⟩:∃i G d4,partition ltInt (rd ltInt dk a' f g wb wp).pi.1 a' f (rd ltInt dk a' f g wb wp).pivot=(i,G,d4):=⟨(partition ltInt (rd ltInt dk a' f g wb wp).pi.1 a' f (rd ltInt dk a' f g wb wp).pivot).1,(partition ltInt (rd ltInt dk a' f g wb wp).pi.1 a' f (rd ltInt dk a' f g wb wp).pivot).2.1,(partition ltInt (rd ltInt dk a' f g wb wp).pi.1 a' f (rd ltInt dk a' f g wb wp).pivot).2.2,rfl⟩;have⟨U,M,s,V,aD,aY,aZ⟩:=round_part S.swo S.prt v.1 v.2 (show f<=(rd ltInt dk a' f g wb wp).pi.1.size by omega) am m;have az:=C.prt blk off q a' f (rd ltInt dk a' f g wb wp).pivot (rd ltInt dk a' f g wb wp).pi.1 wc aq v.1 v.2 aa aa;rw[p,j,m]at az;have X:Aside (partition ltInt (rd ltInt dk a' f g wb wp).pi.1 a' f (rd ltInt dk a' f g wb wp).pivot=(i,G,d4)):=m
           go_upto_if 113 with(go_at_call 226;refine az.mono ?_;rintro e W ⟨rfl,ai⟩)
           have m:=X.o;have af:At xg w blk off d4 W:=ae.step l s ai;have⟨ar,au⟩:=af.holds r (s.trans (p.trans j)) l;by_cases an:i-a'<f-i
           .have aF:(i:Int)-(a':Int)<(f:Int)-(i:Int):=aa;have I:=ih blk off q a' i (rd ltInt dk a' f g wb wp).lim d4 W aa ar au aa aa aa (qw (bA rd_lim_le K) aB) V;rw[s,p,j]at I;have⟨z,al⟩:=S.pdq S.swo d4 a' i (rd ltInt dk a' f g wb wp).lim true true aa aa V
            go_wp2_with (go_at_call 149;refine I.mono ?_;rintro e a5 ⟨rfl,aj⟩)
            go_roundg (f-(i+1))
            case measure=>omega
            case rel=>
             refine⟨i+1,f,(rd ltInt dk a' f g wb wp).lim,decide (i-a'>=(f-a')/8),G,pdq ltInt d4 a' i (rd ltInt dk a' f g wb wp).lim true true,ax,rfl,rfl,?_,rfl,aa,aa,aA _,aa,bA rd_lim_le K,by rw[z.1,s,p,j],(aY _ z al).1,af.stepG l z.1 aj,?_⟩
             .exact congrArg Value.bool (eighth aa aa)
             .rw[<-A.o,pdq_left E J y Q (by rw[m];exact⟨U,M⟩) (by rw[m];exact an),m]
           .have aF:¬((i:Int)-(a':Int)<(f:Int)-(i:Int)):=aa;have I:=ih blk off q (i+1) f (rd ltInt dk a' f g wb wp).lim d4 W aa ar au aa aa aa (qw (bA rd_lim_le K) aB) aD;rw[s,p,j]at I;have⟨z,al⟩:=S.pdq S.swo d4 (i+1) f (rd ltInt dk a' f g wb wp).lim true true aa aa aD
            go_wp2_with (go_at_call 149;refine I.mono ?_;rintro e a5 ⟨rfl,aj⟩)
            go_roundg (i-a')
            case measure=>omega
            case rel=>
             refine⟨a',i,(rd ltInt dk a' f g wb wp).lim,decide (f-i>=(f-a')/8),G,pdq ltInt d4 (i+1) f (rd ltInt dk a' f g wb wp).lim true true,rfl,rfl,rfl,?_,rfl,aa,aa,aA _,aa,bA rd_lim_le K,by rw[z.1,s,p,j],(aZ _ z al).1,af.stepG l z.1 aj,?_⟩
             .exact congrArg Value.bool (eighth aa aa)
             .rw[<-A.o,pdq_right E J y Q (by rw[m];exact⟨U,M⟩) (by rw[m];exact an),m]
          .
           have ab:=Q;simp only[nA,bO,pE]at ab;obtain⟨i,d4,m⟩:∃i d4,partitionEqual ltInt (rd ltInt dk a' f g wb wp).pi.1 a' f (rd ltInt dk a' f g wb wp).pivot=(i,d4):=⟨(partitionEqual ltInt (rd ltInt dk a' f g wb wp).pi.1 a' f (rd ltInt dk a' f g wb wp).pivot).1,(partitionEqual ltInt (rd ltInt dk a' f g wb wp).pi.1 a' f (rd ltInt dk a' f g wb wp).pivot).2,rfl⟩;have⟨U,M,s,V,_⟩:=round_eq S.swo S.peq ab.1 v.1 v.2 (show f<=(rd ltInt dk a' f g wb wp).pi.1.size by omega) am ab.2 m;have ay:=C.peq blk off q a' f (rd ltInt dk a' f g wb wp).pivot (rd ltInt dk a' f g wb wp).pi.1 wc aq v.1 v.2 aa aa;rw[p,j,m]at ay;have X:Aside (partitionEqual ltInt (rd ltInt dk a' f g wb wp).pi.1 a' f (rd ltInt dk a' f g wb wp).pivot=(i,d4)):=m
           go_wp2_with (go_at_call 225;refine ay.mono ?_;rintro e W ⟨rfl,ai⟩)
           go_roundg (f-i)
           case measure=>omega
           case rel=>
            have m:=X.o;exact⟨i,f,(rd ltInt dk a' f g wb wp).lim,wb,wp,d4,rfl,rfl,rfl,rfl,rfl,M,aP,aA _,aa,bA rd_lim_le K,by rw[s,p,j],V,ae.step l s ai,by rw[<-A.o,pdq_eq E J y Q (by rw[m];exact⟨U,M⟩),m]⟩
end
section
open Go.RowKit
theorem holds_of_block {α:Type} [Inhabited α] {enc:α->Value} {w:World} {g:Nat} {a:Array Value} {e:TypeId} {l:List α} (d:w.heap[g]? =some (.cells a e (0,0))) (ht:a.toList.take l.length=l.map enc):
  Sort.Holds enc w g 0 l.toArray:=by
 intro j f;have c:j<l.length:=aQ f;refine⟨?_,?_⟩
 .unfold World.cell?;simp only[d,kD];have b:(a.toList.take l.length)[j]? =some (enc l[j]):=by rw[ht];simp[c]
  rw[vN]at b;simp only[c,gJ]at b;simpa[c]using b
 .unfold World.frozen?;simp[d]
theorem tH {α:Type} [Inhabited α] {enc:α->Value} {w:World} {base g a:Nat} {b:Array Value} {e:TypeId} {l l':List α} (i:base<=g) (f:w.heap[g]? =some (.cells b e (0,0))) (r:l.length<=a) (n:a<=maxLen) (o:b.size=a)
  (s:l'.length=l.length) (q:Nat) (os:Array Obj):
  ∃c,(Sort.grow (Sort.putRow enc (Sort.ahead w q) g 0 l'.toArray) os).heap[g]? =some (.cells c e (0,0))/\c.size=a/\c.toList.take l'.length=l'.map enc/\
   (Sort.grow (Sort.putRow enc (Sort.ahead w q) g 0 l'.toArray) os).ownsRow base e 1 (.slice (some ⟨g,0,none⟩) l'.length a) l'.length (l'.map enc):=by
 have key:(Sort.grow (Sort.putRow enc (Sort.ahead w q) g 0 l'.toArray) os).heap[g]? =some (.cells (Sort.putCells enc 0 l'.toArray b) e (0,0)):=by
  have m:g<w.heap.size:=(bg.1 f).1;show((w.heap.modify g (Sort.onCells (Sort.putCells enc 0 l'.toArray)))++os)[g]? =_;rw[yI (aQ m),yN,aO rfl,f];rfl
 have p:(Sort.putCells enc 0 l'.toArray b).size=a:=by simp[Sort.putCells,o]
 have h:(Sort.putCells enc 0 l'.toArray b).toList.take l'.length=l'.map enc:=by
  apply yU;intro j;rw[vN];by_cases d:j<l'.length
  .rw[aO d];have k:j<b.size:=aa;simp[Sort.putCells,d,k]
  .rw[aN d];exact(o9 aH).symm
 refine⟨_,key,p,h,ax,.inr ⟨g,a,_,rfl,i,key,aa,n,aa,?_⟩⟩;rw[ji];exact h
end
section
open Go.RowKit Go.Sort
theorem MO:El where
 ins:=VC
 brk:=VD
 piv:=OZ
 par:=MN
 peq:=OX
 prt:=Ue
theorem RF:Plain13 where
 swo:=swo_ltInt
 ins:=insertionSort_holds
 par:=partialInsertionSort_holds
 prt:=partition_holds _
 peq:=partitionEqual_holds _
 pdq:=pdq_sorts _
theorem JS (blk off a:Nat) (d:Array Int) (w:World) (b:Holds (Value.int .u32) w blk off d) (g:blk<w.heap.size) (i:d.size<4611686018427387904):
  Calls prog 64 #[.slice (some ⟨blk,off,none⟩) d.size a] w fun e w'=>e=.returned (.tuple #[])/\∃n os,w'=grow (putRow (Value.int .u32) (Sort.ahead w n) blk off (Sort.sort ltInt d)) os:=by
 have f:∀w,Calls prog 86 #[.int .u64 (d.size:Int)] w fun e w'=>e=.returned (.int .i64 (bitsLen d.size:Nat))/\w'=w:=fun w=>by
  have h:=Tryz.bits_Len (d.size:Int) w aa aa;rwa [iD,bitLen_eq _ aa]at h
 have j:bitsLen d.size<=62:=(bitsLen_le_iff d.size 62).2 aa;have hp:=af (VF MO RF (d.size+1) blk off a 0 d.size (bitsLen d.size) d w aa b g (aT _) (aA _) i aa (Or.inl rfl));have c:=af f;go_enter func64,ntmps64
 go_wp2_with fail
 refine(c.o _).mono ?_;rintro e w' ⟨rfl,rfl⟩
 go_wp2_with fail
 refine hp.o.mono ?_;rintro e w' ⟨rfl,n,os,rfl⟩;go_wp2
 go_end0
 exact⟨rfl,n,os,rfl⟩
theorem G5 (a:List Int):Sort.sort ltInt a.toArray=(a.mergeSort fun x y=>decide (x<=y)).toArray:=by
 rw[<-sortInt a]
theorem Uh (blk off b:Nat) (a:List Int) (w:World) (c:Holds (Value.int .u32) w blk off a.toArray) (d:blk<w.heap.size) (f:a.length<4611686018427387904):
  Calls prog 64 #[.slice (some ⟨blk,off,none⟩) a.length b] w fun e w'=>
   e=.returned (.tuple #[])/\∃n os,w'=grow (putRow (Value.int .u32) (Sort.ahead w n) blk off (a.mergeSort fun x y=>decide (x<=y)).toArray) os:=by
 have h:=JS blk off b a.toArray w c d (aQ f);rw[G5]at h;simpa using h
theorem JU (p:Option Addr) (a:Nat) (w:World):
  Calls prog 218 #[.slice p 0 a,.int .i64 0,.int .i64 0] w fun e w'=>e=.returned (.tuple #[])/\w'=w:=by
 go_enter func218,ntmps218;go_wp2;refine wp_loop_rounds 1 ?_;rw[rounds_succ];go_wp2
 go_end0
 exact⟨rfl,rfl⟩
theorem G6 (p:Option Addr) (a:Nat) (w:World):
  Calls prog 64 #[.slice p 0 a] w fun e w'=>e=.returned (.tuple #[])/\w'=w:=by
 have L:=af (fun W=>Tryz.bits_Len 0 W ai ai);have b:=af (JU p a);go_enter func64,ntmps64
 go_wp2_with (first|(go_at_call 86;refine(L.o _).mono ?_;rintro e w' ⟨rfl,rfl⟩)|go_in)
 refine wp_loop_rounds 1 ?_;rw[rounds_succ]
 go_wp2_with (first|(go_at_call 218;refine(b.o _).mono ?_;rintro e w2 ⟨rfl,rfl⟩)|go_in)
 refine kC (ll rfl _ _ _) rfl ?_;go_wp2
 go_end0
 exact⟨rfl,rfl⟩
end
end Go.Proofs.YtkjdbndekceffaaGreat
