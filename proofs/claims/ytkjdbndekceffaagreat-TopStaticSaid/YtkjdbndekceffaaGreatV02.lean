/- A part of the proof; its text was made small by a program (no remarks, short names). -/
import Derived.Test.YtkjdbndekceffaaGreatV00
import Derived.Test.YtkjdbndekceffaaGreatV01
set_option linter.unusedSimpArgs false
set_option linter.unusedVariables false
set_option maxRecDepth 100000
set_option maxHeartbeats 16000000
namespace Go.Proofs.YtkjdbndekceffaaGreat
open Go.RowKit Go.Sort
theorem ed (x y:Int) (w:World):Calls Tryz.prog 224 #[.int .u32 x,.int .u32 y] w fun e w'=>e=.returned (.bool (ltInt x y))/\w'=w:=by
 by_cases h:x<y
 .rw[show ltInt x y=true by simp[ltInt,h]];go_enter Tryz.func224,Tryz.ntmps224;go_wp2;go_ret;exact⟨yu (by first|rfl|(simp;done)|(simp[h];done)),rfl⟩
 .rw[show ltInt x y=false by simp[ltInt,h]];go_enter Tryz.func224,Tryz.ntmps224;go_wp2;go_ret;exact⟨yu (by first|rfl|(simp;done)|(simp[h];done)),rfl⟩
abbrev yf:Int->Value:=Value.int .u32
theorem akF (blk off cap a b:Nat) (d:Array Int) (w:World) (hH:Holds (Value.int .u32) w blk off d) (hab:a<=b) (hb:b<=d.size) (hsz:d.size<4611686018427387904):
  Calls Tryz.prog 218 #[.slice (some ⟨blk,off,none⟩) d.size cap,.int .i64 a,.int .i64 b] w fun e w'=>
   e=.returned (.tuple #[])/\∃n,w'=putRow (Value.int .u32) (Sort.ahead w n) blk off (Sort.insertionSort ltInt d a b):=by
 have HH:=ae hH;have CL:=ae ed;clear hH;go_enter Tryz.func218,Tryz.ntmps218;go_wp2
 go_loopw [6] (fun vi wr=>∃(i n:Nat) (dk:Array Int),vi=.int .i64 i/\a<i/\i<=b+1/\Hid (dk.size=d.size)/\Hid (wr=putRow (Value.int .u32) (Sort.ahead w n) blk off dk)/\
   Hid (insOuter ltInt a b i dk=insOuter ltInt a b (a+1) d)) (fun vi _=>b+1-(intOf vi).toNat)
 case atStart=>exact⟨a+1,0,d,by go_num,by omega,by omega,rfl,(qZ _ _ _ _ _ HH.out).symm,rfl⟩
 case round=>
  obtain⟨i,n,dk,rfl,hai,hib,hsk,hwr,HO⟩:=hrel;by_cases hlt:i<b
  .obtain⟨wo,ewo⟩:∃wo:World,wo=wr:=⟨_,rfl⟩;subst ewo;go_wp2
   go_loopw [7] (fun vj wr2=>∃(j m:Nat) (dj:Array Int),vj=.int .i64 j/\a<=j/\j<=i/\Hid (dj.size=d.size)/\Hid (wr2=putRow (Value.int .u32) (Sort.ahead w m) blk off dj)/\
     Hid (insInner ltInt a j dj=insInner ltInt a i dk)) (fun vj _=>(intOf vj).toNat)
   case atStart=>exact⟨i,n,dk,rfl,by omega,aG _,hsk,hwr,rfl⟩
   case round=>
    obtain⟨j,m,dj,rfl,haj,oK,hsj,hw2,HI⟩:=hrel;obtain⟨G,hG⟩:∃G:Nat->Int,∀t,G t=dj[t]! :=⟨fun t=>dj[t]!,fun _=>rfl⟩;have HG:=ae hG;clear hG;have hjd:j<d.size:=by omega
    have hcw:∀t,t<d.size->wr.cell? ⟨blk,off+t,none⟩=some (.int .u32 (G t)):=fun t ht=>by
     rw[hw2.out,HG.out];exact xm _ _ _ _ d dj (jT _ _ _ _ _ _ HH.out) hsj.out t (by rw[hsj.out];exact ht)
    have hfw:∀t,t<d.size->wr.frozen? ⟨blk,off+t,none⟩=false:=fun t ht=>by
     rw[hw2.out,tQ];exact((jT _ _ m _ _ _ HH.out) t ht).2
    have hj0:(0:Int)<=(j:Int):=by omega
    have hj1:(j:Int)<(d.size:Int):=by omega
    have x0:=hcw j hjd;have f0:=hfw j hjd;by_cases hja:a<j
    .have x1:=hcw (j-1) (by omega);have f1:=hfw (j-1) (by omega);have e1:((j:Int)-1).toNat=j-1:=by omega
     have uU:(0:Int)<=(j:Int)-1:=by omega
     have hj3:(j:Int)-1<(d.size:Int):=by omega
     have hj4:(1:Int)<=(j:Int):=by omega
     clear hcw hfw;cases hl:ltInt (G j) (G (j-1))with
     |true=>
      have HL:=ae hl;have C:=CL.out (G j) (G (j-1));rw[hl]at C;have CC:=ae C;clear hl C;go_wp2;have V1:IntKind.i64.wrap ((j:Int)-1)=(j:Int)-1:=DZ _ (by omega)
      go_quiet ((go_at_call 224;exact gT (CC.out _)))
      clear V1;go_wp2;go_region
      all_goals go_wp2
      all_goals go_roundw
      case rel=>exact⟨j-1,m+(nq+1),swp dj j (j-1),by go_num,by omega,by omega,by show _=_;rw[ic];exact hsj.out,by
       show _=_;rw[hw2.out,HG.out,HG.out];exact swap_worldA _ w m (nq+1) blk off dj j (j-1) (by rw[hsj.out];omega) (by rw[hsj.out];omega),by
       show _=_;rw[<-HI.out,insInner_go ltInt a j dj hja (by rw[<-HG.out,<-HG.out];exact HL.out)]⟩
      case measure=>simp[intOf];omega
     |false=>
      have HL:=ae hl;have C:=CL.out (G j) (G (j-1));rw[hl]at C;have CC:=ae C;clear hl C;go_wp2;have V1:IntKind.i64.wrap ((j:Int)-1)=(j:Int)-1:=DZ _ (by omega)
      go_quiet ((go_at_call 224;exact gT (CC.out _)))
      clear V1;go_wp2;go_roundw
      case rel=>exact⟨i+1,m+nq,dj,by go_num,by omega,by omega,hsj,by show _=_;rw[hw2.out];exact lq _ _ _ _ _ _ _,by show _=_;rw[<-HO.out,insOuter_go _ _ _ _ _ hlt,<-HI.out,insInner_stop _ _ _ _ (Or.inr (by rw[<-HG.out,<-HG.out];exact HL.out))]⟩
      case measure=>simp[intOf];omega
    .have hd:decide ((a:Int)<(j:Int))=false:=by simp;omega
     clear hcw hfw;go_wp2
     go_quiet (fail)
     go_wp2;go_roundw
     case rel=>exact⟨i+1,m+nq,dj,by go_num,by omega,by omega,hsj,by show _=_;rw[hw2.out];exact lq _ _ _ _ _ _ _,by show _=_;rw[<-HO.out,insOuter_go _ _ _ _ _ hlt,<-HI.out,insInner_stop _ _ _ _ (Or.inl (by omega))]⟩
     case measure=>simp[intOf];omega
  .go_wp2
   go_end0
   exact⟨rfl,n,by rw[hwr.out];unfold Sort.insertionSort;rw[<-HO.out,insOuter_stop _ _ _ _ _ hlt]⟩
theorem Wu (blk off cap a b pivot:Nat) (d:Array Int) (w:World) (hH:Holds (Value.int .u32) w blk off d) (hap:a<=pivot) (Ky:pivot<b) (hb:b<=d.size) (hsz:d.size<4611686018427387904):
  Calls Tryz.prog 225 #[.slice (some ⟨blk,off,none⟩) d.size cap,.int .i64 a,.int .i64 b,.int .i64 pivot] w fun e w'=>
   e=.returned (.int .i64 (Sort.partitionEqual Sort.ltInt d a b pivot).1)/\∃n,w'=(putRow (Value.int .u32) w blk off (Sort.partitionEqual Sort.ltInt d a b pivot).2).drewN n:=by
 have VV:a<d.size:=by omega
 have hlp:pivot<d.size:=by omega
 obtain⟨G,hG⟩:∃G:Nat->Int,∀j,G j=d[j]! :=⟨fun j=>d[j]!,fun _=>rfl⟩;have ca:w.cell? ⟨blk,off+a,none⟩=some (.int .u32 (G a)):=by rw[hG];exact(hH a VV).1
 have fa:=(hH a VV).2;have cp:w.cell? ⟨blk,off+pivot,none⟩=some (.int .u32 (G pivot)):=by rw[hG];exact(hH pivot hlp).1
 have fp:=(hH pivot hlp).2;obtain⟨v',hy'⟩:=qN (w:=w) (p:=⟨blk,off+a,none⟩) (x:=.int .u32 (G pivot)) (q:=⟨blk,off+pivot,none⟩) cp;have AG:Hid (∀j,G j=d[j]!):=hG;have AH:Hid (Holds (Value.int .u32) w blk off d):=hH;clear hG hH;go_enter Tryz.func225,Tryz.ntmps225;go_wp2;go_region;go_wp2
 go_loopw [9,10] (fun vi vj wr=>∃(i j n:Nat) (dk:Array Int),vi=.int .i64 i/\vj=.int .i64 j/\a<i/\i<=j+1/\j<b/\dk.size=d.size/\wr=(putRow (Value.int .u32) w blk off dk).drewN n/\
   Sort.partEqLoop Sort.ltInt a i j dk=Sort.partEqLoop Sort.ltInt a (a+1) (b-1) (Sort.swp d a pivot))
  (fun vi vj _=>(intOf vj).toNat+1-(intOf vi).toNat)
 case atStart=>
  refine⟨a+1,b-1,1,Sort.swp d a pivot,by go_num,by go_num,by omega,by omega,by omega,ic _ _ _,?_,rfl⟩;have e:=rf (Value.int .u32) w blk off d 0 a pivot VV hlp;rw[qZ _ w blk off d AH.out]at e;rw[AG.out a,AG.out pivot];exact e
 case round=>
  obtain⟨i,j,n,dk,rfl,rfl,hai,oV,hjb,hs,hw,heq⟩:=hrel;clear ca fa cp fp hy' v' AG
  rename World=>W1
  have OB:Holds (Value.int .u32) W1 blk off dk:=by
   rw[hw];exact holds_putRow (Value.int .u32) w blk off d dk AH.out hs
  obtain⟨Gk,hG⟩:∃Gk:Nat->Int,∀t,Gk t=dk[t]! :=⟨fun t=>dk[t]!,fun _=>rfl⟩;have hc:∀t,t<d.size->W1.cell? ⟨blk,off+t,none⟩=some (.int .u32 (Gk t)):=fun t ht=>by rw[hG];exact(OB t (by omega)).1
  have hf:∀t,t<d.size->W1.frozen? ⟨blk,off+t,none⟩=false:=fun t ht=>(OB t (by omega)).2;have AG:Hid (∀t,Gk t=dk[t]!):=hG;have AW:Hid (W1=(putRow (Value.int .u32) w blk off dk).drewN n):=hw;have AE:Hid (Sort.partEqLoop Sort.ltInt a i j dk=Sort.partEqLoop Sort.ltInt a (a+1) (b-1) (Sort.swp d a pivot)):=heq;clear hG hw heq OB;go_wp2
  go_loopw [9] (fun vi w1=>∃(i' n1:Nat),vi=.int .i64 i'/\i<=i'/\i'<=j+1/\w1=W1.drewN n1/\
    Hid (Sort.scanUp (fun x=>!Sort.ltInt dk[a]! x) dk j i'=Sort.scanUp (fun x=>!Sort.ltInt dk[a]! x) dk j i))
   (fun vi _=>j+1-(intOf vi).toNat)
  case atStart=>exact⟨i,0,rfl,aG _,oV,rfl,rfl⟩
  case round=>
   obtain⟨i',n1,rfl,OC,Ld,Cm,hsc⟩:=hrel;have hcw:∀t,t<d.size->wr.cell? ⟨blk,off+t,none⟩=some (.int .u32 (Gk t)):=fun t ht=>by rw[Cm];exact hc t ht
   have Le:Hid (wr=W1.drewN n1):=Cm;clear Cm;by_cases hle:i'<=j
   .go_wp2_with fail
    go_big_quiet (first|(go_at_call 224;refine gT (ed _ _ _)))
    go_wp2
    .
     have ht:(!Sort.ltInt (Gk a) (Gk i'))=true:=by assumption
     go_roundw
     case rel=>exact⟨i'+1,n1+nq,by go_num,by omega,by omega,by rw[Le.out,gH],(scanUp_go (fun x=>!Sort.ltInt dk[a]! x) dk j i' hle (by rw[<-AG.out a,<-AG.out i'];exact ht)).symm.trans hsc.out⟩
     case measure=>simp[intOf];omega
    .
     have ht:(!Sort.ltInt (Gk a) (Gk i'))=false:=by assumption
     have sG:Hid (i'=Sort.scanUp (fun x=>!Sort.ltInt dk[a]! x) dk j i):=(scanUp_end (fun x=>!Sort.ltInt dk[a]! x) dk j i' (Or.inr (by rw[<-AG.out a,<-AG.out i'];exact ht))).symm.trans hsc.out;clear ht;have hw2:wr.drewN nq=W1.drewN (n1+nq):=by rw[Le.out,gH]
     clear hcw Le hsc
     go_loopw [10] (fun vj w2=>∃(j' n2:Nat),vj=.int .i64 j'/\j'<=j/\i'<=j'+1/\w2=W1.drewN n2/\
       Hid (Sort.scanDown (fun x=>Sort.ltInt dk[a]! x) dk i' j'=Sort.scanDown (fun x=>Sort.ltInt dk[a]! x) dk i' j))
      (fun vj _=>(intOf vj).toNat)
     case atStart=>exact⟨j,n1+nq,rfl,aG _,Ld,hw2,rfl⟩
     case round=>
      clear hw2;obtain⟨j',n2,rfl,hjj,Wv,hw2,AA⟩:=hrel;have hcw:∀t,t<d.size->wr.cell? ⟨blk,off+t,none⟩=some (.int .u32 (Gk t)):=fun t ht=>by rw[hw2];exact hc t ht
      have F5:Hid (wr=W1.drewN n2):=hw2;clear hw2;by_cases tZ:i'<=j'
      .go_wp2_with fail
       go_big_quiet (first|(go_at_call 224;refine gT (ed _ _ _)))
       go_wp2
       .
        have ht:Sort.ltInt (Gk a) (Gk j')=true:=by assumption
        go_roundw
        case rel=>exact⟨j'-1,n2+nq,by go_num,by omega,by omega,by rw[F5.out,gH],(scanDown_go (fun x=>Sort.ltInt dk[a]! x) dk i' j' tZ (by omega) (by rw[<-AG.out a,<-AG.out j'];exact ht)).symm.trans AA.out⟩
        case measure=>simp[intOf];omega
       .
        have ht:Sort.ltInt (Gk a) (Gk j')=false:=by assumption
        have uU:Hid (j'=Sort.scanDown (fun x=>Sort.ltInt dk[a]! x) dk i' j):=(qW (fun x=>Sort.ltInt dk[a]! x) dk i' j' (Or.inr (by rw[<-AG.out a,<-AG.out j'];exact ht))).symm.trans AA.out;clear hcw AA ht;have hw3:wr.drewN nq=W1.drewN (n2+nq):=by rw[F5.out,gH]
        generalize wr.drewN nq=W3 at hw3 |-;have hc3:∀t,t<d.size->W3.cell? ⟨blk,off+t,none⟩=some (.int .u32 (Gk t)):=fun t ht=>by rw[hw3];exact hc t ht
        have hf3:∀t,t<d.size->W3.frozen? ⟨blk,off+t,none⟩=false:=fun t ht=>by rw[hw3];exact hf t ht
        have Kz:Hid (W3=W1.drewN (n2+nq)):=hw3;clear hw3;obtain⟨v3,hy3⟩:=qN (w:=W3) (p:=⟨blk,off+i',none⟩) (x:=.int .u32 (Gk j')) (q:=⟨blk,off+j',none⟩) (hc3 j' (by omega));have afZ:=scans_lt Sort.ltInt a i j dk (by omega) sG.out uU.out tZ;go_wp2;go_region
        all_goals go_wp2
        all_goals go_roundw
        case rel=>
         refine⟨i'+1,j'-1,n+(n2+nq)+1,Sort.swp dk i' j',by go_num,by go_num,by omega,by omega,by omega,by rw[ic];exact hs,?_,?_⟩
         .rw[Kz.out,AW.out,gH,AG.out i',AG.out j'];exact rf (Value.int .u32) w blk off dk _ i' j' (by omega) (by omega)
         .rw[<-AE.out];exact(partEq_go Sort.ltInt a i j dk sG.out uU.out (by omega)).symm
        case measure=>simp[intOf];omega
      .go_wp2_with fail
       go_big_quiet (first|(go_at_call 224;refine gT (ed _ _ _)))
       have uU:Hid (j'=Sort.scanDown (fun x=>Sort.ltInt dk[a]! x) dk i' j):=(qW (fun x=>Sort.ltInt dk[a]! x) dk i' j' (Or.inl tZ)).symm.trans AA.out;clear hcw AA;have hw3:wr.drewN nq=W1.drewN (n2+nq):=by rw[F5.out,gH]
       generalize wr.drewN nq=W3 at hw3 |-;have hc3:∀t,t<d.size->W3.cell? ⟨blk,off+t,none⟩=some (.int .u32 (Gk t)):=fun t ht=>by rw[hw3];exact hc t ht
       have hf3:∀t,t<d.size->W3.frozen? ⟨blk,off+t,none⟩=false:=fun t ht=>by rw[hw3];exact hf t ht
       have Kz:Hid (W3=W1.drewN (n2+nq)):=hw3;clear hw3;go_wp2;go_ret;have e:=partEq_break Sort.ltInt a i j dk sG.out uU.out (by omega);refine⟨?_,n+(n2+nq),?_⟩
       .unfold Sort.partitionEqual;rw[<-AE.out,e];rfl
       .unfold Sort.partitionEqual;rw[<-AE.out,e,Kz.out,AW.out,gH]
   .go_wp2_with fail
    go_big_quiet (first|(go_at_call 224;refine gT (ed _ _ _)))
    go_wp2;have sG:Hid (i'=Sort.scanUp (fun x=>!Sort.ltInt dk[a]! x) dk j i):=(scanUp_end (fun x=>!Sort.ltInt dk[a]! x) dk j i' (Or.inl hle)).symm.trans hsc.out;have hw2:wr.drewN nq=W1.drewN (n1+nq):=by rw[Le.out,gH]
    clear hcw Le hsc
    go_loopw [10] (fun vj w2=>∃(j' n2:Nat),vj=.int .i64 j'/\j'<=j/\i'<=j'+1/\w2=W1.drewN n2/\
      Hid (Sort.scanDown (fun x=>Sort.ltInt dk[a]! x) dk i' j'=Sort.scanDown (fun x=>Sort.ltInt dk[a]! x) dk i' j))
     (fun vj _=>(intOf vj).toNat)
    case atStart=>exact⟨j,n1+nq,rfl,aG _,Ld,hw2,rfl⟩
    case round=>
     clear hw2;obtain⟨j',n2,rfl,hjj,Wv,hw2,AA⟩:=hrel;have hcw:∀t,t<d.size->wr.cell? ⟨blk,off+t,none⟩=some (.int .u32 (Gk t)):=fun t ht=>by rw[hw2];exact hc t ht
     have F5:Hid (wr=W1.drewN n2):=hw2;clear hw2;by_cases tZ:i'<=j'
     .exfalso;omega
     .go_wp2_with fail
      go_big_quiet (first|(go_at_call 224;refine gT (ed _ _ _)))
      have uU:Hid (j'=Sort.scanDown (fun x=>Sort.ltInt dk[a]! x) dk i' j):=(qW (fun x=>Sort.ltInt dk[a]! x) dk i' j' (Or.inl tZ)).symm.trans AA.out;clear hcw AA;have hw3:wr.drewN nq=W1.drewN (n2+nq):=by rw[F5.out,gH]
      generalize wr.drewN nq=W3 at hw3 |-;have hc3:∀t,t<d.size->W3.cell? ⟨blk,off+t,none⟩=some (.int .u32 (Gk t)):=fun t ht=>by rw[hw3];exact hc t ht
      have hf3:∀t,t<d.size->W3.frozen? ⟨blk,off+t,none⟩=false:=fun t ht=>by rw[hw3];exact hf t ht
      have Kz:Hid (W3=W1.drewN (n2+nq)):=hw3;clear hw3;go_wp2;go_ret;have e:=partEq_break Sort.ltInt a i j dk sG.out uU.out (by omega);refine⟨?_,n+(n2+nq),?_⟩
      .unfold Sort.partitionEqual;rw[<-AE.out,e];rfl
      .unfold Sort.partitionEqual;rw[<-AE.out,e,Kz.out,AW.out,gH]
theorem af0 (blk off cap a b pivot:Nat) (d:Array Int) (w:World) (hH:Holds (Value.int .u32) w blk off d) (hap:a<=pivot) (Ky:pivot<b) (hb:b<=d.size) (hsz:d.size<4611686018427387904):
  Calls Tryz.prog 226 #[.slice (some ⟨blk,off,none⟩) d.size cap,.int .i64 a,.int .i64 b,.int .i64 pivot] w fun e w'=>
   e=.returned (.tuple #[.int .i64 (Sort.partition Sort.ltInt d a b pivot).1,.bool (Sort.partition Sort.ltInt d a b pivot).2.1])/\∃n,w'=(putRow (Value.int .u32) w blk off (Sort.partition Sort.ltInt d a b pivot).2.2).drewN n:=by
 have VV:a<d.size:=by omega
 have hlp:pivot<d.size:=by omega
 obtain⟨G,hG⟩:∃G:Nat->Int,∀j,G j=d[j]! :=⟨fun j=>d[j]!,fun _=>rfl⟩;have ca:w.cell? ⟨blk,off+a,none⟩=some (.int .u32 (G a)):=by rw[hG];exact(hH a VV).1
 have fa:=(hH a VV).2;have cp:w.cell? ⟨blk,off+pivot,none⟩=some (.int .u32 (G pivot)):=by rw[hG];exact(hH pivot hlp).1
 have fp:=(hH pivot hlp).2;obtain⟨v',hy'⟩:=qN (w:=w) (p:=⟨blk,off+a,none⟩) (x:=.int .u32 (G pivot)) (q:=⟨blk,off+pivot,none⟩) cp;have hw:((w.setCell ⟨blk,off+a,none⟩ (.int .u32 (G pivot))).setCell ⟨blk,off+pivot,none⟩ (.int .u32 (G a))).drew=(putRow (Value.int .u32) w blk off (Sort.swp d a pivot)).drewN 1:=by
  have e:=rf (Value.int .u32) w blk off d 0 a pivot VV hlp;rw[qZ _ w blk off d hH]at e;rw[hG a,hG pivot];exact e
 have AH:Hid (Holds (Value.int .u32) w blk off d):=hH;have HW0:=Hid.mk' hw;clear hG hH hw;go_enter Tryz.func226,Tryz.ntmps226;go_wp2;go_region;go_wp2;clear ca fa cp fp hy' v';have hw:=HW0.out;clear HW0;generalize((w.setCell ⟨blk,off+a,none⟩ (.int .u32 (G pivot))).setCell ⟨blk,off+pivot,none⟩ (.int .u32 (G a))).drew=W1 at hw |-;obtain⟨dk,hdk⟩:∃dk,dk=Sort.swp d a pivot:=⟨_,rfl⟩;obtain⟨n,hn⟩:∃n:Nat,n=1:=⟨_,rfl⟩;rw[<-hdk,<-hn]at hw;clear hn;have hs:dk.size=d.size:=by rw[hdk,ic]
 have e1:((a:Int)+1)=((a+1:Nat):Int):=by omega
 have e2:((b:Int)-1)=((b-1:Nat):Int):=by omega
 rw[e1,e2];clear e1 e2;obtain⟨i,hi⟩:∃i,i=a+1:=⟨_,rfl⟩;obtain⟨j,hj⟩:∃j,j=b-1:=⟨_,rfl⟩;rw[<-hi,<-hj];have hai:a<i:=by omega
 have oV:i<=j+1:=by omega
 have hjb:j<b:=by omega
 have HI:=Hid.mk' hi;have HJ:=Hid.mk' hj;have HDK:=Hid.mk' hdk;clear hi hj hdk;have OB:Holds (Value.int .u32) W1 blk off dk:=by
  rw[hw];exact holds_putRow (Value.int .u32) w blk off d dk AH.out hs
 obtain⟨Gk,hG⟩:∃Gk:Nat->Int,∀t,Gk t=dk[t]! :=⟨fun t=>dk[t]!,fun _=>rfl⟩;have hc:∀t,t<d.size->W1.cell? ⟨blk,off+t,none⟩=some (.int .u32 (Gk t)):=fun t ht=>by rw[hG];exact(OB t (by omega)).1
 have hf:∀t,t<d.size->W1.frozen? ⟨blk,off+t,none⟩=false:=fun t ht=>(OB t (by omega)).2;have AG:Hid (∀t,Gk t=dk[t]!):=hG;have AW:Hid (W1=(putRow (Value.int .u32) w blk off dk).drewN n):=hw;clear hG hw OB
 go_loopw [10] (fun vi w1=>∃(i' n1:Nat),vi=.int .i64 i'/\i<=i'/\i'<=j+1/\w1=W1.drewN n1/\
   Hid (Sort.scanUp (fun x=>Sort.ltInt x dk[a]!) dk j i'=Sort.scanUp (fun x=>Sort.ltInt x dk[a]!) dk j i))
  (fun vi _=>j+1-(intOf vi).toNat)
 case atStart=>exact⟨i,0,rfl,aG _,oV,rfl,rfl⟩
 case round=>
  obtain⟨i',n1,rfl,OC,Ld,Cm,hsc⟩:=hrel;have hcw:∀t,t<d.size->wr.cell? ⟨blk,off+t,none⟩=some (.int .u32 (Gk t)):=fun t ht=>by rw[Cm];exact hc t ht
  have Le:Hid (wr=W1.drewN n1):=Cm;clear Cm;by_cases hle:i'<=j
  .go_wp2_with fail
   go_big_quiet (first|(go_at_call 224;refine gT (ed _ _ _)))
   go_wp2
   .
    have ht:Sort.ltInt (Gk i') (Gk a)=true:=by assumption
    go_roundw
    case rel=>exact⟨i'+1,n1+nq,by go_num,by omega,by omega,by rw[Le.out,gH],(scanUp_go (fun x=>Sort.ltInt x dk[a]!) dk j i' hle (by rw[<-AG.out a,<-AG.out i'];exact ht)).symm.trans hsc.out⟩
    case measure=>simp[intOf];omega
   .
    have ht:Sort.ltInt (Gk i') (Gk a)=false:=by assumption
    have sG:Hid (i'=Sort.scanUp (fun x=>Sort.ltInt x dk[a]!) dk j i):=(scanUp_end (fun x=>Sort.ltInt x dk[a]!) dk j i' (Or.inr (by rw[<-AG.out a,<-AG.out i'];exact ht))).symm.trans hsc.out;clear ht;have hw2:wr.drewN nq=W1.drewN (n1+nq):=by rw[Le.out,gH]
    clear hcw Le hsc
    go_loopw [11] (fun vj w2=>∃(j' n2:Nat),vj=.int .i64 j'/\j'<=j/\i'<=j'+1/\w2=W1.drewN n2/\
      Hid (Sort.scanDown (fun x=>!Sort.ltInt x dk[a]!) dk i' j'=Sort.scanDown (fun x=>!Sort.ltInt x dk[a]!) dk i' j))
     (fun vj _=>(intOf vj).toNat)
    case atStart=>exact⟨j,n1+nq,rfl,aG _,Ld,hw2,rfl⟩
    case round=>
     clear hw2;obtain⟨j',n2,rfl,hjj,Wv,hw2,AA⟩:=hrel;have hcw:∀t,t<d.size->wr.cell? ⟨blk,off+t,none⟩=some (.int .u32 (Gk t)):=fun t ht=>by rw[hw2];exact hc t ht
     have F5:Hid (wr=W1.drewN n2):=hw2;clear hw2;by_cases tZ:i'<=j'
     .go_wp2_with fail
      go_big_quiet (first|(go_at_call 224;refine gT (ed _ _ _)))
      go_wp2
      .
       have ht:(!Sort.ltInt (Gk j') (Gk a))=true:=by assumption
       go_roundw
       case rel=>exact⟨j'-1,n2+nq,by go_num,by omega,by omega,by rw[F5.out,gH],(scanDown_go (fun x=>!Sort.ltInt x dk[a]!) dk i' j' tZ (by omega) (by rw[<-AG.out a,<-AG.out j'];exact ht)).symm.trans AA.out⟩
       case measure=>simp[intOf];omega
      .
       have ht:(!Sort.ltInt (Gk j') (Gk a))=false:=by assumption
       have uU:Hid (j'=Sort.scanDown (fun x=>!Sort.ltInt x dk[a]!) dk i' j):=(qW (fun x=>!Sort.ltInt x dk[a]!) dk i' j' (Or.inr (by rw[<-AG.out a,<-AG.out j'];exact ht))).symm.trans AA.out;clear hcw AA ht;have hw3:wr.drewN nq=W1.drewN (n2+nq):=by rw[F5.out,gH]
       generalize wr.drewN nq=W3 at hw3 |-;have hc3:∀t,t<d.size->W3.cell? ⟨blk,off+t,none⟩=some (.int .u32 (Gk t)):=fun t ht=>by rw[hw3];exact hc t ht
       have hf3:∀t,t<d.size->W3.frozen? ⟨blk,off+t,none⟩=false:=fun t ht=>by rw[hw3];exact hf t ht
       have Kz:Hid (W3=W1.drewN (n2+nq)):=hw3;clear hw3;obtain⟨v3,hy3⟩:=qN (w:=W3) (p:=⟨blk,off+i',none⟩) (x:=.int .u32 (Gk j')) (q:=⟨blk,off+j',none⟩) (hc3 j' (by omega));have afZ:=part_scans_lt Sort.ltInt a i j dk (by omega) sG.out uU.out tZ;go_wp2;go_region
       all_goals go_wp2
       obtain⟨R,hR⟩:∃R,R=Sort.partLoop Sort.ltInt a (i'+1) (j'-1) (Sort.swp dk i' j'):=⟨_,rfl⟩;have HP:Hid (Sort.partition Sort.ltInt d a b pivot=(R.1,false,Sort.swp R.2 R.1 a)):=by rw[hR];exact part_first_go Sort.ltInt d a b pivot HI.out HJ.out HDK.out sG.out uU.out (by omega)
       have hw0:((W3.setCell ⟨blk,off+i',none⟩ (.int .u32 (Gk j'))).setCell ⟨blk,off+j',none⟩ (.int .u32 (Gk i'))).drew=(putRow (Value.int .u32) w blk off (Sort.swp dk i' j')).drewN (n+(n2+nq)+1):=by
        rw[Kz.out,AW.out,gH,AG.out i',AG.out j'];exact rf (Value.int .u32) w blk off dk _ i' j' (by omega) (by omega)
       have HR:Hid (R=Sort.partLoop Sort.ltInt a (i'+1) (j'-1) (Sort.swp dk i' j')):=hR;clear hR hc hf hc3 hf3 hy3 Kz AW AG sG uU
       go_loopw [10,11] (fun vi vj wr=>∃(i j n:Nat) (dk:Array Int),vi=.int .i64 i/\vj=.int .i64 j/\a<i/\i<=j+1/\j<b/\dk.size=d.size/\wr=(putRow (Value.int .u32) w blk off dk).drewN n/\
         Sort.partLoop Sort.ltInt a i j dk=R)
        (fun vi vj _=>(intOf vj).toNat+1-(intOf vi).toNat)
       case atStart=>exact⟨i'+1,j'-1,_,Sort.swp dk i' j',by go_num,by go_num,by omega,by omega,by omega,by rw[ic];exact hs,hw0,HR.out.symm⟩
       case round=>
        clear hw0 HR;obtain⟨i,j,n,dk,rfl,rfl,hai,oV,hjb,hs,hw,heq⟩:=hrel
        rename World=>W1
        have AE:Hid (Sort.partLoop Sort.ltInt a i j dk=R):=heq;clear heq;have OB:Holds (Value.int .u32) W1 blk off dk:=by
         rw[hw];exact holds_putRow (Value.int .u32) w blk off d dk AH.out hs
        obtain⟨Gk,hG⟩:∃Gk:Nat->Int,∀t,Gk t=dk[t]! :=⟨fun t=>dk[t]!,fun _=>rfl⟩;have hc:∀t,t<d.size->W1.cell? ⟨blk,off+t,none⟩=some (.int .u32 (Gk t)):=fun t ht=>by rw[hG];exact(OB t (by omega)).1
        have hf:∀t,t<d.size->W1.frozen? ⟨blk,off+t,none⟩=false:=fun t ht=>(OB t (by omega)).2;have AG:Hid (∀t,Gk t=dk[t]!):=hG;have AW:Hid (W1=(putRow (Value.int .u32) w blk off dk).drewN n):=hw;clear hG hw OB;go_wp2
        go_loopw [10] (fun vi w1=>∃(i' n1:Nat),vi=.int .i64 i'/\i<=i'/\i'<=j+1/\w1=W1.drewN n1/\
          Hid (Sort.scanUp (fun x=>Sort.ltInt x dk[a]!) dk j i'=Sort.scanUp (fun x=>Sort.ltInt x dk[a]!) dk j i))
         (fun vi _=>j+1-(intOf vi).toNat)
        case atStart=>exact⟨i,0,rfl,aG _,oV,rfl,rfl⟩
        case round=>
         obtain⟨i',n1,rfl,OC,Ld,Cm,hsc⟩:=hrel;have hcw:∀t,t<d.size->wr.cell? ⟨blk,off+t,none⟩=some (.int .u32 (Gk t)):=fun t ht=>by rw[Cm];exact hc t ht
         have Le:Hid (wr=W1.drewN n1):=Cm;clear Cm;by_cases hle:i'<=j
         .go_wp2_with fail
          go_big_quiet (first|(go_at_call 224;refine gT (ed _ _ _)))
          go_wp2
          .
           have ht:Sort.ltInt (Gk i') (Gk a)=true:=by assumption
           go_roundw
           case rel=>exact⟨i'+1,n1+nq,by go_num,by omega,by omega,by rw[Le.out,gH],(scanUp_go (fun x=>Sort.ltInt x dk[a]!) dk j i' hle (by rw[<-AG.out a,<-AG.out i'];exact ht)).symm.trans hsc.out⟩
           case measure=>simp[intOf];omega
          .
           have ht:Sort.ltInt (Gk i') (Gk a)=false:=by assumption
           have sG:Hid (i'=Sort.scanUp (fun x=>Sort.ltInt x dk[a]!) dk j i):=(scanUp_end (fun x=>Sort.ltInt x dk[a]!) dk j i' (Or.inr (by rw[<-AG.out a,<-AG.out i'];exact ht))).symm.trans hsc.out;clear ht;have hw2:wr.drewN nq=W1.drewN (n1+nq):=by rw[Le.out,gH]
           clear hcw Le hsc
           go_loopw [11] (fun vj w2=>∃(j' n2:Nat),vj=.int .i64 j'/\j'<=j/\i'<=j'+1/\w2=W1.drewN n2/\
             Hid (Sort.scanDown (fun x=>!Sort.ltInt x dk[a]!) dk i' j'=Sort.scanDown (fun x=>!Sort.ltInt x dk[a]!) dk i' j))
            (fun vj _=>(intOf vj).toNat)
           case atStart=>exact⟨j,n1+nq,rfl,aG _,Ld,hw2,rfl⟩
           case round=>
            clear hw2;obtain⟨j',n2,rfl,hjj,Wv,hw2,AA⟩:=hrel;have hcw:∀t,t<d.size->wr.cell? ⟨blk,off+t,none⟩=some (.int .u32 (Gk t)):=fun t ht=>by rw[hw2];exact hc t ht
            have F5:Hid (wr=W1.drewN n2):=hw2;clear hw2;by_cases tZ:i'<=j'
            .go_wp2_with fail
             go_big_quiet (first|(go_at_call 224;refine gT (ed _ _ _)))
             go_wp2
             .
              have ht:(!Sort.ltInt (Gk j') (Gk a))=true:=by assumption
              go_roundw
              case rel=>exact⟨j'-1,n2+nq,by go_num,by omega,by omega,by rw[F5.out,gH],(scanDown_go (fun x=>!Sort.ltInt x dk[a]!) dk i' j' tZ (by omega) (by rw[<-AG.out a,<-AG.out j'];exact ht)).symm.trans AA.out⟩
              case measure=>simp[intOf];omega
             .
              have ht:(!Sort.ltInt (Gk j') (Gk a))=false:=by assumption
              have uU:Hid (j'=Sort.scanDown (fun x=>!Sort.ltInt x dk[a]!) dk i' j):=(qW (fun x=>!Sort.ltInt x dk[a]!) dk i' j' (Or.inr (by rw[<-AG.out a,<-AG.out j'];exact ht))).symm.trans AA.out;clear hcw AA ht;have hw3:wr.drewN nq=W1.drewN (n2+nq):=by rw[F5.out,gH]
              generalize wr.drewN nq=W3 at hw3 |-;have hc3:∀t,t<d.size->W3.cell? ⟨blk,off+t,none⟩=some (.int .u32 (Gk t)):=fun t ht=>by rw[hw3];exact hc t ht
              have hf3:∀t,t<d.size->W3.frozen? ⟨blk,off+t,none⟩=false:=fun t ht=>by rw[hw3];exact hf t ht
              have Kz:Hid (W3=W1.drewN (n2+nq)):=hw3;clear hw3;obtain⟨v3,hy3⟩:=qN (w:=W3) (p:=⟨blk,off+i',none⟩) (x:=.int .u32 (Gk j')) (q:=⟨blk,off+j',none⟩) (hc3 j' (by omega));have afZ:=part_scans_lt Sort.ltInt a i j dk (by omega) sG.out uU.out tZ;go_wp2;go_region
              all_goals go_wp2
              all_goals go_roundw
              case rel=>
               refine⟨i'+1,j'-1,n+(n2+nq)+1,Sort.swp dk i' j',by go_num,by go_num,by omega,by omega,by omega,by rw[ic];exact hs,?_,?_⟩
               .rw[Kz.out,AW.out,gH,AG.out i',AG.out j'];exact rf (Value.int .u32) w blk off dk _ i' j' (by omega) (by omega)
               .exact(part_go Sort.ltInt a i j dk sG.out uU.out (by omega)).symm.trans AE.out
              case measure=>simp[intOf];omega
            .go_wp2_with fail
             go_big_quiet (first|(go_at_call 224;refine gT (ed _ _ _)))
             have uU:Hid (j'=Sort.scanDown (fun x=>!Sort.ltInt x dk[a]!) dk i' j):=(qW (fun x=>!Sort.ltInt x dk[a]!) dk i' j' (Or.inl tZ)).symm.trans AA.out;clear hcw AA;have hw3:wr.drewN nq=W1.drewN (n2+nq):=by rw[F5.out,gH]
             generalize wr.drewN nq=W3 at hw3 |-;have hc3:∀t,t<d.size->W3.cell? ⟨blk,off+t,none⟩=some (.int .u32 (Gk t)):=fun t ht=>by rw[hw3];exact hc t ht
             have hf3:∀t,t<d.size->W3.frozen? ⟨blk,off+t,none⟩=false:=fun t ht=>by rw[hw3];exact hf t ht
             have Kz:Hid (W3=W1.drewN (n2+nq)):=hw3;clear hw3;obtain⟨v3,hy3⟩:=qN (w:=W3) (p:=⟨blk,off+j',none⟩) (x:=.int .u32 (Gk a)) (q:=⟨blk,off+a,none⟩) (hc3 a (by omega));have hlj:j'<d.size:=by omega
             go_wp2;go_region
             all_goals go_wp2
             all_goals go_ret2
             have e:Sort.partition Sort.ltInt d a b pivot=(j',false,Sort.swp dk j' a):=by
              have e0:=(part_break Sort.ltInt a i j dk sG.out uU.out (by omega)).symm.trans AE.out;rw[HP.out,<-e0]
             refine⟨?_,n+(n2+nq)+1,?_⟩
             .rw[e];rfl
             .rw[e,Kz.out,AW.out,gH,AG.out a,AG.out j'];exact rf (Value.int .u32) w blk off dk _ j' a (by omega) (by omega)
         .go_wp2_with fail
          go_big_quiet (first|(go_at_call 224;refine gT (ed _ _ _)))
          go_wp2;have sG:Hid (i'=Sort.scanUp (fun x=>Sort.ltInt x dk[a]!) dk j i):=(scanUp_end (fun x=>Sort.ltInt x dk[a]!) dk j i' (Or.inl hle)).symm.trans hsc.out;have hw2:wr.drewN nq=W1.drewN (n1+nq):=by rw[Le.out,gH]
          clear hcw Le hsc
          go_loopw [11] (fun vj w2=>∃(j' n2:Nat),vj=.int .i64 j'/\j'<=j/\i'<=j'+1/\w2=W1.drewN n2/\
            Hid (Sort.scanDown (fun x=>!Sort.ltInt x dk[a]!) dk i' j'=Sort.scanDown (fun x=>!Sort.ltInt x dk[a]!) dk i' j))
           (fun vj _=>(intOf vj).toNat)
          case atStart=>exact⟨j,n1+nq,rfl,aG _,Ld,hw2,rfl⟩
          case round=>
           clear hw2;obtain⟨j',n2,rfl,hjj,Wv,hw2,AA⟩:=hrel;have hcw:∀t,t<d.size->wr.cell? ⟨blk,off+t,none⟩=some (.int .u32 (Gk t)):=fun t ht=>by rw[hw2];exact hc t ht
           have F5:Hid (wr=W1.drewN n2):=hw2;clear hw2;by_cases tZ:i'<=j'
           .exfalso;omega
           .go_wp2_with fail
            go_big_quiet (first|(go_at_call 224;refine gT (ed _ _ _)))
            have uU:Hid (j'=Sort.scanDown (fun x=>!Sort.ltInt x dk[a]!) dk i' j):=(qW (fun x=>!Sort.ltInt x dk[a]!) dk i' j' (Or.inl tZ)).symm.trans AA.out;clear hcw AA;have hw3:wr.drewN nq=W1.drewN (n2+nq):=by rw[F5.out,gH]
            generalize wr.drewN nq=W3 at hw3 |-;have hc3:∀t,t<d.size->W3.cell? ⟨blk,off+t,none⟩=some (.int .u32 (Gk t)):=fun t ht=>by rw[hw3];exact hc t ht
            have hf3:∀t,t<d.size->W3.frozen? ⟨blk,off+t,none⟩=false:=fun t ht=>by rw[hw3];exact hf t ht
            have Kz:Hid (W3=W1.drewN (n2+nq)):=hw3;clear hw3;obtain⟨v3,hy3⟩:=qN (w:=W3) (p:=⟨blk,off+j',none⟩) (x:=.int .u32 (Gk a)) (q:=⟨blk,off+a,none⟩) (hc3 a (by omega));have hlj:j'<d.size:=by omega
            go_wp2;go_region
            all_goals go_wp2
            all_goals go_ret2
            have e:Sort.partition Sort.ltInt d a b pivot=(j',false,Sort.swp dk j' a):=by
             have e0:=(part_break Sort.ltInt a i j dk sG.out uU.out (by omega)).symm.trans AE.out;rw[HP.out,<-e0]
            refine⟨?_,n+(n2+nq)+1,?_⟩
            .rw[e];rfl
            .rw[e,Kz.out,AW.out,gH,AG.out a,AG.out j'];exact rf (Value.int .u32) w blk off dk _ j' a (by omega) (by omega)
     .go_wp2_with fail
      go_big_quiet (first|(go_at_call 224;refine gT (ed _ _ _)))
      have uU:Hid (j'=Sort.scanDown (fun x=>!Sort.ltInt x dk[a]!) dk i' j):=(qW (fun x=>!Sort.ltInt x dk[a]!) dk i' j' (Or.inl tZ)).symm.trans AA.out;clear hcw AA;have hw3:wr.drewN nq=W1.drewN (n2+nq):=by rw[F5.out,gH]
      generalize wr.drewN nq=W3 at hw3 |-;have hc3:∀t,t<d.size->W3.cell? ⟨blk,off+t,none⟩=some (.int .u32 (Gk t)):=fun t ht=>by rw[hw3];exact hc t ht
      have hf3:∀t,t<d.size->W3.frozen? ⟨blk,off+t,none⟩=false:=fun t ht=>by rw[hw3];exact hf t ht
      have Kz:Hid (W3=W1.drewN (n2+nq)):=hw3;clear hw3;obtain⟨v3,hy3⟩:=qN (w:=W3) (p:=⟨blk,off+j',none⟩) (x:=.int .u32 (Gk a)) (q:=⟨blk,off+a,none⟩) (hc3 a (by omega));have hlj:j'<d.size:=by omega
      go_wp2;go_region
      all_goals go_wp2
      all_goals go_ret2
      have e:Sort.partition Sort.ltInt d a b pivot=(j',true,Sort.swp dk j' a):=part_first_break Sort.ltInt d a b pivot HI.out HJ.out HDK.out sG.out uU.out (by omega);refine⟨?_,n+(n2+nq)+1,?_⟩
      .rw[e];rfl
      .rw[e,Kz.out,AW.out,gH,AG.out a,AG.out j'];exact rf (Value.int .u32) w blk off dk _ j' a (by omega) (by omega)
  .go_wp2_with fail
   go_big_quiet (first|(go_at_call 224;refine gT (ed _ _ _)))
   go_wp2;have sG:Hid (i'=Sort.scanUp (fun x=>Sort.ltInt x dk[a]!) dk j i):=(scanUp_end (fun x=>Sort.ltInt x dk[a]!) dk j i' (Or.inl hle)).symm.trans hsc.out;have hw2:wr.drewN nq=W1.drewN (n1+nq):=by rw[Le.out,gH]
   clear hcw Le hsc
   go_loopw [11] (fun vj w2=>∃(j' n2:Nat),vj=.int .i64 j'/\j'<=j/\i'<=j'+1/\w2=W1.drewN n2/\
     Hid (Sort.scanDown (fun x=>!Sort.ltInt x dk[a]!) dk i' j'=Sort.scanDown (fun x=>!Sort.ltInt x dk[a]!) dk i' j))
    (fun vj _=>(intOf vj).toNat)
   case atStart=>exact⟨j,n1+nq,rfl,aG _,Ld,hw2,rfl⟩
   case round=>
    clear hw2;obtain⟨j',n2,rfl,hjj,Wv,hw2,AA⟩:=hrel;have hcw:∀t,t<d.size->wr.cell? ⟨blk,off+t,none⟩=some (.int .u32 (Gk t)):=fun t ht=>by rw[hw2];exact hc t ht
    have F5:Hid (wr=W1.drewN n2):=hw2;clear hw2;by_cases tZ:i'<=j'
    .exfalso;omega
    .go_wp2_with fail
     go_big_quiet (first|(go_at_call 224;refine gT (ed _ _ _)))
     have uU:Hid (j'=Sort.scanDown (fun x=>!Sort.ltInt x dk[a]!) dk i' j):=(qW (fun x=>!Sort.ltInt x dk[a]!) dk i' j' (Or.inl tZ)).symm.trans AA.out;clear hcw AA;have hw3:wr.drewN nq=W1.drewN (n2+nq):=by rw[F5.out,gH]
     generalize wr.drewN nq=W3 at hw3 |-;have hc3:∀t,t<d.size->W3.cell? ⟨blk,off+t,none⟩=some (.int .u32 (Gk t)):=fun t ht=>by rw[hw3];exact hc t ht
     have hf3:∀t,t<d.size->W3.frozen? ⟨blk,off+t,none⟩=false:=fun t ht=>by rw[hw3];exact hf t ht
     have Kz:Hid (W3=W1.drewN (n2+nq)):=hw3;clear hw3;obtain⟨v3,hy3⟩:=qN (w:=W3) (p:=⟨blk,off+j',none⟩) (x:=.int .u32 (Gk a)) (q:=⟨blk,off+a,none⟩) (hc3 a (by omega));have hlj:j'<d.size:=by omega
     go_wp2;go_region
     all_goals go_wp2
     all_goals go_ret2
     have e:Sort.partition Sort.ltInt d a b pivot=(j',true,Sort.swp dk j' a):=part_first_break Sort.ltInt d a b pivot HI.out HJ.out HDK.out sG.out uU.out (by omega);refine⟨?_,n+(n2+nq)+1,?_⟩
     .rw[e];rfl
     .rw[e,Kz.out,AW.out,gH,AG.out a,AG.out j'];exact rf (Value.int .u32) w blk off dk _ j' a (by omega) (by omega)
theorem Tz (blk off cap a b:Nat) (d:Array Int) (w:World) (hH:Holds (Value.int .u32) w blk off d) (hab:a<b) (hb:b<=d.size) (hsz:d.size<4611686018427387904):
  Calls Tryz.prog 223 #[.slice (some ⟨blk,off,none⟩) d.size cap,.int .i64 a,.int .i64 b] w fun e w'=>
   e=.returned (.bool (Sort.partialInsertionSort ltInt d a b).2)/\∃n,w'=putRow (Value.int .u32) (Sort.ahead w n) blk off (Sort.partialInsertionSort ltInt d a b).1:=by
 have HH:Hid (Holds (Value.int .u32) w blk off d):=hH;have HST:Hid (w=putRow (Value.int .u32) (Sort.ahead w 0) blk off d):=(qZ _ _ _ _ _ hH).symm;clear hH;go_enter Tryz.func223,Tryz.ntmps223;go_wp2
 go_loopw [7,8] (fun vi vs wr=>∃(i s n:Nat) (dk:Array Int),vi=.int .i64 i/\vs=.int .i64 s/\s<=5/\a<i/\i<=b/\dk.size=d.size/\wr=putRow (Value.int .u32) (Sort.ahead w n) blk off dk/\
   partialIns ltInt a b (5-s) i dk=partialIns ltInt a b 5 (a+1) d) (fun _ vs _=>5-(intOf vs).toNat)
 case atStart=>exact⟨a+1,0,0,d,by go_num,rfl,by omega,by omega,by omega,rfl,HST.out,rfl⟩
 case round=>
  obtain⟨i,s,n,dk,rfl,rfl,hs5,hai,hib,hsk,hwr,hO⟩:=hrel;have HO:Hid (partialIns ltInt a b (5-s) i dk=partialIns ltInt a b 5 (a+1) d):=hO;clear hO;go_wp2
  .
   have hs:s<5:=by omega
   go_loopw [7] (fun vi wr2=>∃(k m:Nat),vi=.int .i64 k/\i<=k/\k<=b/\wr2=putRow (Value.int .u32) (Sort.ahead w m) blk off dk/\scanSorted ltInt dk b k=scanSorted ltInt dk b i) (fun vi _=>b-(intOf vi).toNat)
   case atStart=>exact⟨i,n,rfl,aG _,hib,rfl,rfl⟩
   case round=>
    obtain⟨k,m,rfl,hik,hkb,hw2,hS⟩:=hrel;obtain⟨G,hG⟩:∃G:Nat->Int,∀t,G t=dk[t]! :=⟨fun t=>dk[t]!,fun _=>rfl⟩;have hcw:∀t,t<d.size->wr.cell? ⟨blk,off+t,none⟩=some (.int .u32 (G t)):=fun t ht=>by
     rw[hw2,hG];exact xm _ _ _ _ d dk (jT _ _ _ _ _ _ HH.out) hsk t (by omega)
    have hfw:∀t,t<d.size->wr.frozen? ⟨blk,off+t,none⟩=false:=fun t ht=>by
     rw[hw2,tQ];exact((jT _ _ m _ _ _ HH.out) t ht).2
    have HW:Hid (wr=putRow (Value.int .u32) (Sort.ahead w m) blk off dk):=hw2;have HG:Hid (∀t,G t=dk[t]!):=hG;have HS:Hid (scanSorted ltInt dk b k=scanSorted ltInt dk b i):=hS;clear hw2 hG hS;go_wp2;by_cases hkb':k<b
    .go_quiet (first|(go_at_call 224;refine gT (ed _ _ _)))
     go_wp2
     all_goals first
      |(at_end
        have hl:ltInt (G k) (G (k-1))=false:=by
         have h:(!ltInt (G k) (G (k-1)))=true:=by assumption
         simpa using h
        go_roundw
        case rel=>exact⟨k+1,m+nq,by go_num,by omega,by omega,by rw[HW.out];exact lq _ _ _ _ _ _ _,by rw[<-HS.out,scanSorted_go ltInt dk b k hkb' (by rw[<-HG.out,<-HG.out];exact hl)]⟩
        case measure=>simp[intOf];omega)
      |(have hl:ltInt (G k) (G (k-1))=true:=by
         have h:(!ltInt (G k) (G (k-1)))=false:=by assumption
         simpa using h
        have HK:Hid (scanSorted ltInt dk b i=k):=by
         show scanSorted ltInt dk b i=k;rw[<-HS.out,scanSorted_stop ltInt dk b k (Or.inr (by rw[<-HG.out,<-HG.out];exact hl))]
        first
         |(at_ret
           have hv:Sort.partialInsertionSort ltInt d a b=(dk,false):=by
            unfold Sort.partialInsertionSort;rw[<-HO.out,pi_short ltInt a b s i dk hs (by rw[HK.out];omega) (by omega)]
           rw[hv];go_ret;exact⟨rfl,m+nq,by rw[HW.out];exact lq _ _ _ _ _ _ _⟩)
         |(at_region 11
           have h50:¬b-a<50:=by omega
           go_region;have hsw:((wr.drewN (nq+1)).setCell ⟨blk,off+k,none⟩ (.int .u32 (G (k-1)))).setCell ⟨blk,off+(k-1),none⟩ (.int .u32 (G k))=putRow (Value.int .u32) (Sort.ahead w (m+(nq+1))) blk off (swp dk k (k-1)):=by
            rw[HW.out,HG.out,HG.out];exact swap_worldA _ w m (nq+1) blk off dk k (k-1) (by omega) (by omega)
           have hs1:(swp dk k (k-1)).size=d.size:=by rw[ic];exact hsk
           go_wp2
           all_goals first
            |(at_loop
              have hka:k-a>=2:=by omega
              go_loopw [9] (fun vj wr2=>∃(j m2:Nat) (dj:Array Int),vj=.int .i64 j/\j<=k-1/\dj.size=d.size/\wr2=putRow (Value.int .u32) (Sort.ahead w m2) blk off dj/\
                shiftDown ltInt j dj=shiftDown ltInt (k-1) (swp dk k (k-1))) (fun vj _=>(intOf vj).toNat)
              case atStart=>exact⟨k-1,_,(swp dk k (k-1)),by congr 1;omega,aG _,hs1,rfl,rfl⟩
              case round=>
               obtain⟨j,m2,dj,rfl,hjk,hsj,hw2,hDn⟩:=hrel;obtain⟨G,hG⟩:∃G:Nat->Int,∀t,G t=dj[t]! :=⟨fun t=>dj[t]!,fun _=>rfl⟩;have hcw:∀t,t<d.size->wr.cell? ⟨blk,off+t,none⟩=some (.int .u32 (G t)):=fun t ht=>by
                rw[hw2,hG];exact xm _ _ _ _ d dj (jT _ _ _ _ _ _ HH.out) hsj t (by omega)
               have hfw:∀t,t<d.size->wr.frozen? ⟨blk,off+t,none⟩=false:=fun t ht=>by
                rw[hw2,tQ];exact((jT _ _ m2 _ _ _ HH.out) t ht).2
               have HW:Hid (wr=putRow (Value.int .u32) (Sort.ahead w m2) blk off dj):=hw2;have HG:Hid (∀t,G t=dj[t]!):=hG;have HDn:Hid (shiftDown ltInt j dj=shiftDown ltInt (k-1) (swp dk k (k-1))):=hDn;clear hw2 hG hDn hsw;go_wp2
               all_goals first
                |(at_region 16
                  go_quiet (first|(go_at_call 224;refine gT (ed _ _ _)))
                  go_wp2
                  all_goals first
                   |(at_region 17
                     have hl:ltInt (G j) (G (j-1))=true:=by
                      have h:(!ltInt (G j) (G (j-1)))=false:=by assumption
                      simpa using h
                     go_region
                     all_goals go_wp2
                     go_roundw
                     case rel=>
                      refine⟨j-1,m2+(nq+1),swp dj j (j-1),by congr 1;omega,by omega,by rw[ic];exact hsj,?_,?_⟩
                      .rw[HW.out,HG.out,HG.out];exact swap_worldA _ w m2 (nq+1) blk off dj j (j-1) (by omega) (by omega)
                      .rw[<-HDn.out,shiftDown_go ltInt j dj (by omega) (by rw[<-HG.out,<-HG.out];exact hl)]
                     case measure=>simp[intOf];omega)
                   |(
                     have hl:ltInt (G j) (G (j-1))=false:=by
                      have h:(!ltInt (G j) (G (j-1)))=true:=by assumption
                      simpa using h
                     have HD:Hid (fixDown ltInt a k (swp dk k (k-1))=dj):=by
                      show fixDown ltInt a k (swp dk k (k-1))=dj;unfold fixDown;rw[aR hka,<-HDn.out,shiftDown_stop ltInt j dj (Or.inr (by rw[<-HG.out,<-HG.out];exact hl))]
                     first
                      |(at_end
                        go_roundw
                        case rel=>
                         refine⟨k,s+1,_,dj,rfl,by go_num,by omega,by omega,by omega,hsj,(by first|rfl|exact HW.out|(rw[HW.out];exact lq _ _ _ _ _ _ _)),?_⟩;rw[<-HO.out,pi_go ltInt a b s i k dk hs HK.out (by omega) (by omega),HD.out,show fixUp ltInt b k dj=dj from by unfold fixUp;rw[aP (by omega)]]
                        case measure=>simp[intOf];omega)
                      |(at_loop
                        go_loopw [10] (fun vj wr2=>∃(j m3:Nat) (du:Array Int),vj=.int .i64 j/\k+1<=j/\j<=b/\du.size=d.size/\wr2=putRow (Value.int .u32) (Sort.ahead w m3) blk off du/\
                          shiftUp ltInt b j du=shiftUp ltInt b (k+1) dj) (fun vj _=>b-(intOf vj).toNat)
                        case atStart=>exact⟨k+1,_,dj,by go_num,aG _,by omega,hsj,(by first|rfl|exact HW.out|(rw[HW.out];exact lq _ _ _ _ _ _ _)),rfl⟩
                        case round=>
                         obtain⟨j,m3,du,rfl,hkj,hjb,hsu,hw3,hU⟩:=hrel;obtain⟨G,hG⟩:∃G:Nat->Int,∀t,G t=du[t]! :=⟨fun t=>du[t]!,fun _=>rfl⟩;have hcw:∀t,t<d.size->wr.cell? ⟨blk,off+t,none⟩=some (.int .u32 (G t)):=fun t ht=>by
                          rw[hw3,hG];exact xm _ _ _ _ d du (jT _ _ _ _ _ _ HH.out) hsu t (by omega)
                         have hfw:∀t,t<d.size->wr.frozen? ⟨blk,off+t,none⟩=false:=fun t ht=>by
                          rw[hw3,tQ];exact((jT _ _ m3 _ _ _ HH.out) t ht).2
                         have HW:Hid (wr=putRow (Value.int .u32) (Sort.ahead w m3) blk off du):=hw3;have HG:Hid (∀t,G t=du[t]!):=hG;have HU:Hid (shiftUp ltInt b j du=shiftUp ltInt b (k+1) dj):=hU;clear hw3 hG hU;go_wp2
                         all_goals first
                          |(at_region 22
                            go_quiet (first|(go_at_call 224;refine gT (ed _ _ _)))
                            go_wp2
                            all_goals first
                             |(at_region 23
                               have hl:ltInt (G j) (G (j-1))=true:=by
                                have h:(!ltInt (G j) (G (j-1)))=false:=by assumption
                                simpa using h
                               go_region
                               all_goals go_wp2
                               go_roundw
                               case rel=>
                                refine⟨j+1,m3+(nq+1),swp du j (j-1),by go_num,by omega,by omega,by rw[ic];exact hsu,?_,?_⟩
                                .rw[HW.out,HG.out,HG.out];exact swap_worldA _ w m3 (nq+1) blk off du j (j-1) (by omega) (by omega)
                                .rw[<-HU.out,shiftUp_go ltInt b j du (by omega) (by rw[<-HG.out,<-HG.out];exact hl)]
                               case measure=>simp[intOf];omega)
                             |(at_end
                               have hl:ltInt (G j) (G (j-1))=false:=by
                                have h:(!ltInt (G j) (G (j-1)))=true:=by assumption
                                simpa using h
                               go_roundw
                               case rel=>
                                refine⟨k,s+1,_,du,rfl,by go_num,by omega,by omega,by omega,hsu,(by first|rfl|exact HW.out|(rw[HW.out];exact lq _ _ _ _ _ _ _)),?_⟩;rw[<-HO.out,pi_go ltInt a b s i k dk hs HK.out (by omega) (by omega),HD.out,show fixUp ltInt b k dj=du from by unfold fixUp;rw[aR (by omega),<-HU.out,Ar ltInt b j du (Or.inr (by rw[<-HG.out,<-HG.out];exact hl))]]
                               case measure=>simp[intOf];omega))
                          |(at_end
                            go_roundw
                            case rel=>
                             refine⟨k,s+1,_,du,rfl,by go_num,by omega,by omega,by omega,hsu,(by first|rfl|exact HW.out|(rw[HW.out];exact lq _ _ _ _ _ _ _)),?_⟩;rw[<-HO.out,pi_go ltInt a b s i k dk hs HK.out (by omega) (by omega),HD.out,show fixUp ltInt b k dj=du from by unfold fixUp;rw[aR (by omega),<-HU.out,Ar ltInt b j du (Or.inl (by omega))]]
                            case measure=>simp[intOf];omega))))
                |(
                  have HD:Hid (fixDown ltInt a k (swp dk k (k-1))=dj):=by
                   show fixDown ltInt a k (swp dk k (k-1))=dj;unfold fixDown;rw[aR hka,<-HDn.out,shiftDown_stop ltInt j dj (Or.inl (by omega))]
                  first
                   |(at_end
                     go_roundw
                     case rel=>
                      refine⟨k,s+1,_,dj,rfl,by go_num,by omega,by omega,by omega,hsj,(by first|rfl|exact HW.out|(rw[HW.out];exact lq _ _ _ _ _ _ _)),?_⟩;rw[<-HO.out,pi_go ltInt a b s i k dk hs HK.out (by omega) (by omega),HD.out,show fixUp ltInt b k dj=dj from by unfold fixUp;rw[aP (by omega)]]
                     case measure=>simp[intOf];omega)
                   |(at_loop
                     go_loopw [10] (fun vj wr2=>∃(j m3:Nat) (du:Array Int),vj=.int .i64 j/\k+1<=j/\j<=b/\du.size=d.size/\wr2=putRow (Value.int .u32) (Sort.ahead w m3) blk off du/\
                       shiftUp ltInt b j du=shiftUp ltInt b (k+1) dj) (fun vj _=>b-(intOf vj).toNat)
                     case atStart=>exact⟨k+1,_,dj,by go_num,aG _,by omega,hsj,(by first|rfl|exact HW.out|(rw[HW.out];exact lq _ _ _ _ _ _ _)),rfl⟩
                     case round=>
                      obtain⟨j,m3,du,rfl,hkj,hjb,hsu,hw3,hU⟩:=hrel;obtain⟨G,hG⟩:∃G:Nat->Int,∀t,G t=du[t]! :=⟨fun t=>du[t]!,fun _=>rfl⟩;have hcw:∀t,t<d.size->wr.cell? ⟨blk,off+t,none⟩=some (.int .u32 (G t)):=fun t ht=>by
                       rw[hw3,hG];exact xm _ _ _ _ d du (jT _ _ _ _ _ _ HH.out) hsu t (by omega)
                      have hfw:∀t,t<d.size->wr.frozen? ⟨blk,off+t,none⟩=false:=fun t ht=>by
                       rw[hw3,tQ];exact((jT _ _ m3 _ _ _ HH.out) t ht).2
                      have HW:Hid (wr=putRow (Value.int .u32) (Sort.ahead w m3) blk off du):=hw3;have HG:Hid (∀t,G t=du[t]!):=hG;have HU:Hid (shiftUp ltInt b j du=shiftUp ltInt b (k+1) dj):=hU;clear hw3 hG hU;go_wp2
                      all_goals first
                       |(at_region 22
                         go_quiet (first|(go_at_call 224;refine gT (ed _ _ _)))
                         go_wp2
                         all_goals first
                          |(at_region 23
                            have hl:ltInt (G j) (G (j-1))=true:=by
                             have h:(!ltInt (G j) (G (j-1)))=false:=by assumption
                             simpa using h
                            go_region
                            all_goals go_wp2
                            go_roundw
                            case rel=>
                             refine⟨j+1,m3+(nq+1),swp du j (j-1),by go_num,by omega,by omega,by rw[ic];exact hsu,?_,?_⟩
                             .rw[HW.out,HG.out,HG.out];exact swap_worldA _ w m3 (nq+1) blk off du j (j-1) (by omega) (by omega)
                             .rw[<-HU.out,shiftUp_go ltInt b j du (by omega) (by rw[<-HG.out,<-HG.out];exact hl)]
                            case measure=>simp[intOf];omega)
                          |(at_end
                            have hl:ltInt (G j) (G (j-1))=false:=by
                             have h:(!ltInt (G j) (G (j-1)))=true:=by assumption
                             simpa using h
                            go_roundw
                            case rel=>
                             refine⟨k,s+1,_,du,rfl,by go_num,by omega,by omega,by omega,hsu,(by first|rfl|exact HW.out|(rw[HW.out];exact lq _ _ _ _ _ _ _)),?_⟩;rw[<-HO.out,pi_go ltInt a b s i k dk hs HK.out (by omega) (by omega),HD.out,show fixUp ltInt b k dj=du from by unfold fixUp;rw[aR (by omega),<-HU.out,Ar ltInt b j du (Or.inr (by rw[<-HG.out,<-HG.out];exact hl))]]
                            case measure=>simp[intOf];omega))
                       |(at_end
                         go_roundw
                         case rel=>
                          refine⟨k,s+1,_,du,rfl,by go_num,by omega,by omega,by omega,hsu,(by first|rfl|exact HW.out|(rw[HW.out];exact lq _ _ _ _ _ _ _)),?_⟩;rw[<-HO.out,pi_go ltInt a b s i k dk hs HK.out (by omega) (by omega),HD.out,show fixUp ltInt b k dj=du from by unfold fixUp;rw[aR (by omega),<-HU.out,Ar ltInt b j du (Or.inl (by omega))]]
                         case measure=>simp[intOf];omega))))
            |(
              have HD:Hid (fixDown ltInt a k (swp dk k (k-1))=(swp dk k (k-1))):=by
               show fixDown ltInt a k (swp dk k (k-1))=(swp dk k (k-1));unfold fixDown;rw[aP (by omega)]
              first
               |(at_end
                 go_roundw
                 case rel=>
                  refine⟨k,s+1,_,(swp dk k (k-1)),rfl,by go_num,by omega,by omega,by omega,hs1,(by first|rfl|exact HW.out|(rw[HW.out];exact lq _ _ _ _ _ _ _)),?_⟩;rw[<-HO.out,pi_go ltInt a b s i k dk hs HK.out (by omega) (by omega),HD.out,show fixUp ltInt b k (swp dk k (k-1))=(swp dk k (k-1))from by unfold fixUp;rw[aP (by omega)]]
                 case measure=>simp[intOf];omega)
               |(at_loop
                 go_loopw [10] (fun vj wr2=>∃(j m3:Nat) (du:Array Int),vj=.int .i64 j/\k+1<=j/\j<=b/\du.size=d.size/\wr2=putRow (Value.int .u32) (Sort.ahead w m3) blk off du/\
                   shiftUp ltInt b j du=shiftUp ltInt b (k+1) (swp dk k (k-1))) (fun vj _=>b-(intOf vj).toNat)
                 case atStart=>exact⟨k+1,_,(swp dk k (k-1)),by go_num,aG _,by omega,hs1,(by first|rfl|exact HW.out|(rw[HW.out];exact lq _ _ _ _ _ _ _)),rfl⟩
                 case round=>
                  obtain⟨j,m3,du,rfl,hkj,hjb,hsu,hw3,hU⟩:=hrel;obtain⟨G,hG⟩:∃G:Nat->Int,∀t,G t=du[t]! :=⟨fun t=>du[t]!,fun _=>rfl⟩;have hcw:∀t,t<d.size->wr.cell? ⟨blk,off+t,none⟩=some (.int .u32 (G t)):=fun t ht=>by
                   rw[hw3,hG];exact xm _ _ _ _ d du (jT _ _ _ _ _ _ HH.out) hsu t (by omega)
                  have hfw:∀t,t<d.size->wr.frozen? ⟨blk,off+t,none⟩=false:=fun t ht=>by
                   rw[hw3,tQ];exact((jT _ _ m3 _ _ _ HH.out) t ht).2
                  have HW:Hid (wr=putRow (Value.int .u32) (Sort.ahead w m3) blk off du):=hw3;have HG:Hid (∀t,G t=du[t]!):=hG;have HU:Hid (shiftUp ltInt b j du=shiftUp ltInt b (k+1) (swp dk k (k-1))):=hU;clear hw3 hG hU;go_wp2
                  all_goals first
                   |(at_region 22
                     go_quiet (first|(go_at_call 224;refine gT (ed _ _ _)))
                     go_wp2
                     all_goals first
                      |(at_region 23
                        have hl:ltInt (G j) (G (j-1))=true:=by
                         have h:(!ltInt (G j) (G (j-1)))=false:=by assumption
                         simpa using h
                        go_region
                        all_goals go_wp2
                        go_roundw
                        case rel=>
                         refine⟨j+1,m3+(nq+1),swp du j (j-1),by go_num,by omega,by omega,by rw[ic];exact hsu,?_,?_⟩
                         .rw[HW.out,HG.out,HG.out];exact swap_worldA _ w m3 (nq+1) blk off du j (j-1) (by omega) (by omega)
                         .rw[<-HU.out,shiftUp_go ltInt b j du (by omega) (by rw[<-HG.out,<-HG.out];exact hl)]
                        case measure=>simp[intOf];omega)
                      |(at_end
                        have hl:ltInt (G j) (G (j-1))=false:=by
                         have h:(!ltInt (G j) (G (j-1)))=true:=by assumption
                         simpa using h
                        go_roundw
                        case rel=>
                         refine⟨k,s+1,_,du,rfl,by go_num,by omega,by omega,by omega,hsu,(by first|rfl|exact HW.out|(rw[HW.out];exact lq _ _ _ _ _ _ _)),?_⟩;rw[<-HO.out,pi_go ltInt a b s i k dk hs HK.out (by omega) (by omega),HD.out,show fixUp ltInt b k (swp dk k (k-1))=du from by unfold fixUp;rw[aR (by omega),<-HU.out,Ar ltInt b j du (Or.inr (by rw[<-HG.out,<-HG.out];exact hl))]]
                        case measure=>simp[intOf];omega))
                   |(at_end
                     go_roundw
                     case rel=>
                      refine⟨k,s+1,_,du,rfl,by go_num,by omega,by omega,by omega,hsu,(by first|rfl|exact HW.out|(rw[HW.out];exact lq _ _ _ _ _ _ _)),?_⟩;rw[<-HO.out,pi_go ltInt a b s i k dk hs HK.out (by omega) (by omega),HD.out,show fixUp ltInt b k (swp dk k (k-1))=du from by unfold fixUp;rw[aR (by omega),<-HU.out,Ar ltInt b j du (Or.inl (by omega))]]
                     case measure=>simp[intOf];omega)))))
    .
     go_quiet (first|(go_at_call 224;refine gT (ed _ _ _)))
     go_wp2;obtain rfl:k=b:=by omega
     have hv:Sort.partialInsertionSort ltInt d a k=(dk,true):=by
      unfold Sort.partialInsertionSort;rw[<-HO.out,pi_true ltInt a k s i dk hs (by rw[<-HS.out,scanSorted_stop ltInt dk k k (Or.inl (by omega))])]
     rw[hv];go_ret;exact⟨rfl,m+nq,by rw[HW.out];exact lq _ _ _ _ _ _ _⟩
  .
   obtain rfl:s=5:=by omega
   have hv:Sort.partialInsertionSort ltInt d a b=(dk,false):=by
    unfold Sort.partialInsertionSort;rw[<-HO.out,pi_end]
   rw[hv];go_ret;exact⟨rfl,n,rfl⟩
theorem ab0 (rb ro X:Nat) (hX:X<18446744073709551616) (w:World) (hc:w.cell? ⟨rb,ro,none⟩=some (.int .u64 X)) (hf:w.frozen? ⟨rb,ro,none⟩=false):
  Calls Tryz.prog 287 #[.pointer (some ⟨rb,ro,none⟩)] w fun e w'=>e=.returned (.int .u64 (xorNextN X:Nat))/\w'=(w.setCell ⟨rb,ro,none⟩ (.int .u64 (xorNextN X:Nat))).drewN 3:=by
 obtain⟨A,hA⟩:∃A:Nat,A=X ^^^ (X*8192%18446744073709551616):=⟨_,rfl⟩;obtain⟨B,hB⟩:∃B:Nat,B=A ^^^ (A/128):=⟨_,rfl⟩;obtain⟨C,hC⟩:∃C:Nat,C=B ^^^ (B*131072%18446744073709551616):=⟨_,rfl⟩;have lA:A<18446744073709551616:=by rw[hA];exact Nat.xor_lt_two_pow (n:=64) (by omega) (by omega)
 have lB:B<18446744073709551616:=by rw[hB];exact Nat.xor_lt_two_pow (n:=64) (by omega) (by omega)
 have e1:bits .xor .u64 (X:Int) (IntKind.u64.wrap ((X:Int)*8192))=(A:Int):=by
  rw[IntKind.wrap_u64,show((X:Int)*8192%18446744073709551616)=((X*8192%18446744073709551616:Nat):Int) by omega,bits_xor_u64_nat _ _ hX (by omega),hA]
 have e2:bits .xor .u64 (A:Int) ((A:Int)/128)=(B:Int):=by
  rw[show((A:Int)/128)=((A/128:Nat):Int) by omega,bits_xor_u64_nat _ _ lA (by omega),hB]
 have e3:bits .xor .u64 (B:Int) (IntKind.u64.wrap ((B:Int)*131072))=(C:Int):=by
  rw[IntKind.wrap_u64,show((B:Int)*131072%18446744073709551616)=((B*131072%18446744073709551616:Nat):Int) by omega,bits_xor_u64_nat _ _ lB (by omega),hC]
 have hv:xorNextN X=C:=by unfold xorNextN;simp only[];rw[<-hA,<-hB,<-hC]
 rw[hv];clear hA hB hC hv;have hss:∀v v',(w.setCell ⟨rb,ro,none⟩ v).setCell ⟨rb,ro,none⟩ v'=w.setCell ⟨rb,ro,none⟩ v':=setCell_setCell w rb ro;go_enter Tryz.func287,Tryz.ntmps287;go_wp2;go_region
 all_goals go_wp2
 all_goals go_region
 all_goals go_wp2
 all_goals go_region
 all_goals go_wp2
 go_ret;exact⟨rfl,rfl⟩
theorem af1 (n:Nat) (hn:n<4611686018427387904) (w:World):
  Calls Tryz.prog 286 #[.int .i64 n] w fun e w'=>e=.returned (.int .u64 ((1 <<< bitsLen n:Nat):Int))/\w'=w:=by
 have ab1:∀w,Calls Tryz.prog 86 #[.int .u64 (n:Int)] w fun e w'=>e=.returned (.int .i64 (bitsLen n:Nat))/\w'=w:=fun w=>by
  have h:=Tryz.bits_Len (n:Int) w (by omega) (by omega);rwa [iF,bitLen_eq _ (by omega)]at h
 have hk:bitsLen n<=62:=(bitsLen_le_iff n 62).2 (by omega);have hp:=wrap_two_pow (bitsLen n) hk;go_enter Tryz.func286,Tryz.ntmps286
 go_wp2_with (first|(go_at_call 86;refine(ab1 _).mono ?_;rintro e w' ⟨rfl,rfl⟩))
 go_ret;exact⟨rfl,rfl⟩
theorem ab2 (blk off cap a L:Nat) (d:Array Int) (w:World) (hH:Holds (Value.int .u32) w blk off d) (hblk:blk<w.heap.size) (hb:a+L<=d.size) (hsz:d.size<4611686018427387904) (h8:8<=L):
  Calls Tryz.prog 220 #[.slice (some ⟨blk,off,none⟩) d.size cap,.int .i64 a,.int .i64 ((a+L:Nat):Int)] w fun e w'=>
   e=.returned (.tuple #[])/\∃n os,w'=grow (putRow (Value.int .u32) (Sort.ahead w n) blk off (breakPatterns d a (a+L))) os:=by
 rw[breakPatterns_eq d a L h8];obtain⟨M,hM⟩:∃M:Nat,M=1 <<< bitsLen L:=⟨_,rfl⟩;have hM1:1<=M:=by rw[hM,Nat.one_shiftLeft];exact Nat.two_pow_pos _
 have hM2:M<=2*L:=by rw[hM,Nat.one_shiftLeft];exact two_pow_bitsLen_le (by omega)
 have hNP:∀w,Calls Tryz.prog 286 #[.int .i64 (L:Int)] w fun e w'=>e=.returned (.int .u64 (M:Int))/\w'=w:=by rw[hM];exact fun w=>af1 L (by omega) w
 rw[<-hM];clear hM;have HH:Hid (Holds (Value.int .u32) w blk off d):=hH;have HST:Hid (w.alloc (Obj.cells #[.int .u64 (L:Int)] 364)=grow (putRow (Value.int .u32) (Sort.ahead w 0) blk off d) #[Obj.cells #[.int .u64 ((UInt64.ofNat L).toNat:Int)] 364]):=by
  show _=_;rw[show Sort.ahead w 0=w from rfl,qZ _ _ _ _ _ hH,alloc_eq_grow,show(UInt64.ofNat L).toNat=L from by simp;omega]
 clear hH;go_enter Tryz.func220,Tryz.ntmps220
 go_wp2_with (first|(go_at_call 286;rw[show((a:Int)+(L:Int)-(a:Int))=(L:Int) by omega];refine(hNP _).mono ?_;rintro e w' ⟨rfl,rfl⟩))
 go_loopw [9] (fun vi wr=>∃(t n:Nat) (r:UInt64) (dk:Array Int),vi=.int .i64 ((a+L/4*2-1+t:Nat):Int)/\t<=3/\dk.size=d.size/\
   wr=grow (putRow (Value.int .u32) (Sort.ahead w n) blk off dk) #[Obj.cells #[.int .u64 (r.toNat:Int)] 364]/\
   bpRest a L M (a+L/4*2-1) (3-t) t (r,dk)=bpRest a L M (a+L/4*2-1) 3 0 (UInt64.ofNat L,d)) (fun vi _=>a+L/4*2+3-(intOf vi).toNat)
 case atStart=>exact⟨0,0,UInt64.ofNat L,d,by congr 1;omega,by omega,rfl,HST.out,rfl⟩
 case round=>
  obtain⟨t,n,r,dk,rfl,ht,hsk,hw,hR⟩:=hrel;obtain⟨R,NQ⟩:∃R:Nat,R=r.toNat:=⟨_,rfl⟩;have lR:R<18446744073709551616:=by rw[NQ];exact r.toNat_lt
  obtain⟨R',hR'⟩:∃R':Nat,R'=xorNextN R:=⟨_,rfl⟩;have lR':R'<18446744073709551616:=by rw[hR'];exact xorNextN_lt R lR
  obtain⟨O,hO⟩:∃O:Nat,O=R' &&& (M-1):=⟨_,rfl⟩;have lO:O<=M-1:=by rw[hO];exact Nat.and_le_right
  have aAx:bits .and .u64 (R':Int) ((M:Int)-1)=(O:Int):=by
   rw[show((M:Int)-1)=((M-1:Nat):Int) by omega,bits_and_u64_nat _ _ lR' (by omega),hO]
  obtain⟨G,hG⟩:∃G:Nat->Int,∀x,G x=dk[x]! :=⟨fun x=>dk[x]!,fun _=>rfl⟩;have hz:(putRow (Value.int .u32) (Sort.ahead w n) blk off dk).heap.size=w.heap.size:=by simp
  have hcw:∀x,x<d.size->wr.cell? ⟨blk,off+x,none⟩=some (.int .u32 (G x)):=fun x hx=>by
   rw[hw,cell?_grow _ _ _ (by rw[hz];exact hblk),hG];exact xm _ _ _ _ d dk (jT _ _ _ _ _ _ HH.out) hsk x (by omega)
  have hfw:∀x,x<d.size->wr.frozen? ⟨blk,off+x,none⟩=false:=fun x hx=>by
   rw[hw,frozen?_grow _ _ _ (by rw[hz];exact hblk),tQ];exact((jT _ _ n _ _ _ HH.out) x hx).2
  have hcB:wr.cell? ⟨w.heap.size,0,none⟩=some (.int .u64 (R:Int)):=by rw[hw,NQ,<-hz];exact grow_one_cell _ _ _
  have hfB:wr.frozen? ⟨w.heap.size,0,none⟩=false:=by rw[hw,<-hz];exact grow_one_frozen _ _ _
  have akG:Calls Tryz.prog 287 #[.pointer (some ⟨w.heap.size,0,none⟩)] wr fun e w'=>e=.returned (.int .u64 (R':Int))/\w'=(wr.setCell ⟨w.heap.size,0,none⟩ (.int .u64 (R':Int))).drewN 3:=by
   rw[hR'];exact ab0 _ _ R lR wr hcB hfB
  have HW:Hid (wr=grow (putRow (Value.int .u32) (Sort.ahead w n) blk off dk) #[Obj.cells #[.int .u64 (r.toNat:Int)] 364]):=hw;have HG:Hid (∀x,G x=dk[x]!):=hG;have HR:Hid (bpRest a L M (a+L/4*2-1) (3-t) t (r,dk)=bpRest a L M (a+L/4*2-1) 3 0 (UInt64.ofNat L,d)):=hR;have HN:Hid (R'=(xorNext r).toNat/\O=(xorNext r).toNat &&& (M-1)):=by
   have e:R'=(xorNext r).toNat:=by rw[hR',NQ,xorNext_toNat]
   exact⟨e,by rw[hO,e]⟩
  clear hw hG hR NQ hR' hO
  go_wp2_with (first|(go_at_call 287;refine akG.mono ?_;rintro e w' ⟨rfl,rfl⟩))
  .
   have hLO:L<=O:=by omega
   by_cases hEq:a+L/4*2-1+t=a+(O-L)
   all_goals
    go_region
    all_goals go_wp2
    go_roundw
    case rel=>
     refine⟨t+1,n+4,xorNext r,swp dk (a+L/4*2-1+t) (a+(O-L)),by first|rfl|(congr 1<;>omega),by omega,by rw[ic];exact hsk,?_,?_⟩
     ·(try rw[hEq])
      rw[HW.out,HN.out.1];simp only[HG.out];exact step_world (Value.int .u32) w n 4 blk off dk _ _ hblk (by omega) (by omega) _ _ _
     .rw[<-HR.out,bp_step a L M _ t r dk (O-L) (by omega) (by rw[<-HN.out.2,aR (by omega)])]
    case measure=>simp[intOf];omega
  .have hLO:¬L<=O:=by omega
   by_cases hEq:a+L/4*2-1+t=a+O
   all_goals
    go_region
    all_goals go_wp2
    go_roundw
    case rel=>
     refine⟨t+1,n+4,xorNext r,swp dk (a+L/4*2-1+t) (a+O),by first|rfl|(congr 1<;>omega),by omega,by rw[ic];exact hsk,?_,?_⟩
     ·(try rw[hEq])
      rw[HW.out,HN.out.1];simp only[HG.out];exact step_world (Value.int .u32) w n 4 blk off dk _ _ hblk (by omega) (by omega) _ _ _
     .rw[<-HR.out,bp_step a L M _ t r dk O (by omega) (by rw[<-HN.out.2,aP (by omega)])]
    case measure=>simp[intOf];omega
  .
   obtain rfl:t=3:=by omega
   go_end0
   exact⟨rfl,n,_,by rw[<-HR.out,HW.out];rfl⟩
theorem akH (blk off cap a b:Nat) (d:Array Int) (w:World) (hH:Holds (Value.int .u32) w blk off d) (hblk:blk<w.heap.size) (hab:a<=b) (hb:b<=d.size) (hsz:d.size<4611686018427387904):
  Calls Tryz.prog 220 #[.slice (some ⟨blk,off,none⟩) d.size cap,.int .i64 a,.int .i64 b] w fun e w'=>
   e=.returned (.tuple #[])/\∃n os,w'=grow (putRow (Value.int .u32) (Sort.ahead w n) blk off (breakPatterns d a b)) os:=by
 obtain⟨L,rfl⟩:∃L,b=a+L:=⟨b-a,by omega⟩;by_cases h8:8<=L
 .exact ab2 blk off cap a L d w hH hblk hb hsz h8
 .have hv:breakPatterns d a (a+L)=d:=by unfold breakPatterns;simp only[Nat.add_sub_cancel_left];rw[aP h8]
  rw[hv];have HST:Hid (w=grow (putRow (Value.int .u32) (Sort.ahead w 0) blk off d) #[]):=by
   show _=_;rw[grow_empty,show Sort.ahead w 0=w from rfl,qZ _ _ _ _ _ hH]
  clear hH;go_enter Tryz.func220,Tryz.ntmps220;go_wp2
  go_end0
  exact⟨rfl,0,#[],HST.out⟩
theorem kz {w:World} {blk off sb so n t:Nat} {d:Array Int} (h:Holds (Value.int .u32) w blk off d) (hne:sb≠blk):Holds (Value.int .u32) (putRow (Value.int .i64) (Sort.ahead w n) sb so (one t)) blk off d:=fun j hj=>
 ⟨by rw[cell?_putRow_other _ _ _ _ _ _ (Or.inl (jb hne))];exact(h j hj).1,by rw[tQ];exact(h j hj).2⟩
theorem OD (d:Array Int) (len:Nat) (hlen:d.size=len) (blk off cap a b sb so s:Nat) (w:World) (hH:Holds (Value.int .u32) w blk off d) (ha:a<d.size) (hb:b<d.size)
  (hS:Holds (Value.int .i64) w sb so (one s)) (hs:s<2^62):
  Calls Tryz.prog 318 #[.slice (some ⟨blk,off,none⟩) len cap,.int .i64 a,.int .i64 b,.pointer (some ⟨sb,so,none⟩)] w fun e w'=>
   e=.returned (.tuple #[.int .i64 (order2 ltInt d a b s).1,.int .i64 (order2 ltInt d a b s).2.1])/\∃n,w'=putRow (Value.int .i64) (Sort.ahead w n) sb so (one (order2 ltInt d a b s).2.2):=by
 subst hlen
 replace hs:s<4611686018427387904:=by omega
 have ca:=(hH a ha).1;have cb:=(hH b hb).1;obtain⟨cs,fs⟩:=one_cell hS;have ea:d[a]! =d[a]:=tV d a ha;have eb:d[b]! =d[b]:=tV d b hb;go_enter Tryz.func318,Tryz.ntmps318;go_wp2
 go_region_with (go_at_call 224;refine(ed _ _ _).mono ?_;rintro e w' ⟨rfl,rfl⟩)
 all_goals(try go_wp2)
 all_goals first
  |(have hlt:ltInt d[b] d[a]=true:=by assumption
    have e2:order2 ltInt d a b s=(b,a,s+1):=by simp[order2,ea,eb,hlt]
    go_ret2;rw[e2];refine⟨rfl,1,?_⟩;rw[putRow_ahead,<-one_set hS (s+1)];simp[drew_eq_ahead])
  |(have hlt:ltInt d[b] d[a]=false:=by assumption
    have e2:order2 ltInt d a b s=(a,b,s):=by simp[order2,ea,eb,hlt]
    go_ret2;rw[e2];refine⟨rfl,1,?_⟩;rw[putRow_ahead,qZ _ _ _ _ _ hS];rfl)
theorem aeF (d:Array Int) (len:Nat) (hlen:d.size=len) (blk off cap a b c sb so s:Nat) (w:World) (hH:Holds (Value.int .u32) w blk off d) (ha:a<d.size) (hb:b<d.size) (hc:c<d.size) (hne:sb≠blk)
  (hS:Holds (Value.int .i64) w sb so (one s)) (hs:s+3<2^62):
  Calls Tryz.prog 289 #[.slice (some ⟨blk,off,none⟩) len cap,.int .i64 a,.int .i64 b,.int .i64 c,.pointer (some ⟨sb,so,none⟩)] w fun e w'=>
   e=.returned (.int .i64 (median ltInt d a b c s).1)/\∃n,w'=putRow (Value.int .i64) (Sort.ahead w n) sb so (one (median ltInt d a b c s).2):=by
 subst hlen;have l1:=order2_lt d s ha hb;have s1:=order2_swaps d a b s;have l2:=order2_lt d (order2 ltInt d a b s).2.2 l1.2 hc;have s2:=order2_swaps d (order2 ltInt d a b s).2.1 c (order2 ltInt d a b s).2.2;go_enter Tryz.func289,Tryz.ntmps289
 go_wp2_with (go_at_call_of 318 (Value.int .i64 (b:Int));refine(OD d _ rfl blk off cap a b sb so s w hH ha hb hS (by omega)).mono ?_;rintro e w' ⟨rfl,n1,rfl⟩)
 go_wp2_with (go_at_call_of 318 (Value.int .i64 (c:Int));refine(OD d _ rfl blk off cap (order2 ltInt d a b s).2.1 c sb so (order2 ltInt d a b s).2.2 _ (kz hH hne) l1.2 hc (holds_one hS) (by omega)).mono ?_;rintro e w' ⟨rfl,n2,rfl⟩)
 go_wp2_with (go_at_call_of 318 (Value.int .i64 ((order2 ltInt d a b s).1:Int));refine(OD d _ rfl blk off cap (order2 ltInt d a b s).1 (order2 ltInt d (order2 ltInt d a b s).2.1 c (order2 ltInt d a b s).2.2).1 sb so (order2 ltInt d (order2 ltInt d a b s).2.1 c (order2 ltInt d a b s).2.2).2.2 _
  (kz (kz hH hne) hne) l1.1 l2.1 (holds_one (holds_one hS)) (by omega)).mono ?_;rintro e w' ⟨rfl,n3,rfl⟩)
 go_ret;refine⟨rfl,n1+(n2+n3),?_⟩;rw[one_one,one_one];rfl
theorem Ww (d:Array Int) (len:Nat) (hlen:d.size=len) (blk off cap a sb so s:Nat) (w:World) (hH:Holds (Value.int .u32) w blk off d) (ha0:1<=a) (ha:a+1<d.size) (hsz:d.size<2^62) (hne:sb≠blk)
  (hS:Holds (Value.int .i64) w sb so (one s)) (hs:s+3<2^62):
  Calls Tryz.prog 288 #[.slice (some ⟨blk,off,none⟩) len cap,.int .i64 a,.pointer (some ⟨sb,so,none⟩)] w fun e w'=>
   e=.returned (.int .i64 (medianAdjacent ltInt d a s).1)/\∃n,w'=putRow (Value.int .i64) (Sort.ahead w n) sb so (one (medianAdjacent ltInt d a s).2):=by
 subst hlen
 replace hsz:d.size<4611686018427387904:=by omega
 go_enter Tryz.func288,Tryz.ntmps288
 go_wp2_with (go_at_call 289;rw[show((a:Int)-1)=((a-1:Nat):Int) by omega,show((a:Int)+1)=((a+1:Nat):Int) by omega];refine(aeF d _ rfl blk off cap (a-1) a (a+1) sb so s w hH (by omega) (by omega) ha hne hS hs).mono ?_;rintro e w' ⟨rfl,n1,rfl⟩)
 go_ret;exact⟨rfl,n1,rfl⟩
theorem I9 (blk off cap:Nat) (d:Array Int) (w:World) (hH:Holds (Value.int .u32) w blk off d) (hblk:blk<w.heap.size) (hsz:d.size<4611686018427387904):
  ∃Wc:Nat->Nat->World,
   w.alloc (.cells #[.int .i64 0] 3)=Wc 0 0/\
   (∀N S:Nat,(Wc N S).cell? ⟨w.heap.size,0,none⟩=some (.int .i64 (S:Int)))/\
   (∀N S:Nat,∃os,Wc N S=grow (Sort.ahead w N) os)/\
   (∀x s N:Nat,1<=x->x+1<d.size->s+3<4611686018427387904->Calls Tryz.prog 288 #[.slice (some ⟨blk,off,none⟩) d.size cap,.int .i64 (x:Int),.pointer (some ⟨w.heap.size,0,none⟩)] (Wc N s) fun e w'=>
     e=.returned (.int .i64 ((medianAdjacent ltInt d x s).1:Int))/\∃N',w'=Wc N' (medianAdjacent ltInt d x s).2)/\
   (∀x y z s N:Nat,x<d.size->y<d.size->z<d.size->s+3<4611686018427387904->Calls Tryz.prog 289 #[.slice (some ⟨blk,off,none⟩) d.size cap,.int .i64 (x:Int),.int .i64 (y:Int),.int .i64 (z:Int),.pointer (some ⟨w.heap.size,0,none⟩)] (Wc N s) fun e w'=>
     e=.returned (.int .i64 ((median ltInt d x y z s).1:Int))/\∃N',w'=Wc N' (median ltInt d x y z s).2):=by
 have hne:w.heap.size≠blk:=by omega
 have hH0:Holds (Value.int .u32) (w.alloc (.cells #[.int .i64 0] 3)) blk off d:=by rw[alloc_eq_grow];exact holds_grow _ _ _ _ _ _ hblk hH
 have hS0:Holds (Value.int .i64) (w.alloc (.cells #[.int .i64 0] 3)) w.heap.size 0 (one 0):=fun j hj=>by
  obtain rfl:j=0:=by simpa using hj
  simp
 refine⟨fun N S=>putRow (Value.int .i64) (Sort.ahead (w.alloc (.cells #[.int .i64 0] 3)) N) w.heap.size 0 (one S),(qZ _ _ _ _ _ hS0).symm,fun N S=>(one_cell (holds_one (n:=N) (t:=S) hS0)).1,fun N S=>counter_grow w N S,?_,?_⟩
 .intro x s N h1 h2 hs;refine(Ww d _ rfl blk off cap x w.heap.size 0 s _ (kz hH0 hne) h1 h2 (by omega) hne (holds_one hS0) (by omega)).mono ?_;rintro e w' ⟨he,n,hw⟩;exact⟨he,N+n,by rw[hw,one_one]⟩
 .intro x y z s N h1 h2 h3 hs;refine(aeF d _ rfl blk off cap x y z w.heap.size 0 s _ (kz hH0 hne) h1 h2 h3 hne (holds_one hS0) (by omega)).mono ?_;rintro e w' ⟨he,n,hw⟩;exact⟨he,N+n,by rw[hw,one_one]⟩
theorem Wx (blk off cap a b:Nat) (d:Array Int) (w:World) (hH:Holds (Value.int .u32) w blk off d) (hblk:blk<w.heap.size) (hab:a<b) (hb:b<=d.size) (hsz:d.size<4611686018427387904):
  Calls Tryz.prog 221 #[.slice (some ⟨blk,off,none⟩) d.size cap,.int .i64 a,.int .i64 b] w fun e w'=>
   e=.returned (.tuple #[.int .i64 (choosePivot ltInt d a b).1,.int .i64 (hintCode (choosePivot ltInt d a b).2)])/\∃n os,w'=grow (Sort.ahead w n) os:=by
 obtain⟨Wc,hW0,cS,hG,MA,MD⟩:=I9 blk off cap d w hH hblk hsz;clear hH;rw[choosePivot_eq];obtain⟨I,hI⟩:∃I:Nat,I=a+(b-a)/4*1:=⟨_,rfl⟩;obtain⟨J,hJ⟩:∃J:Nat,J=a+(b-a)/4*2:=⟨_,rfl⟩;obtain⟨K,hK⟩:∃K:Nat,K=a+(b-a)/4*3:=⟨_,rfl⟩;have eI:((a:Int)+((b:Int)-(a:Int))/4)=(I:Int):=by omega
 have eJ:((a:Int)+((b:Int)-(a:Int))/4*2)=(J:Int):=by omega
 have eK:((a:Int)+((b:Int)-(a:Int))/4*3)=(K:Int):=by omega
 by_cases h8:b-a>=8
 .by_cases h50:b-a>=50
  .
   obtain⟨i1,s1,h1⟩:∃i1 s1,medianAdjacent ltInt d I 0=(i1,s1):=⟨_,_,rfl⟩;obtain⟨j1,s2,h2⟩:∃j1 s2,medianAdjacent ltInt d J s1=(j1,s2):=⟨_,_,rfl⟩;obtain⟨k1,s3,h3⟩:∃k1 s3,medianAdjacent ltInt d K s2=(k1,s3):=⟨_,_,rfl⟩;obtain⟨p,s,h4⟩:∃p s,median ltInt d i1 j1 k1 s3=(p,s):=⟨_,_,rfl⟩;have Lf:rawPivot ltInt d a b=(p,s):=by simp only[rawPivot,aR h8,aR h50,<-hI,<-hJ,<-hK,h1,h2,h3,h4]
   have m1:=medianAdjacent_mem ltInt d I 0;rw[h1]at m1;have m2:=medianAdjacent_mem ltInt d J s1;rw[h2]at m2;have m3:=medianAdjacent_mem ltInt d K s2;rw[h3]at m3;have n1:=medianAdjacent_count ltInt d I 0;rw[h1]at n1;have n2:=medianAdjacent_count ltInt d J s1;rw[h2]at n2;have n3:=medianAdjacent_count ltInt d K s2;rw[h3]at n3;simp only[]at m1 m2 m3 n1 n2 n3;have c1:Calls Tryz.prog 288 #[.slice (some ⟨blk,off,none⟩) d.size cap,.int .i64 (I:Int),.pointer (some ⟨w.heap.size,0,none⟩)] (Wc 0 0) fun e w'=>e=.returned (.int .i64 (i1:Int))/\∃N',w'=Wc N' s1:=by
    have h:=MA I 0 0 (by omega) (by omega) (by omega);rw[h1]at h;exact h
   have c2:∀N,Calls Tryz.prog 288 #[.slice (some ⟨blk,off,none⟩) d.size cap,.int .i64 (J:Int),.pointer (some ⟨w.heap.size,0,none⟩)] (Wc N s1) fun e w'=>e=.returned (.int .i64 (j1:Int))/\∃N',w'=Wc N' s2:=fun N=>by
    have h:=MA J s1 N (by omega) (by omega) (by omega);rw[h2]at h;exact h
   have c3:∀N,Calls Tryz.prog 288 #[.slice (some ⟨blk,off,none⟩) d.size cap,.int .i64 (K:Int),.pointer (some ⟨w.heap.size,0,none⟩)] (Wc N s2) fun e w'=>e=.returned (.int .i64 (k1:Int))/\∃N',w'=Wc N' s3:=fun N=>by
    have h:=MA K s2 N (by omega) (by omega) (by omega);rw[h3]at h;exact h
   have c4:∀N,Calls Tryz.prog 289 #[.slice (some ⟨blk,off,none⟩) d.size cap,.int .i64 (i1:Int),.int .i64 (j1:Int),.int .i64 (k1:Int),.pointer (some ⟨w.heap.size,0,none⟩)] (Wc N s3) fun e w'=>e=.returned (.int .i64 (p:Int))/\∃N',w'=Wc N' s:=fun N=>by
    have h:=MD i1 j1 k1 s3 N (by omega) (by omega) (by omega) (by omega);rw[h4]at h;exact h
   rw[Lf];obtain⟨Hc,Lg⟩:∃Hc:Int,Hc=hintCode (hintOf s):=⟨_,rfl⟩;have hh0:s=0->Hc=1:=fun h=>by rw[Lg,h];rfl
   have Wy:s=12->Hc=2:=fun h=>by rw[Lg,h];rfl
   have hhx:s≠0->s≠12->Hc=0:=fun h1 h2=>by rw[Lg];unfold hintOf;rw[aP h1,aP h2];rfl
   show Calls Tryz.prog 221 _ w fun e w'=>e=.returned (.tuple #[.int .i64 (p:Int),.int .i64 (hintCode (hintOf s))])/\∃n os,w'=grow (Sort.ahead w n) os;rw[<-Lg];clear Lg Lf;clear h1 h2 h3 h4 MA MD hI hJ hK m1 m2 m3;go_enter Tryz.func221,Tryz.ntmps221
   go_wp2_with (first
    |(go_at_call_has 288 (Value.int .i64 (I:Int));refine c1.mono ?_;rintro e w' ⟨rfl,N1,rfl⟩)
    |(go_at_call_has 288 (Value.int .i64 (J:Int));refine(c2 _).mono ?_;rintro e w' ⟨rfl,N2,rfl⟩)
    |(go_at_call_has 288 (Value.int .i64 (K:Int));refine(c3 _).mono ?_;rintro e w' ⟨rfl,N3,rfl⟩)
    |(go_at_call 289;refine(c4 _).mono ?_;rintro e w' ⟨rfl,N4,rfl⟩))
   all_goals
    go_ret2;refine⟨?_,_,hG _ _⟩
    first
     |(have e0:(s:Int)=0:=of_beq_int (by assumption)
       rw[hh0 (by omega)];rfl)
     |(have e1:(s:Int)=12:=of_beq_int (by assumption)
       rw[Wy (by omega)];rfl)
     |(have e0:(s:Int)≠0:=of_bne_int (by assumption)
       have e1:(s:Int)≠12:=of_bne_int (by assumption);rw[hhx (by omega) (by omega)];rfl)
     |(rw[hh0 (by omega)];rfl)
  .
   obtain⟨p,s,h4⟩:∃p s,median ltInt d I J K 0=(p,s):=⟨_,_,rfl⟩;have Lf:rawPivot ltInt d a b=(p,s):=by simp only[rawPivot,aR h8,aP h50,<-hI,<-hJ,<-hK,h4]
   have c4:Calls Tryz.prog 289 #[.slice (some ⟨blk,off,none⟩) d.size cap,.int .i64 (I:Int),.int .i64 (J:Int),.int .i64 (K:Int),.pointer (some ⟨w.heap.size,0,none⟩)] (Wc 0 0) fun e w'=>e=.returned (.int .i64 (p:Int))/\∃N',w'=Wc N' s:=by
    have h:=MD I J K 0 0 (by omega) (by omega) (by omega) (by omega);rw[h4]at h;exact h
   rw[Lf];obtain⟨Hc,Lg⟩:∃Hc:Int,Hc=hintCode (hintOf s):=⟨_,rfl⟩;have hh0:s=0->Hc=1:=fun h=>by rw[Lg,h];rfl
   have Wy:s=12->Hc=2:=fun h=>by rw[Lg,h];rfl
   have hhx:s≠0->s≠12->Hc=0:=fun h1 h2=>by rw[Lg];unfold hintOf;rw[aP h1,aP h2];rfl
   show Calls Tryz.prog 221 _ w fun e w'=>e=.returned (.tuple #[.int .i64 (p:Int),.int .i64 (hintCode (hintOf s))])/\∃n os,w'=grow (Sort.ahead w n) os;rw[<-Lg];clear Lg Lf;clear h4 MA MD hI hJ hK;go_enter Tryz.func221,Tryz.ntmps221
   go_wp2_with (first|(go_at_call 289;refine c4.mono ?_;rintro e w' ⟨rfl,N4,rfl⟩))
   all_goals
    go_ret2;refine⟨?_,_,hG _ _⟩
    first
     |(have e0:(s:Int)=0:=of_beq_int (by assumption)
       rw[hh0 (by omega)];rfl)
     |(have e1:(s:Int)=12:=of_beq_int (by assumption)
       rw[Wy (by omega)];rfl)
     |(have e0:(s:Int)≠0:=of_bne_int (by assumption)
       have e1:(s:Int)≠12:=of_bne_int (by assumption);rw[hhx (by omega) (by omega)];rfl)
     |(rw[hh0 (by omega)];rfl)
 .
  obtain⟨p,hp⟩:∃p:Nat,p=J:=⟨_,rfl⟩;obtain⟨s,hs⟩:∃s:Nat,s=0:=⟨_,rfl⟩;have Lf:rawPivot ltInt d a b=(p,s):=by simp only[rawPivot,aP h8,<-hJ,hp,hs]
  rw[Lf];obtain⟨Hc,Lg⟩:∃Hc:Int,Hc=hintCode (hintOf s):=⟨_,rfl⟩;have hh0:s=0->Hc=1:=fun h=>by rw[Lg,h];rfl
  have Wy:s=12->Hc=2:=fun h=>by rw[Lg,h];rfl
  have hhx:s≠0->s≠12->Hc=0:=fun h1 h2=>by rw[Lg];unfold hintOf;rw[aP h1,aP h2];rfl
  show Calls Tryz.prog 221 _ w fun e w'=>e=.returned (.tuple #[.int .i64 (p:Int),.int .i64 (hintCode (hintOf s))])/\∃n os,w'=grow (Sort.ahead w n) os;rw[<-Lg];clear Lg Lf;subst hp;clear MA MD hI hJ hK;have aAz:w.alloc (.cells #[.int .i64 0] 3)=Wc 0 s:=by rw[hs];exact hW0
  clear hW0;go_enter Tryz.func221,Tryz.ntmps221;go_wp2
  all_goals
   go_ret2;refine⟨?_,_,hG _ _⟩
   first
    |(have e0:(s:Int)=0:=of_beq_int (by assumption)
      rw[hh0 (by omega)];rfl)
    |(have e1:(s:Int)=12:=of_beq_int (by assumption)
      rw[Wy (by omega)];rfl)
    |(have e0:(s:Int)≠0:=of_bne_int (by assumption)
      have e1:(s:Int)≠12:=of_bne_int (by assumption);rw[hhx (by omega) (by omega)];rfl)
    |(rw[hh0 (by omega)];rfl)
def Row (blk off:Nat) (w:World) (dk:Array Int) (wr:World):Prop:=∃n,wr=putRow yf (Sort.ahead w n) blk off dk
section
variable {blk off:Nat} {w wr:World} {d dk:Array Int}
theorem Row.self (h:Holds yf w blk off d):Row blk off w d w:=⟨0,(qZ _ _ _ _ _ h).symm⟩
theorem Row.holds (hr:Row blk off w dk wr) (h:Holds yf w blk off d) (hs:dk.size=d.size):Holds yf wr blk off dk:=by
 obtain⟨n,rfl⟩:=hr;exact holds_putRow _ _ _ _ _ _ (jT _ _ _ _ _ _ h) hs
theorem Row.cells (hr:Row blk off w dk wr) (h:Holds yf w blk off d) (hs:dk.size=d.size) (t:Nat) (ht:t<d.size):wr.cell? ⟨blk,off+t,none⟩=some (.int .u32 dk[t]!):=(hr.holds h hs t (by omega)).1
theorem Row.fz (hr:Row blk off w dk wr) (h:Holds yf w blk off d) (hs:dk.size=d.size) (t:Nat) (ht:t<d.size):wr.frozen? ⟨blk,off+t,none⟩=false:=(hr.holds h hs t (by omega)).2
theorem Row.drewN (hr:Row blk off w dk wr) (q:Nat):Row blk off w dk (wr.drewN q):=by
 obtain⟨n,rfl⟩:=hr;exact⟨n+q,lq _ _ _ _ _ _ _⟩
theorem Row.drew (hr:Row blk off w dk wr):Row blk off w dk wr.drew:=hr.drewN 1
theorem Row.swap (hr:Row blk off w dk wr) {j k:Nat} (hj:j<dk.size) (hk:k<dk.size):Row blk off w (swp dk j k) ((wr.setCell ⟨blk,off+j,none⟩ (.int .u32 dk[k]!)).setCell ⟨blk,off+k,none⟩ (.int .u32 dk[j]!)):=by
 obtain⟨n,rfl⟩:=hr;exact⟨n,putRow_swp yf _ _ _ _ _ _ hj hk⟩
theorem Row.trans {w':World} {d':Array Int} (hr:Row blk off w dk wr) (hs:d'.size=dk.size) (h2:Row blk off wr d' w'):Row blk off w d' w':=by
 obtain⟨n,rfl⟩:=hr;obtain⟨m,rfl⟩:=h2;exact⟨n+m,by rw[putRow_ahead_putRow _ _ _ _ _ _ _ _ hs]⟩
end
theorem OE (blk off len cap:Nat) (d:Array Int) (hlen:d.size=len) (lo hi first:Nat) (w:World) (hH:Holds yf w blk off d) (hlo:lo<=hi) (hb:first+hi<=len) (hsz:len<4611686018427387904):
  Calls Tryz.prog 285 #[.slice (some ⟨blk,off,none⟩) len cap,.int .i64 lo,.int .i64 hi,.int .i64 first] w fun e w'=>e=.returned (.tuple #[])/\Row blk off w (siftDown ltInt hi first lo d) w':=by
 subst hlen;have HH:=ae hH;clear hH;go_enter Tryz.func285,Tryz.ntmps285;go_wp2
 go_loopw [8,9] (fun v8 _ wr=>∃(root:Nat) (dk:Array Int),v8=.int .i64 root/\root<=hi/\Hid (dk.size=d.size)/\Hid (Row blk off w dk wr)/\Hid (siftDown ltInt hi first root dk=siftDown ltInt hi first lo d)) (fun v8 _ _=>hi-(intOf v8).toNat)
 case atStart=>exact⟨lo,d,rfl,hlo,rfl,Row.self HH.out,rfl⟩
 case round=>
  obtain⟨root,dk,rfl,hr,ja,HR,HE⟩:=hrel;obtain⟨G,hG⟩:∃G:Nat->Int,∀t,G t=dk[t]! :=⟨fun t=>dk[t]!,fun _=>rfl⟩;have HG:=ae hG;clear hG;have hcw:∀t,t<d.size->wr.cell? ⟨blk,off+t,none⟩=some (.int .u32 (G t)):=fun t ht=>by rw[HG.out];exact HR.out.cells HH.out ja.out t ht
  have hfw:∀t,t<d.size->wr.frozen? ⟨blk,off+t,none⟩=false:=fun t ht=>HR.out.fz HH.out ja.out t ht;by_cases h0:hi<=2*root+1
  .have h0z:(hi:Int)<=2*(root:Int)+1:=by omega
   clear hcw hfw;go_wp2
   first
   |(refine ng (mF rfl _ _ _) rfl ?_;exact⟨rfl,by rw[<-HE.out,sd_end ltInt dk h0];exact HR.out⟩)
   |(go_end0;exact⟨rfl,by rw[<-HE.out,sd_end ltInt dk h0];exact HR.out⟩)
  .have h0z:¬((hi:Int)<=2*(root:Int)+1):=by omega
   by_cases h1:2*root+2<hi
   .have h1z:decide (2*(root:Int)+1+1<(hi:Int))=true:=by simp;omega
    have h1y:2*(root:Int)+1+1<(hi:Int):=by omega
    go_wp2
    go_big_quiet ((go_at_call 224;exact gT (ed _ _ _)))
    go_wp2
    .have hL:ltInt (G (first+(2*root+1))) (G (first+(2*root+1)+1))=true:=by assumption
     rw[HG.out,HG.out]at hL;have HLs:=ae hL;clear hL;obtain⟨wr2,e2⟩:∃x,x=wr.drewN nq:=⟨_,rfl⟩;have kV:Hid (Row blk off w dk wr2):=by rw[e2];exact HR.out.drewN nq
     rw[<-e2];clear e2 hcw hfw HR;have hcw:∀t,t<d.size->wr2.cell? ⟨blk,off+t,none⟩=some (.int .u32 (G t)):=fun t ht=>by rw[HG.out];exact kV.out.cells HH.out ja.out t ht
     have hfw:∀t,t<d.size->wr2.frozen? ⟨blk,off+t,none⟩=false:=fun t ht=>kV.out.fz HH.out ja.out t ht;go_wp2;revert nq;intro _
     go_big_quiet ((go_at_call 224;exact gT (ed _ _ _)))
     go_wp2
     .have hS:ltInt (G (first+root)) (G (first+(2*root+1+1)))=false:=by
       have h9:(!ltInt (G (first+root)) (G (first+(2*root+1+1))))=true:=by assumption
       simpa using h9
      rw[HG.out,HG.out]at hS
      (try simp only[Exit.inBlock,Exit.then])
      refine ng (mF rfl _ _ _) rfl ?_;exact⟨rfl,by rw[<-HE.out,sd_right_stop ltInt dk h1 HLs.out hS];exact kV.out.drewN nq⟩
     .have hS:ltInt (G (first+root)) (G (first+(2*root+1+1)))=true:=by
       have h9:(!ltInt (G (first+root)) (G (first+(2*root+1+1))))=false:=by assumption
       simpa using h9
      rw[HG.out,HG.out]at hS;have HS:=ae hS;clear hS;obtain⟨Wz,e3⟩:∃x,x=wr2.drewN nq:=⟨_,rfl⟩;have yz:Hid (Row blk off w dk Wz):=by rw[e3];exact kV.out.drewN nq
      rw[<-e3];clear e3 hcw hfw kV;have hcw:∀t,t<d.size->Wz.cell? ⟨blk,off+t,none⟩=some (.int .u32 (G t)):=fun t ht=>by rw[HG.out];exact yz.out.cells HH.out ja.out t ht
      have hfw:∀t,t<d.size->Wz.frozen? ⟨blk,off+t,none⟩=false:=fun t ht=>yz.out.fz HH.out ja.out t ht;go_region
      all_goals go_wp2
      all_goals go_roundw
      case rel=>exact⟨2*root+1+1,swp dk (first+root) (first+(2*root+1+1)),by go_num,by omega,by show _=_;rw[ic];exact ja.out,by
       show Row _ _ _ _ _;rw[HG.out,HG.out];exact((yz.out).swap (by rw[ja.out];omega) (by rw[ja.out];omega)).drew,by show _=_;rw[<-HE.out,sd_right_go ltInt dk h1 HLs.out HS.out]⟩
      case measure=>simp[intOf];omega
    .have hL:ltInt (G (first+(2*root+1))) (G (first+(2*root+1)+1))=false:=by assumption
     rw[HG.out,HG.out]at hL;have HLs:=ae hL;clear hL;obtain⟨wr2,e2⟩:∃x,x=wr.drewN nq:=⟨_,rfl⟩;have kV:Hid (Row blk off w dk wr2):=by rw[e2];exact HR.out.drewN nq
     rw[<-e2];clear e2 hcw hfw HR;have hcw:∀t,t<d.size->wr2.cell? ⟨blk,off+t,none⟩=some (.int .u32 (G t)):=fun t ht=>by rw[HG.out];exact kV.out.cells HH.out ja.out t ht
     have hfw:∀t,t<d.size->wr2.frozen? ⟨blk,off+t,none⟩=false:=fun t ht=>kV.out.fz HH.out ja.out t ht;go_wp2;revert nq;intro _
     go_big_quiet ((go_at_call 224;exact gT (ed _ _ _)))
     go_wp2
     .have hS:ltInt (G (first+root)) (G (first+(2*root+1)))=false:=by
       have h9:(!ltInt (G (first+root)) (G (first+(2*root+1))))=true:=by assumption
       simpa using h9
      rw[HG.out,HG.out]at hS
      (try simp only[Exit.inBlock,Exit.then])
      refine ng (mF rfl _ _ _) rfl ?_;exact⟨rfl,by rw[<-HE.out,sd_left_stop ltInt dk (by omega) (fun _=>HLs.out) hS];exact kV.out.drewN nq⟩
     .have hS:ltInt (G (first+root)) (G (first+(2*root+1)))=true:=by
       have h9:(!ltInt (G (first+root)) (G (first+(2*root+1))))=false:=by assumption
       simpa using h9
      rw[HG.out,HG.out]at hS;have HS:=ae hS;clear hS;obtain⟨Wz,e3⟩:∃x,x=wr2.drewN nq:=⟨_,rfl⟩;have yz:Hid (Row blk off w dk Wz):=by rw[e3];exact kV.out.drewN nq
      rw[<-e3];clear e3 hcw hfw kV;have hcw:∀t,t<d.size->Wz.cell? ⟨blk,off+t,none⟩=some (.int .u32 (G t)):=fun t ht=>by rw[HG.out];exact yz.out.cells HH.out ja.out t ht
      have hfw:∀t,t<d.size->Wz.frozen? ⟨blk,off+t,none⟩=false:=fun t ht=>yz.out.fz HH.out ja.out t ht;go_region
      all_goals go_wp2
      all_goals go_roundw
      case rel=>exact⟨2*root+1,swp dk (first+root) (first+(2*root+1)),by go_num,by omega,by show _=_;rw[ic];exact ja.out,by
       show Row _ _ _ _ _;rw[HG.out,HG.out];exact((yz.out).swap (by rw[ja.out];omega) (by rw[ja.out];omega)).drew,by show _=_;rw[<-HE.out,sd_left_go ltInt dk (by omega) (fun _=>HLs.out) HS.out]⟩
      case measure=>simp[intOf];omega
   .have h1z:decide (2*(root:Int)+1+1<(hi:Int))=false:=I5 (by omega);go_wp2
    go_big_quiet ((go_at_call 224;exact gT (ed _ _ _)))
    go_wp2;obtain⟨wr2,e2⟩:∃x,x=wr.drewN nq:=⟨_,rfl⟩;have kV:Hid (Row blk off w dk wr2):=by rw[e2];exact HR.out.drewN nq
    rw[<-e2];clear e2 hcw hfw HR;have hcw:∀t,t<d.size->wr2.cell? ⟨blk,off+t,none⟩=some (.int .u32 (G t)):=fun t ht=>by rw[HG.out];exact kV.out.cells HH.out ja.out t ht
    have hfw:∀t,t<d.size->wr2.frozen? ⟨blk,off+t,none⟩=false:=fun t ht=>kV.out.fz HH.out ja.out t ht;go_wp2;revert nq;intro _
    go_big_quiet ((go_at_call 224;exact gT (ed _ _ _)))
    go_wp2
    .have hS:ltInt (G (first+root)) (G (first+(2*root+1)))=false:=by
      have h9:(!ltInt (G (first+root)) (G (first+(2*root+1))))=true:=by assumption
      simpa using h9
     rw[HG.out,HG.out]at hS
     (try simp only[Exit.inBlock,Exit.then])
     refine ng (mF rfl _ _ _) rfl ?_;exact⟨rfl,by rw[<-HE.out,sd_left_stop ltInt dk (by omega) (fun h=>absurd h h1) hS];exact kV.out.drewN nq⟩
    .have hS:ltInt (G (first+root)) (G (first+(2*root+1)))=true:=by
      have h9:(!ltInt (G (first+root)) (G (first+(2*root+1))))=false:=by assumption
      simpa using h9
     rw[HG.out,HG.out]at hS;have HS:=ae hS;clear hS;obtain⟨Wz,e3⟩:∃x,x=wr2.drewN nq:=⟨_,rfl⟩;have yz:Hid (Row blk off w dk Wz):=by rw[e3];exact kV.out.drewN nq
     rw[<-e3];clear e3 hcw hfw kV;have hcw:∀t,t<d.size->Wz.cell? ⟨blk,off+t,none⟩=some (.int .u32 (G t)):=fun t ht=>by rw[HG.out];exact yz.out.cells HH.out ja.out t ht
     have hfw:∀t,t<d.size->Wz.frozen? ⟨blk,off+t,none⟩=false:=fun t ht=>yz.out.fz HH.out ja.out t ht;go_region
     all_goals go_wp2
     all_goals go_roundw
     case rel=>exact⟨2*root+1,swp dk (first+root) (first+(2*root+1)),by go_num,by omega,by show _=_;rw[ic];exact ja.out,by
      show Row _ _ _ _ _;rw[HG.out,HG.out];exact((yz.out).swap (by rw[ja.out];omega) (by rw[ja.out];omega)).drew,by show _=_;rw[<-HE.out,sd_left_go ltInt dk (by omega) (fun h=>absurd h h1) HS.out]⟩
     case measure=>simp[intOf];omega
theorem nI (hi F root:Nat) (d:Array Int):(siftDown ltInt hi F root d).size=d.size:=size_siftDown ltInt hi F _ root d (aG _)
theorem af3 (blk off len cap:Nat) (d:Array Int) (hlen:d.size=len) (a b:Nat) (w:World) (hH:Holds yf w blk off d) (hab:a<=b) (hb:b<=len) (hsz:len<4611686018427387904):
  Calls Tryz.prog 219 #[.slice (some ⟨blk,off,none⟩) len cap,.int .i64 a,.int .i64 b] w fun e w'=>e=.returned (.tuple #[])/\Row blk off w (heapSort ltInt d a b) w':=by
 subst hlen;have HH:=ae hH;clear hH;have hst:=half_start hab;go_enter Tryz.func219,Tryz.ntmps219;go_wp2
 go_loopw [9] (fun v9 wr=>∃(z:Int) (k:Nat) (dk:Array Int),v9=.int .i64 z/\z=(k:Int)-1/\k<=(b-a-1)/2+1/\Hid (dk.size=d.size)/\Hid (Row blk off w dk wr)/\Hid (heapBuild ltInt (b-a) a k dk=heapBuild ltInt (b-a) a ((b-a-1)/2+1) d)) (fun v9 _=>(intOf v9+1).toNat)
 case atStart=>exact⟨((b-a-1:Nat):Int)/2,(b-a-1)/2+1,d,rfl,by omega,aG _,rfl,Row.self HH.out,rfl⟩
 case round=>
  obtain⟨z,k,dk,rfl,hz,hk,ja,HR,HE⟩:=hrel;clear hst;cases k with
  |succ k=>
   obtain rfl:z=(k:Int):=by omega
   clear hz;have C:=OE blk off d.size cap dk ja.out k (b-a) a wr (HR.out.holds HH.out ja.out) (by omega) (by omega) hsz;rw[show(((b-a:Nat)):Int)=(b:Int)-(a:Int) by omega]at C;have CC:=ae C;clear C
   go_wp2_with fail
   refine CC.out.mono ?_;rintro e w2 ⟨rfl,hr2⟩;have R2:=ae (HR.out.trans (nI _ _ _ _) hr2);go_wp2;go_roundw
   case rel=>exact⟨(k:Int)-1,k,siftDown ltInt (b-a) a k dk,by go_num,rfl,by omega,by show _=_;rw[nI];exact ja.out,R2,HE.out⟩
   case measure=>first|(simp[intOf];done)|(simp[intOf];omega)
  |zero=>
   obtain rfl:z=-1:=by omega
   clear hz hk;have HE1:Hid (heapSort ltInt d a b=heapPop ltInt a (b-a) dk):=by
    show _=_;unfold heapSort;rw[<-HE.out];rfl
   clear HE;obtain⟨w1,e1⟩:∃x,x=wr:=⟨_,rfl⟩;subst e1;go_wp2
   go_loopw [10] (fun v10 wr=>∃(z:Int) (k:Nat) (dj:Array Int),v10=.int .i64 z/\z=(k:Int)-1/\k<=b-a/\Hid (dj.size=d.size)/\Hid (Row blk off w dj wr)/\Hid (heapPop ltInt a k dj=heapPop ltInt a (b-a) dk)) (fun v10 _=>(intOf v10+1).toNat)
   case atStart=>exact⟨(b:Int)-(a:Int)-1,b-a,dk,rfl,by omega,aG _,ja,HR,rfl⟩
   case round=>
    clear ja HR;obtain⟨z,k,dj,rfl,hz,hk,ja,HR,HE⟩:=hrel;cases k with
    |zero=>
     obtain rfl:z=-1:=by omega
     clear hz hk;go_wp2
     go_end0
     exact⟨rfl,by rw[HE1.out,<-HE.out];exact HR.out⟩
    |succ k=>
     obtain rfl:z=(k:Int):=by omega
     clear hz;obtain⟨G,hG⟩:∃G:Nat->Int,∀t,G t=dj[t]! :=⟨fun t=>dj[t]!,fun _=>rfl⟩;have HG:=ae hG;clear hG;have hcw:∀t,t<d.size->wr.cell? ⟨blk,off+t,none⟩=some (.int .u32 (G t)):=fun t ht=>by rw[HG.out];exact HR.out.cells HH.out ja.out t ht
     have hfw:∀t,t<d.size->wr.frozen? ⟨blk,off+t,none⟩=false:=fun t ht=>HR.out.fz HH.out ja.out t ht;have h1:a+k<d.size:=by omega
     have h2:a<d.size:=by omega
     have hk9:k<b-a:=by omega
     by_cases h0:k=0
     .subst h0;go_wp2;go_region;have kV:=ae (HR.out.swap (j:=a) (k:=a) (by rw[ja.out];omega) (by rw[ja.out];omega)).drew;rw[<-HG.out]at kV;clear hcw hfw;generalize((wr.setCell ⟨blk,off+a,none⟩ (.int .u32 (G a))).setCell ⟨blk,off+a,none⟩ (.int .u32 (G a))).drew=w2 at*;have hs2:(swp dj a a).size=d.size:=by rw[ic];exact ja.out
      have CC:=ae (OE blk off d.size cap (swp dj a a) hs2 0 0 a w2 (kV.out.holds HH.out hs2) (by omega) (by omega) hsz);clear hs2
      go_wp2_with fail
      refine CC.out.mono ?_;rintro e w3 ⟨rfl,hr3⟩;have R3:=ae (kV.out.trans (nI _ _ _ _) hr3);clear hr3 CC;go_wp2;go_roundw
      case rel=>exact⟨-1,0,siftDown ltInt 0 a 0 (swp dj a a),by go_num,rfl,by omega,by show _=_;rw[nI,ic];exact ja.out,R3,HE.out⟩
      case measure=>first|(simp[intOf];done)|(simp[intOf];omega)
     .have h3:a<a+k:=by omega
      go_wp2;go_region;have kV:=ae (HR.out.swap (j:=a) (k:=a+k) (by rw[ja.out];omega) (by rw[ja.out];omega)).drew;rw[<-HG.out,<-HG.out]at kV;clear hcw hfw;generalize((wr.setCell ⟨blk,off+a,none⟩ (.int .u32 (G (a+k)))).setCell ⟨blk,off+(a+k),none⟩ (.int .u32 (G a))).drew=w2 at*;have hs2:(swp dj a (a+k)).size=d.size:=by rw[ic];exact ja.out
      have CC:=ae (OE blk off d.size cap (swp dj a (a+k)) hs2 0 k a w2 (kV.out.holds HH.out hs2) (by omega) (by omega) hsz);clear hs2
      go_wp2_with fail
      refine CC.out.mono ?_;rintro e w3 ⟨rfl,hr3⟩;have R3:=ae (kV.out.trans (nI _ _ _ _) hr3);clear hr3 CC;go_wp2;go_roundw
      case rel=>exact⟨(k:Int)-1,k,siftDown ltInt k a 0 (swp dj a (a+k)),by go_num,rfl,by omega,by show _=_;rw[nI,ic];exact ja.out,R3,HE.out⟩
      case measure=>first|(simp[intOf];done)|(simp[intOf];omega)
theorem Ja (i j:Nat) (d:Array Int) (h:¬i<j):reverseLoop i j d=d:=by rw[reverseLoop,aP h]
theorem OG (i j:Nat) (d:Array Int) (h:i<j):reverseLoop i j d=reverseLoop (i+1) (j-1) (swp d i j):=by rw[reverseLoop,aR h]
theorem akK (blk off len cap:Nat) (d:Array Int) (hlen:d.size=len) (a b:Nat) (w:World) (hH:Holds yf w blk off d) (hab:a<=b) (hb:b<=len) (hsz:len<4611686018427387904):
  Calls Tryz.prog 222 #[.slice (some ⟨blk,off,none⟩) len cap,.int .i64 a,.int .i64 b] w fun e w'=>e=.returned (.tuple #[])/\Row blk off w (reverseRange d a b) w':=by
 subst hlen;have HH:=ae hH;clear hH;go_enter Tryz.func222,Tryz.ntmps222;go_wp2
 go_loopw [6,7] (fun v6 v7 wr=>∃(i:Nat) (jz:Int) (dk:Array Int),v6=.int .i64 i/\v7=.int .i64 jz/\-1<=jz/\a<=i/\(jz<a->jz=(a:Int)-1/\i=a/\b=a)/\jz<(d.size:Int)/\Hid (dk.size=d.size)/\Hid (Row blk off w dk wr)/\Hid (reverseLoop i jz.toNat dk=reverseRange d a b)) (fun v6 v7 _=>(intOf v7-intOf v6).toNat)
 case atStart=>exact⟨a,(b:Int)-1,d,rfl,rfl,by omega,aG _,fun h=>⟨by omega,rfl,by omega⟩,by omega,rfl,Row.self HH.out,by
  show _=_;unfold reverseRange;rw[show((b:Int)-1).toNat=b-1 by omega]⟩
 case round=>
  obtain⟨i,jz,dk,rfl,rfl,hj1,hai,hjb,hjd,ja,HR,HE⟩:=hrel;by_cases hlt:(i:Int)<jz
  .obtain⟨j,rfl⟩:∃j:Nat,jz=(j:Int):=⟨jz.toNat,by omega⟩;have oV:i<j:=by omega
   have hjs:j<d.size:=by omega
   obtain⟨G,hG⟩:∃G:Nat->Int,∀t,G t=dk[t]! :=⟨fun t=>dk[t]!,fun _=>rfl⟩;have HG:=ae hG;clear hG hjb hj1 hjd hlt;have hcw:∀t,t<d.size->wr.cell? ⟨blk,off+t,none⟩=some (.int .u32 (G t)):=fun t ht=>by rw[HG.out];exact HR.out.cells HH.out ja.out t ht
   have hfw:∀t,t<d.size->wr.frozen? ⟨blk,off+t,none⟩=false:=fun t ht=>HR.out.fz HH.out ja.out t ht;go_wp2;go_region;have kV:=ae (HR.out.swap (j:=i) (k:=j) (by rw[ja.out];omega) (by rw[ja.out];omega)).drew;rw[<-HG.out,<-HG.out]at kV;clear hcw hfw;generalize((wr.setCell ⟨blk,off+i,none⟩ (.int .u32 (G j))).setCell ⟨blk,off+j,none⟩ (.int .u32 (G i))).drew=w2 at*;go_wp2;go_roundw
   case rel=>exact⟨i+1,(j:Int)-1,swp dk i j,by go_num,rfl,by omega,by omega,fun h=>by omega,by omega,by show _=_;rw[ic];exact ja.out,kV,by
    show _=_;rw[<-HE.out,show((j:Int)-1).toNat=j-1 by omega,iF,OG i j dk oV]⟩
   case measure=>simp[intOf];omega
  .go_wp2
   go_end0
   exact⟨rfl,by rw[<-HE.out,Ja _ _ _ (by omega)];exact HR.out⟩
structure GN:Prop where
 ins:∀(blk off cap a b:Nat) (d:Array Int) (w:World),Holds yf w blk off d->a<=b->b<=d.size->d.size<4611686018427387904->
  Calls Tryz.prog 218 #[.slice (some ⟨blk,off,none⟩) d.size cap,.int .i64 a,.int .i64 b] w fun e w'=>e=.returned (.tuple #[])/\∃n,w'=putRow yf (Sort.ahead w n) blk off (insertionSort ltInt d a b)
 brk:∀(blk off cap a b:Nat) (d:Array Int) (w:World),Holds yf w blk off d->blk<w.heap.size->a<=b->b<=d.size->d.size<4611686018427387904->
  Calls Tryz.prog 220 #[.slice (some ⟨blk,off,none⟩) d.size cap,.int .i64 a,.int .i64 b] w fun e w'=>e=.returned (.tuple #[])/\∃n os,w'=grow (putRow yf (Sort.ahead w n) blk off (breakPatterns d a b)) os
 piv:∀(blk off cap a b:Nat) (d:Array Int) (w:World),Holds yf w blk off d->blk<w.heap.size->a<b->b<=d.size->d.size<4611686018427387904->
  Calls Tryz.prog 221 #[.slice (some ⟨blk,off,none⟩) d.size cap,.int .i64 a,.int .i64 b] w fun e w'=>e=.returned (.tuple #[.int .i64 (choosePivot ltInt d a b).1,.int .i64 (hintCode (choosePivot ltInt d a b).2)])/\∃n os,w'=grow (Sort.ahead w n) os
 par:∀(blk off cap a b:Nat) (d:Array Int) (w:World),Holds yf w blk off d->a<b->b<=d.size->d.size<4611686018427387904->
  Calls Tryz.prog 223 #[.slice (some ⟨blk,off,none⟩) d.size cap,.int .i64 a,.int .i64 b] w fun e w'=>e=.returned (.bool (partialInsertionSort ltInt d a b).2)/\∃n,w'=putRow yf (Sort.ahead w n) blk off (partialInsertionSort ltInt d a b).1
 peq:∀(blk off cap a b pivot:Nat) (d:Array Int) (w:World),Holds yf w blk off d->a<=pivot->pivot<b->b<=d.size->d.size<4611686018427387904->
  Calls Tryz.prog 225 #[.slice (some ⟨blk,off,none⟩) d.size cap,.int .i64 a,.int .i64 b,.int .i64 pivot] w fun e w'=>e=.returned (.int .i64 (partitionEqual ltInt d a b pivot).1)/\∃n,w'=putRow yf (Sort.ahead w n) blk off (partitionEqual ltInt d a b pivot).2
 prt:∀(blk off cap a b pivot:Nat) (d:Array Int) (w:World),Holds yf w blk off d->a<=pivot->pivot<b->b<=d.size->d.size<4611686018427387904->
  Calls Tryz.prog 226 #[.slice (some ⟨blk,off,none⟩) d.size cap,.int .i64 a,.int .i64 b,.int .i64 pivot] w fun e w'=>e=.returned (.tuple #[.int .i64 (partition ltInt d a b pivot).1,.bool (partition ltInt d a b pivot).2.1])/\∃n,w'=putRow yf (Sort.ahead w n) blk off (partition ltInt d a b pivot).2.2
theorem akL (C:GN) (S:Plain13):∀(N blk off cap a b limit:Nat) (d:Array Int) (w:World),b-a<N->Holds yf w blk off d->blk<w.heap.size->a<=b->b<=d.size->d.size<4611686018427387904->limit<4611686018427387904->Below ltInt a b d->
  Calls Tryz.prog 149 #[.slice (some ⟨blk,off,none⟩) d.size cap,.int .i64 a,.int .i64 b,.int .i64 limit] w fun e w'=>e=.returned (.tuple #[])/\At yf w blk off (pdq ltInt d a b limit true true) w':=by
 intro N
 induction N with
 |zero=>intro _ _ _ _ _ _ _ _ h;exact absurd h (ll _)
 |succ N ih=>
  intro blk off cap a b limit d w hN hH hblk hab hb hsz WA akM;go_enter Tryz.func149,Tryz.ntmps149;go_wp2
  go_loopg [1,2,3,8,9] (b-a) (fun k s1 s2 s3 s8 s9 wr=>∃(a' b' lim:Nat) (wb wp:Bool) (dk:Array Int),s1=.int .i64 a'/\s2=.int .i64 b'/\s3=.int .i64 lim/\s8=.bool wb/\s9=.bool wp/\
   a'<=b'/\b'<=d.size/\b'-a'<=k/\k<=b-a/\lim<=limit/\dk.size=d.size/\Below ltInt a' b' dk/\At yf w blk off dk wr/\pdq ltInt dk a' b' lim wb wp=pdq ltInt d a b limit true true)
  case atStart=>exact⟨a,b,limit,true,true,d,rfl,rfl,rfl,rfl,rfl,hab,hb,aG _,aG _,aG _,rfl,akM,At.refl hH,rfl⟩
  case round=>
   obtain⟨a',b',lim,wb,wp,dk,rfl,rfl,rfl,rfl,rfl,TA,hb',hk,hkN,WB,ja,arA,hAt,heq⟩:=hrel;obtain⟨OB,akO⟩:=hAt.holds hH ja hblk;have A:Aside (pdq ltInt dk a' b' lim wb wp=pdq ltInt d a b limit true true):=heq;clear heq;by_cases h12:b'-a'<=12
   .
    have arB:(b':Int)-(a':Int)<=12:=by omega
    have hc:=C.ins blk off cap a' b' dk wr OB TA (by omega) (by omega);rw[ja]at hc
    go_wp2_with (go_at_call 218;refine hc.mono ?_;rintro e w1 ⟨rfl,Cm⟩)
    (try simp only[Exit.inBlock,Exit.then]);refine ng (mF rfl _ _ _) rfl ?_
    refine⟨rfl,?_⟩;rw[<-A.out,pdq_small h12];exact hAt.step hblk (S.ins S.swo dk a' b' TA (by omega)).1.1 Cm
   .have arB:¬((b':Int)-(a':Int)<=12):=by omega
    by_cases hl0:lim=0
    .
     subst hl0;have hc:=af3 blk off d.size cap dk ja a' b' wr OB TA (by omega) (by omega)
     go_wp2_with (go_at_call 219;refine hc.mono ?_;rintro e w1 ⟨rfl,Cm⟩)
     (try simp only[Exit.inBlock,Exit.then]);refine ng (mF rfl _ _ _) rfl ?_
     refine⟨rfl,?_⟩;rw[<-A.out,pdq_heap h12 rfl];exact hAt.step hblk (heapSort_holds S.swo dk a' b' TA (by omega)).1.1 Cm
    .have aAC:¬((lim:Int)=0):=by omega
     obtain⟨s1,B1,hc1,s2,B2,Ec,s3,B3⟩:=rd_facts (limit:=lim) (wb:=wb) (wp:=wp) S.swo S.par reverseRange_holds (show a'<b' by omega) (show b'<=dk.size by omega) arA
     go_upto_if 35 with fail
     go_cut [3]from 19 (fun s3 wc=>s3=.int .i64 (rd ltInt dk a' b' lim wb wp).lim/\At yf w blk off (rd ltInt dk a' b' lim wb wp).d1 wc)
     case first=>
      cases wb
      .have hc:=C.brk blk off cap a' b' dk wr OB akO TA (by omega) (by omega);rw[ja]at hc
       go_wp2_with (go_at_call 220;refine hc.mono ?_;rintro e w1 ⟨rfl,Cm⟩)
       go_meet
       case rel=>
        refine⟨?_,hAt.stepG hblk s1 Cm⟩;show Value.int .i64 ((lim:Int)-1)=Value.int .i64 ((lim-1:Nat):Int);congr 1;omega
      .go_wp2_with fail
       go_meet
       case rel=>exact⟨rfl,hAt⟩
     case rest=>
      obtain⟨rfl,akP⟩:=hcut;obtain⟨hH1,BN⟩:=akP.holds hH (s1.trans ja) hblk;have arC:Calls Tryz.prog 221 #[.slice (some ⟨blk,off,none⟩) d.size cap,.int .i64 a',.int .i64 b'] wc fun e w'=>e=.returned (.tuple #[.int .i64 (rd ltInt dk a' b' lim wb wp).c.1,.int .i64 (hintCode (rd ltInt dk a' b' lim wb wp).c.2)])/\∃n os,w'=grow (Sort.ahead wc n) os:=by
       have:=C.piv blk off cap a' b' (rd ltInt dk a' b' lim wb wp).d1 wc hH1 BN (by omega) (by omega) (by omega);rw[s1,ja]at this;exact this
      go_upto_if 50 with(go_at_call 221;refine arC.mono ?_;rintro e w2 ⟨rfl,hw2⟩)
      have af4:At yf w blk off (rd ltInt dk a' b' lim wb wp).d1 w2:=akP.same hH (s1.trans ja) hblk hw2;obtain⟨hH2,oW⟩:=af4.holds hH (s1.trans ja) hblk
      go_cut [11,12]from 19 (fun s11 s12 wc=>s11=.int .i64 (rd ltInt dk a' b' lim wb wp).pivot/\s12=.int .i64 (hintCode (rd ltInt dk a' b' lim wb wp).hint)/\At yf w blk off (rd ltInt dk a' b' lim wb wp).d2 wc)
      case first=>
       by_cases hh:(rd ltInt dk a' b' lim wb wp).c.2=.decreasing
       .have akQ:hintCode (rd ltInt dk a' b' lim wb wp).c.2=2:=by rw[hh];rfl
        obtain⟨e2,epv,eht⟩:=rd_dec hh;have akS:=akK blk off _ cap (rd ltInt dk a' b' lim wb wp).d1 rfl a' b' w2 hH2 TA (by omega) (by omega);rw[s1,ja]at akS
        go_wp2_with (go_at_call 222;refine akS.mono ?_;rintro e w3 ⟨rfl,hw3⟩)
        go_meet
        case rel=>
         refine⟨?_,by rw[eht];rfl,by rw[e2];exact af4.step hblk (by rw[<-e2,s2,s1]) hw3⟩;rw[epv];congr 1;omega
       .have akQ:¬(hintCode (rd ltInt dk a' b' lim wb wp).c.2=2):=fun h=>hh (hintCode_two h);obtain⟨e2,epv,eht⟩:=rd_not hh
        go_wp2_with fail
        go_meet
        case rel=>exact⟨by rw[epv],by rw[eht],by rw[e2];exact af4⟩
      case rest=>
       obtain⟨rfl,rfl,ab3⟩:=hcut;obtain⟨hH3,awU⟩:=ab3.holds hH (s2.trans ja) hblk
       go_upto_region 15 with fail
       go_cut [12,68]from 19 (fun s12 s68 wx=>s12=.int .i64 (hintCode (rd ltInt dk a' b' lim wb wp).hint)/\s68=.bool (wb&&wp&&decide ((rd ltInt dk a' b' lim wb wp).hint=.increasing))/\wx=wc)
       case first=>
        cases wb<;>cases wp<;>cases hh3:(rd ltInt dk a' b' lim _ _).hint<;>
         (have af6:=congrArg hintCode hh3
          simp only[hintCode]at af6
          go_wp2_with fail
          go_meet;exact⟨by simp[hh3,hintCode],by simp[hh3,hintCode],rfl⟩)
       case rest=>
        obtain⟨rfl,rfl,rfl⟩:=hcut
        go_upto_if 68 with fail
        go_cut []from 19 (fun wx=>(rd ltInt dk a' b' lim wb wp).pi.2=false/\At yf w blk off (rd ltInt dk a' b' lim wb wp).pi.1 wx)
        case first=>
         cases h68:(wb&&wp&&decide ((rd ltInt dk a' b' lim wb wp).hint=.increasing))
         .have epi:=rd_pi_no h68
          go_wp2_with fail
          go_meet
          case rel=>exact⟨by rw[epi],by rw[epi];exact ab3⟩
         .have epi:=rd_pi_yes h68;have akT:=C.par blk off cap a' b' (rd ltInt dk a' b' lim wb wp).d2 wc hH3 (by omega) (by omega) (by omega);rw[s2,ja,<-epi]at akT
          go_wp2_with (go_at_call 223;refine akT.mono ?_;rintro e w4 ⟨rfl,hw4⟩)
          all_goals first
           |(have WC:(rd ltInt dk a' b' lim wb wp).pi.2=false:=by rw[epi];assumption
             go_meet;exact⟨WC,ab3.step hblk (by rw[s3,s2]) hw4⟩)
           |(have WC:(rd ltInt dk a' b' lim wb wp).pi.2=true:=by rw[epi];assumption
             (try simp only[Exit.inBlock,Exit.then]);refine ng (mF rfl _ _ _) rfl ?_
             refine⟨rfl,?_⟩;rw[<-A.out,pdq_done h12 hl0 WC];exact ab3.step hblk (by rw[s3,s2]) hw4)
        case rest=>
         obtain⟨WC,af7⟩:=hcut;obtain⟨hH5,awX⟩:=af7.holds hH (s3.trans ja) hblk;have hcw:∀t,t<d.size->wc.cell? ⟨blk,off+t,none⟩=some (.int .u32 (rd ltInt dk a' b' lim wb wp).pi.1[t]!):=fun t ht=>(hH5 t (by omega)).1;have hfw:∀t,t<d.size->wc.frozen? ⟨blk,off+t,none⟩=false:=fun t ht=>(hH5 t (by omega)).2
         go_upto_region 17 with fail
         go_cut [87]from 19 (fun s87 wx=>s87=.bool (decide (a'>0)&&!ltInt (rd ltInt dk a' b' lim wb wp).pi.1[a'-1]! (rd ltInt dk a' b' lim wb wp).pi.1[(rd ltInt dk a' b' lim wb wp).pivot]!)/\At yf w blk off (rd ltInt dk a' b' lim wb wp).pi.1 wx)
         case first=>
          rcases pI a' with ha0|ha0
          .have arF:decide ((a':Int)>0)=false:=I5 (by omega)
           go_big_quiet (first|(go_at_call 224;refine gT (ed _ _ _)))
           go_wp2_with fail
           go_meet
           case rel=>exact⟨by simp[ha0],af7.ahead nq⟩
          .have arF:(a':Int)>0:=by omega
           go_big_quiet (first|(go_at_call 224;refine gT (ed _ _ _)))
           go_wp2_with fail
           go_meet
           case rel=>exact⟨by simp[ha0],af7.ahead nq⟩
         case rest=>
          obtain⟨rfl,af8⟩:=hcut;obtain⟨hH6,awY⟩:=af8.holds hH (s3.trans ja) hblk;clear hcw hfw;cases h87:(decide (a'>0)&&!ltInt (rd ltInt dk a' b' lim wb wp).pi.1[a'-1]! (rd ltInt dk a' b' lim wb wp).pi.1[(rd ltInt dk a' b' lim wb wp).pivot]!)
          .
           obtain⟨mid,ap,d4,hx⟩:∃mid ap d4,partition ltInt (rd ltInt dk a' b' lim wb wp).pi.1 a' b' (rd ltInt dk a' b' lim wb wp).pivot=(mid,ap,d4):=⟨(partition ltInt (rd ltInt dk a' b' lim wb wp).pi.1 a' b' (rd ltInt dk a' b' lim wb wp).pivot).1,(partition ltInt (rd ltInt dk a' b' lim wb wp).pi.1 a' b' (rd ltInt dk a' b' lim wb wp).pivot).2.1,(partition ltInt (rd ltInt dk a' b' lim wb wp).pi.1 a' b' (rd ltInt dk a' b' lim wb wp).pivot).2.2,rfl⟩;obtain⟨r1,r2,r3,r4,r5,r6,r7⟩:=round_part S.swo S.prt Ec.1 Ec.2 (show b'<=(rd ltInt dk a' b' lim wb wp).pi.1.size by omega) B3 hx;have akU:=C.prt blk off cap a' b' (rd ltInt dk a' b' lim wb wp).pivot (rd ltInt dk a' b' lim wb wp).pi.1 wc hH6 Ec.1 Ec.2 (by omega) (by omega);rw[s3,ja,hx]at akU;have X:Aside (partition ltInt (rd ltInt dk a' b' lim wb wp).pi.1 a' b' (rd ltInt dk a' b' lim wb wp).pivot=(mid,ap,d4)):=hx;clear hx
           go_upto_if 113 with(go_at_call 226;refine akU.mono ?_;rintro e w7 ⟨rfl,hw7⟩)
           have hx:=X.out;have af9:At yf w blk off d4 w7:=af8.step hblk r3 hw7;obtain⟨hH7,Rf⟩:=af9.holds hH (r3.trans (s3.trans ja)) hblk;by_cases h4:mid-a'<b'-mid
           .have h4z:(mid:Int)-(a':Int)<(b':Int)-(mid:Int):=by omega
            have hih:=ih blk off cap a' mid (rd ltInt dk a' b' lim wb wp).lim d4 w7 (by omega) hH7 Rf (by omega) (by omega) (by omega) (tq (bO rd_lim_le WB) WA) r4;rw[r3,s3,ja]at hih;obtain⟨pL,sL⟩:=S.pdq S.swo d4 a' mid (rd ltInt dk a' b' lim wb wp).lim true true (by omega) (by omega) r4
            go_wp2_with (go_at_call 149;refine hih.mono ?_;rintro e w8 ⟨rfl,hw8⟩)
            go_roundg (b'-(mid+1))
            case measure=>omega
            case rel=>
             refine⟨mid+1,b',(rd ltInt dk a' b' lim wb wp).lim,decide (mid-a'>=(b'-a')/8),ap,pdq ltInt d4 a' mid (rd ltInt dk a' b' lim wb wp).lim true true,by simp,rfl,rfl,?_,rfl,by omega,by omega,aG _,by omega,bO rd_lim_le WB,by rw[pL.1,r3,s3,ja],(r6 _ pL sL).1,af9.stepG hblk pL.1 hw8,?_⟩
             .exact congrArg Value.bool (eighth (by omega) (by omega))
             .rw[<-A.out,pdq_left h12 hl0 WC h87 (by rw[hx];exact⟨r1,r2⟩) (by rw[hx];exact h4),hx]
           .have h4z:¬((mid:Int)-(a':Int)<(b':Int)-(mid:Int)):=by omega
            have hih:=ih blk off cap (mid+1) b' (rd ltInt dk a' b' lim wb wp).lim d4 w7 (by omega) hH7 Rf (by omega) (by omega) (by omega) (tq (bO rd_lim_le WB) WA) r5;rw[r3,s3,ja]at hih;obtain⟨pL,sL⟩:=S.pdq S.swo d4 (mid+1) b' (rd ltInt dk a' b' lim wb wp).lim true true (by omega) (by omega) r5
            go_wp2_with (go_at_call 149;refine hih.mono ?_;rintro e w8 ⟨rfl,hw8⟩)
            go_roundg (mid-a')
            case measure=>omega
            case rel=>
             refine⟨a',mid,(rd ltInt dk a' b' lim wb wp).lim,decide (b'-mid>=(b'-a')/8),ap,pdq ltInt d4 (mid+1) b' (rd ltInt dk a' b' lim wb wp).lim true true,rfl,rfl,rfl,?_,rfl,by omega,by omega,aG _,by omega,bO rd_lim_le WB,by rw[pL.1,r3,s3,ja],(r7 _ pL sL).1,af9.stepG hblk pL.1 hw8,?_⟩
             .exact congrArg Value.bool (eighth (by omega) (by omega))
             .rw[<-A.out,pdq_right h12 hl0 WC h87 (by rw[hx];exact⟨r1,r2⟩) (by rw[hx];exact h4),hx]
          .
           have aga:=h87;simp only[qQ,bZ,qf]at aga;obtain⟨mid,d4,hx⟩:∃mid d4,partitionEqual ltInt (rd ltInt dk a' b' lim wb wp).pi.1 a' b' (rd ltInt dk a' b' lim wb wp).pivot=(mid,d4):=⟨(partitionEqual ltInt (rd ltInt dk a' b' lim wb wp).pi.1 a' b' (rd ltInt dk a' b' lim wb wp).pivot).1,(partitionEqual ltInt (rd ltInt dk a' b' lim wb wp).pi.1 a' b' (rd ltInt dk a' b' lim wb wp).pivot).2,rfl⟩;obtain⟨r1,r2,r3,r4,_⟩:=round_eq S.swo S.peq aga.1 Ec.1 Ec.2 (show b'<=(rd ltInt dk a' b' lim wb wp).pi.1.size by omega) B3 aga.2 hx;have akW:=C.peq blk off cap a' b' (rd ltInt dk a' b' lim wb wp).pivot (rd ltInt dk a' b' lim wb wp).pi.1 wc hH6 Ec.1 Ec.2 (by omega) (by omega);rw[s3,ja,hx]at akW;have X:Aside (partitionEqual ltInt (rd ltInt dk a' b' lim wb wp).pi.1 a' b' (rd ltInt dk a' b' lim wb wp).pivot=(mid,d4)):=hx;clear hx
           go_wp2_with (go_at_call 225;refine akW.mono ?_;rintro e w7 ⟨rfl,hw7⟩)
           go_roundg (b'-mid)
           case measure=>omega
           case rel=>
            have hx:=X.out;exact⟨mid,b',(rd ltInt dk a' b' lim wb wp).lim,wb,wp,d4,rfl,rfl,rfl,rfl,rfl,r2,hb',aG _,by omega,bO rd_lim_le WB,by rw[r3,s3,ja],r4,af8.step hblk r3 hw7,by rw[<-A.out,pdq_eq h12 hl0 WC h87 (by rw[hx];exact⟨r1,r2⟩),hx]⟩
end Go.Proofs.YtkjdbndekceffaaGreat
namespace Go.Proofs.YtkjdbndekceffaaGreat
open Go.RowKit
theorem holds_of_block {α:Type} [Inhabited α] {enc:α->Value} {w:World} {g:Nat} {cur:Array Value} {e:TypeId} {l:List α} (hh:w.heap[g]? =some (.cells cur e (0,0))) (ht:cur.toList.take l.length=l.map enc):
  Sort.Holds enc w g 0 l.toArray:=by
 intro j hj;have hj':j<l.length:=by simpa using hj
 refine⟨?_,?_⟩
 .unfold World.cell?;simp only[hh,lu];have h1:(cur.toList.take l.length)[j]? =some (enc l[j]):=by rw[ht];simp[hj']
  rw[wP]at h1;simp only[hj',gV]at h1;simpa[hj']using h1
 .unfold World.frozen?;simp[hh]
theorem uf {α:Type} [Inhabited α] {enc:α->Value} {w:World} {base g cap:Nat} {cur:Array Value} {e:TypeId} {l l':List α} (hg:base<=g) (hh:w.heap[g]? =some (.cells cur e (0,0))) (hc:l.length<=cap) (hm:cap<=maxLen) (hs:cur.size=cap)
  (hl:l'.length=l.length) (q:Nat) (os:Array Obj):
  ∃cur',(Sort.grow (Sort.putRow enc (Sort.ahead w q) g 0 l'.toArray) os).heap[g]? =some (.cells cur' e (0,0))/\cur'.size=cap/\cur'.toList.take l'.length=l'.map enc/\
   (Sort.grow (Sort.putRow enc (Sort.ahead w q) g 0 l'.toArray) os).ownsRow base e 1 (.slice (some ⟨g,0,none⟩) l'.length cap) l'.length (l'.map enc):=by
 have key:(Sort.grow (Sort.putRow enc (Sort.ahead w q) g 0 l'.toArray) os).heap[g]? =some (.cells (Sort.putCells enc 0 l'.toArray cur) e (0,0)):=by
  have hlt:g<w.heap.size:=(bn.1 hh).1;show((w.heap.modify g (Sort.onCells (Sort.putCells enc 0 l'.toArray)))++os)[g]? =_;rw[zQ (by simpa using hlt),zS,aR rfl,hh];rfl
 have hsz:(Sort.putCells enc 0 l'.toArray cur).size=cap:=by simp[Sort.putCells,hs]
 have htk:(Sort.putCells enc 0 l'.toArray cur).toList.take l'.length=l'.map enc:=by
  apply zY;intro j;rw[wP];by_cases hj:j<l'.length
  .rw[aR hj];have OH:j<cur.size:=by omega
   simp[Sort.putCells,hj,OH]
  .rw[aP hj];exact(p9 (by simp;omega)).symm
 refine⟨_,key,hsz,htk,by simp,.inr ⟨g,cap,_,rfl,hg,key,by omega,hm,by omega,?_⟩⟩;rw[lC];exact htk
end Go.Proofs.YtkjdbndekceffaaGreat
namespace Go.Proofs.YtkjdbndekceffaaGreat
open Go.RowKit Go.Sort
theorem TB:GN where
 ins:=akF
 brk:=akH
 piv:=Wx
 par:=Tz
 peq:=Wu
 prt:=af0
theorem ab5:Plain13 where
 swo:=swo_ltInt
 ins:=insertionSort_holds
 par:=partialInsertionSort_holds
 prt:=partition_holds _
 peq:=partitionEqual_holds _
 pdq:=pdq_sorts _
theorem OI (blk off cap:Nat) (d:Array Int) (w:World) (hH:Holds (Value.int .u32) w blk off d) (hblk:blk<w.heap.size) (hsz:d.size<4611686018427387904):
  Calls Tryz.prog 64 #[.slice (some ⟨blk,off,none⟩) d.size cap] w fun e w'=>e=.returned (.tuple #[])/\∃n os,w'=grow (putRow (Value.int .u32) (Sort.ahead w n) blk off (Sort.sort ltInt d)) os:=by
 have ab1:∀w,Calls Tryz.prog 86 #[.int .u64 (d.size:Int)] w fun e w'=>e=.returned (.int .i64 (bitsLen d.size:Nat))/\w'=w:=fun w=>by
  have h:=Tryz.bits_Len (d.size:Int) w (by omega) (by omega);rwa [iF,bitLen_eq _ (by omega)]at h
 have hk:bitsLen d.size<=62:=(bitsLen_le_iff d.size 62).2 (by omega);have hp:=ae (akL TB ab5 (d.size+1) blk off cap 0 d.size (bitsLen d.size) d w (by omega) hH hblk (bC _) (aG _) hsz (by omega) (Or.inl rfl));have hL:=ae ab1;clear hH ab1;go_enter Tryz.func64,Tryz.ntmps64
 go_wp2_with fail
 refine(hL.out _).mono ?_;rintro e w' ⟨rfl,rfl⟩
 go_wp2_with fail
 refine hp.out.mono ?_;rintro e w' ⟨rfl,n,os,rfl⟩;go_wp2
 go_end0
 exact⟨rfl,n,os,rfl⟩
theorem Lh (zs:List Int):Sort.sort ltInt zs.toArray=(zs.mergeSort fun x y=>decide (x<=y)).toArray:=by
 rw[<-sortInt zs]
theorem agc (blk off cap:Nat) (zs:List Int) (w:World) (hH:Holds (Value.int .u32) w blk off zs.toArray) (hblk:blk<w.heap.size) (hsz:zs.length<4611686018427387904):
  Calls Tryz.prog 64 #[.slice (some ⟨blk,off,none⟩) zs.length cap] w fun e w'=>
   e=.returned (.tuple #[])/\∃n os,w'=grow (putRow (Value.int .u32) (Sort.ahead w n) blk off (zs.mergeSort fun x y=>decide (x<=y)).toArray) os:=by
 have h:=OI blk off cap zs.toArray w hH hblk (by simpa using hsz);rw[Lh]at h;simpa using h
theorem OJ (p:Option Addr) (cap:Nat) (w:World):
  Calls Tryz.prog 218 #[.slice p 0 cap,.int .i64 0,.int .i64 0] w fun e w'=>e=.returned (.tuple #[])/\w'=w:=by
 go_enter Tryz.func218,Tryz.ntmps218;go_wp2;refine wp_loop_rounds 1 ?_;rw[rounds_succ];go_wp2
 go_end0
 exact⟨rfl,rfl⟩
theorem Li (p:Option Addr) (cap:Nat) (w:World):
  Calls Tryz.prog 64 #[.slice p 0 cap] w fun e w'=>e=.returned (.tuple #[])/\w'=w:=by
 have L:=ae (fun W=>Tryz.bits_Len 0 W (by decide) (by decide));have II:=ae (OJ p cap);go_enter Tryz.func64,Tryz.ntmps64
 go_wp2_with (first|(go_at_call 86;refine(L.out _).mono ?_;rintro e w' ⟨rfl,rfl⟩)|go_in)
 refine wp_loop_rounds 1 ?_;rw[rounds_succ]
 go_wp2_with (first|(go_at_call 218;refine(II.out _).mono ?_;rintro e w2 ⟨rfl,rfl⟩)|go_in)
 refine ng (mF rfl _ _ _) rfl ?_;go_wp2
 go_end0
 exact⟨rfl,rfl⟩
end Go.Proofs.YtkjdbndekceffaaGreat
