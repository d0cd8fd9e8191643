/- A part of the proof; its text was made small by a program (no remarks, short names). -/
import Derived.Test.YtkjdbndekceffaaGreatV00
import Derived.Test.YtkjdbndekceffaaGreatV05
import Derived.Test.YtkjdbndekceffaaGreatV03
import Derived.Test.YtkjdbndekceffaaGreatV04
import Derived.Test.YtkjdbndekceffaaGreatV06
import Derived.Test.YtkjdbndekceffaaGreatV08
import Derived.Test.YtkjdbndekceffaaGreatProg
set_option linter.unusedSimpArgs false
set_option linter.unusedVariables false
set_option maxRecDepth 100000
set_option maxHeartbeats 16000000
namespace Go.Proofs.YtkjdbndekceffaaGreat
open Go.RowKit Go.Sort Go.Shelf Go.Lib Go.Maps
theorem zu:∀args w,(callFunc 124 args).run Tryz.prog w=.ok (.enter 124 args) w:=dF Tryz.func124 (by kernel_rfl) rfl
theorem Yn (q p:Pt) (pb:Nat) (W:World) (h0:W.cell? (ah pb 0)=some (ag p.1)) (h1:W.cell? (ah pb 1)=some (ag p.2.1)) (h2:W.cell? (ah pb 2)=some (aJ p.2.2)):
  aO 124 #[ku q.1 q.2.1 q.2.2,ay pb] W fun e w'=>e=.returned (.bool (decide (q=p)))/\zN W w':=by
 have hlt:=iD W _ h0;have k0:=aj h0;have k1:=aj h1;have k2:=aj h2;obtain⟨p1,p2,p3⟩:=p;obtain⟨q1,q2,q3⟩:=q;simp only at*;go_enter Tryz.func124,Tryz.ntmps124;go_wp2
 all_goals
  go_ret;exact⟨by simp[*],(zN.refl _).alloc _⟩
theorem adj (p:Pt) (pb:Nat) (a:Option Addr) (c:Nat) (l:List Pt) (w:World) (h0:w.cell? (ah pb 0)=some (ag p.1)) (h1:w.cell? (ah pb 1)=some (ag p.2.1)) (h2:w.cell? (ah pb 2)=some (aJ p.2.2)) (hl:dU fH 3 w a l) (hn:l.length<=1000000):
  aO 190 #[.slice a l.length c,.func (.func 124) #[] #[ay pb]] w fun e w'=>
   (∃k:Int,e=.returned (ag k)/\((k=-1/\p∉l)\/∃i:Nat,k=i/\i<l.length/\l[i]? =some p/\p∉l.take i))/\Below w.heap.size w w':=by
 have HL:=ae hl;have Ky:=iD w _ h0;have CL:=ae (fun(q:Pt) (W:World) (hb:Below w.heap.size w W)=>Yn q p pb W ((hb.cell (p:=(ah pb 0)) Ky).trans h0) ((hb.cell (p:=(ah pb 1)) Ky).trans h1) ((hb.cell (p:=(ah pb 2)) Ky).trans h2));have en:=zu;clear h0 h1 h2 hl;go_enter Tryz.func190,Tryz.ntmps190;go_wp2
 go_loopw [8] (fun kv wr=>∃i:Nat,kv=.int .i64 i/\i<=l.length/\Hid (p∉l.take i)/\Hid (Below w.heap.size w wr)) (fun kv _=>l.length-(intOf kv).toNat)
 case atStart=>exact⟨0,rfl,bC _,by simp[Hid],aM _ _⟩
 case round=>
  obtain⟨i,rfl,hi,HN,HB⟩:=hrel;by_cases hlt:i<l.length
  .obtain⟨b,off,ea,hbl,hcs⟩:=(HL.out.below HB.out).get (by omega);have x0:=hcs i hlt 0 (by omega);have x1:=hcs i hlt 1 (by omega);have x2:=hcs i hlt 2 (by omega);simp only[fH,aT,aS,eG]at x0 x1 x2;have et:l.take (i+1)=l.take i++[l[i]]:=fG hlt;have HT:Hid (p∉l.take (i+1)↔¬l[i]=p):=by
    show _↔_;rw[et,df];have:=HN.out;constructor
    .intro h e;exact h (.inr (by simp[e]))
    .rintro h (h9|h9)
     .exact this h9
     .exact h (mR.1 h9).symm
   have HG:Hid (l[i]? =some l[i]):=dD hlt;have C1:=ae (CL.out l[i] wr HB.out);have EA:=ae ea;clear hcs ea et;generalize l[i]=q at*;obtain⟨qx,qy,qi⟩:=q;simp only at x0 x1 x2;obtain rfl:=EA.out;clear EA;have um:(i:Int)<(l.length:Int):=by omega
   go_wp2_with fail
   refine C1.out.mono ?_;rintro e w2 ⟨rfl,hg⟩;have fP:=ae (HB.out.trans ((hg.below (aG _)).mono HB.out.size));by_cases hq:(qx,qy,qi)=p
   .have hd:decide ((qx,qy,qi)=p)=true:=by simp[hq]
    go_wp2_with fail
    go_ret;exact⟨⟨i,rfl,.inr ⟨i,rfl,hlt,by rw[HG.out,hq],HN.out⟩⟩,fP.out⟩
   .have hd:decide ((qx,qy,qi)=p)=false:=by simp[hq]
    have Uy:=ae (HT.out.2 hq)
    go_wp2_with fail
    go_roundw
    case rel=>exact⟨i+1,by go_num,by omega,Uy,fP⟩
    case measure=>simp[intOf];omega
  .have hge:¬(i:Int)<(l.length:Int):=by omega
   have kE:i=l.length:=by omega
   go_wp2_with fail
   go_ret;have h9:=HN.out;rw[kE,mW]at h9;exact⟨⟨-1,rfl,.inl ⟨rfl,h9⟩⟩,HB.out⟩
theorem Hm:∀(L:List Pt) (j:Nat) (p:Pt),(((L.flatMap fH).set (j*3) (.int .i64 p.1)).set (j*3+1) (.int .i64 p.2.1)).set (j*3+2) (.int .u32 p.2.2)=(L.set j p).flatMap fH
 |[],j,p=>by simp
 |q::L,0,p=>by simp[fH]
 |q::L,j+1,p=>by
  have ih:=Hm L j p;rw[zV,oP,oP,<-ih];simp only[fH,nT,iV,show(j+1)*3=j*3+1+1+1 by omega,zV,show j*3+1+1+1+1=(j*3+1)+1+1+1 by omega,show j*3+1+1+1+2=(j*3+2)+1+1+1 by omega]
theorem MB {w:World} {base g c j n:Nat} {L:List Pt} (h:w.ownsRow base 29 3 (aD g n c) n (L.flatMap fH)) (p:Pt):
  (((w.setCell (ah g (j*3)) (.int .i64 p.1)).setCell (ah g (j*3+1)) (.int .i64 p.2.1)).setCell (ah g (j*3+2)) (.int .u32 p.2.2)).ownsRow base 29 3 (aD g n c) n ((L.set j p).flatMap fH):=by
 rw[<-Hm];exact((((h.stored (j*3) (.int .i64 p.1)).1).stored (j*3+1) (.int .i64 p.2.1)).1.stored (j*3+2) (.int .u32 p.2.2)).1
theorem JL {L:List Pt} {j:Nat} (hj:j<L.length):(L.flatMap fH)[j*3]? =some (.int .i64 L[j].1)/\(L.flatMap fH)[j*3+1]? =some (.int .i64 L[j].2.1)/\(L.flatMap fH)[j*3+2]? =some (.int .u32 L[j].2.2):=by
 induction L generalizing j with
 |nil=>simp at hj
 |cons q L ih=>
  cases j with
  |zero=>simp[fH]
  |succ j=>
   have:=ih (j:=j) (by simpa using hj);simp only[oP,fH,nT,iV,show(j+1)*3=j*3+1+1+1 by omega,aS,show j*3+1+1+1+1=(j*3+1)+1+1+1 by omega,show j*3+1+1+1+2=(j*3+2)+1+1+1 by omega,List.getElem_cons_succ];exact this
theorem Gp {l:List Pt} {i m:Nat} (hi:i<=m) (hm:m+1<l.length):((l.eraseIdx i).take m++l.drop m).set m l[m+1]=(l.eraseIdx i).take (m+1)++l.drop (m+1):=by
 have hl:(l.eraseIdx i).length=l.length-1:=List.length_eraseIdx_of_lt (by omega);have e1:((l.eraseIdx i).take m).length=m:=by rw[eF];omega
 have e2:(l.eraseIdx i)[m]? =some l[m+1]:=by rw[List.getElem?_eraseIdx,aP (by omega),dD hm]
 have Wi:m<(l.eraseIdx i).length:=by omega
 rw[dD Wi]at e2;injection e2 with e2;rw[wu _ _ (by omega),e1,jS,nP (by omega:m<l.length),qO,fG Wi,e2,ek];rfl
theorem Cu {l:List Pt} {p:Pt} {i:Nat} (hn:l.Nodup) (hi:l[i]? =some p):(l.filter fun q=>decide (q≠p))=l.eraseIdx i:=by
 induction l generalizing i with
 |nil=>simp at hi
 |cons x l ih=>
  rw[mX]at hn;cases i with
  |zero=>
   simp only[aT,jB]at hi;subst hi;rw[mV,aP (by simp),List.eraseIdx_cons_zero];exact qc.2 fun q hq=>by simp only[bZ];rintro rfl;exact hn.1 hq
  |succ i=>
   rw[aS]at hi;have hx:x≠p:=fun e=>hn.1 (e▸List.mem_of_getElem? hi);rw[mV,aR (by simpa using hx),List.eraseIdx_cons_succ,ih hn.2 hi]
theorem JM (w:World) (g m c:Nat) (hc:∀j,j<3->(w.cell? (ah g (m*3+j))).isSome=true) (hf:∀j,j<3->w.frozen? (ah g (m*3+j))=false):
  (Builtin.clear_ #[22] 0 #[.slice (some (ah g (m*3))) 1 c]).run Tryz.prog w=.ok (.tuple #[]) (((w.setCell (ah g (m*3)) (.int .i64 0)).setCell (ah g (m*3+1)) (.int .i64 0)).setCell (ah g (m*3+2)) (.int .u32 0)):=by
 have hst:=run_storeCells_cells (P:=Tryz.prog) g (m*3) [.int .i64 0,.int .i64 0,.int .u32 0] 0 w (by simpa using hc) (by simpa using hf) (by intro v hv;simp at hv;rcases hv with rfl|rfl<;>rfl);simp only[eG]at hst;have hv:(zeroValue 29).run Tryz.prog w=.ok (.agg #[ag 0,ag 0,aJ 0]) w:=by kernel_rfl
 have hz:(Builtin.zeroCells (Value.agg #[ag 0,ag 0,aJ 0]).cells 1).toList=[.int .i64 0,.int .i64 0,.int .u32 0]:=by kernel_rfl
 simp[Builtin.clear_,pM DI,hv,hz,hst,World.setCells]
theorem UA {w:World} {base g n n' cap:Nat} {e:TypeId} {L:List Pt} (h:w.ownsRow base e 3 (aD g n cap) n (L.flatMap fH)) (hn:n'<=n):w.ownsRow base e 3 (aD g n' cap) n' ((L.take n').flatMap fH):=by
 obtain⟨h0,h1⟩:=h;rw[iw cZ]at h0;have hl:L.length=n:=by omega
 refine⟨by rw[iw cZ,eF];omega,?_⟩;rcases h1 with⟨e9,-⟩|⟨g',cap',cur,e9,h2,h3,h4,h5,h6,h7⟩
 .cases e9
 .injection e9 with e1 _ e3;injection e1 with e1;injection e1 with e1 _ _;subst e1 e3;refine .inr ⟨g,cap,cur,rfl,h2,h3,by omega,h5,h6,?_⟩;have h8:(L.take n').flatMap fH=(L.flatMap fH).take (n'*3):=by
   have h9:L.flatMap fH=(L.take n').flatMap fH++(L.drop n').flatMap fH:=by rw[<-lW,lg]
   rw[h9,List.take_left' (by rw[iw cZ,eF];omega)]
  rw[h8,<-h7,D7];congr 1;omega
theorem Yo (p:Pt) (pb g c n base:Nat) (l:List Pt) (w:World) (h0:w.cell? (ah pb 0)=some (ag p.1)) (h1:w.cell? (ah pb 1)=some (ag p.2.1)) (h2:w.cell? (ah pb 2)=some (aJ p.2.2)) (hown:w.ownsRow base 29 3 (aD g n c) n (l.flatMap fH)) (Mi:l.length=n) (hn:n<=1000000) (hpg:pb≠g) (xI:l.Nodup):
  aO 123 #[aD g n c,.func (.func 124) #[] #[ay pb]] w fun e w'=>
   ∃n',e=.returned (aD g n' c)/\n'=(l.filter fun q=>decide (q≠p)).length/\w'.ownsRow base 29 3 (aD g n' c) n' ((l.filter fun q=>decide (q≠p)).flatMap fH)/\aC (fun k=>k=g) w w':=by
 subst Mi;obtain⟨F,HFF⟩:∃F,Hid (F=l.filter fun q=>decide (q≠p)):=⟨_,rfl⟩;rw[<-HFF.out];have Ky:=iD w _ h0;have CI:=ae (adj p pb (some (ah g 0)) c l w h0 h1 h2 (by
  obtain⟨a9,c9,e9,-,-,hr⟩:=dU.aL cZ (by decide) hown;injection e9 with e9 _ _;rw[e9];exact hr) hn)
 have CL:=ae (fun(q:Pt) (W:World) (hb:aC (fun k=>k=g) w W)=>Yn q p pb W ((dX (a:=(ah pb 0)) (hb.block pb Ky hpg)).trans h0) ((dX (a:=(ah pb 1)) (hb.block pb Ky hpg)).trans h1) ((dX (a:=(ah pb 2)) (hb.block pb Ky hpg)).trans h2));have hlc:l.length<=c:=by
  obtain⟨a9,c9,e9,-,h9,-⟩:=dU.aL cZ (by decide) hown;injection e9 with _ _ e9;omega
 have HO:=ae hown;have ND:=ae xI;have en:=zu;clear h0 h1 h2 hown xI;go_enter Tryz.func123,Tryz.ntmps123
 go_wp2_with fail
 refine CI.out.mono ?_;rintro e w1 ⟨⟨k,rfl,hk⟩,hb1⟩;have HO1:=ae (au HO.out hb1);have nL:Hid (aC (fun k=>k=g) w w1):=(aC.refl _ w).below hb1;rcases hk with⟨rfl,hno⟩|⟨i,rfl,hi,hat,-⟩
 .have hf:(l.filter fun q=>decide (q≠p))=l:=qc.2 fun q hq=>by simp only[bZ];rintro rfl;exact hno hq
  go_wp2_with fail
  go_ret;have hF:=HFF.out.trans hf;rw[hF];exact⟨_,rfl,rfl,HO1.out,nL.out⟩
 .have HF:=ae (HFF.out.trans (Cu ND.out hat));have F6:=ae hat;clear hat;have hne:((i:Int)==-1)=false:=by simp only[beq_eq_false_iff_ne];omega
  have hlen:=List.length_eraseIdx_of_lt hi
  go_wp2_with fail
  go_loopw [5,6] (fun iv jv wr=>∃m:Nat,iv=.int .i64 m/\jv=.int .i64 ((m+1:Nat):Int)/\i<=m/\m+1<=l.length/\Hid (wr.ownsRow base 29 3 (aD g l.length c) l.length (((l.eraseIdx i).take m++l.drop m).flatMap fH))/\Hid (aC (fun k=>k=g) w wr)) (fun iv _ _=>l.length-(intOf iv).toNat)
  case atStart=>exact⟨i,rfl,by go_num,aG _,by omega,by rw[GL,List.take_left' (by rw[eF];omega),lg];exact HO1.out,nL.out⟩
  case round=>
   obtain⟨m,rfl,rfl,KN,hm,HR,HK⟩:=hrel;by_cases hlt:m+1<l.length
   .have vV:((l.eraseIdx i).take m++l.drop m).length=l.length:=by simp;omega
    have nX:((l.eraseIdx i).take m++l.drop m)[m+1]? =some l[m+1]:=by
     have e1:((l.eraseIdx i).take m).length=m:=by rw[eF];omega
     rw[oO (by omega),e1,IP,show m+(m+1-m)=m+1 by omega,dD hlt]
    have hst:=Gp KN hlt;have atl:¬l[m+1]=p:=fun e=>by
     have h9:=F6.out;rw[dD hi]at h9;injection h9 with h9;have:=(List.getElem_inj ND.out).1 (h9.trans e.symm);omega
    generalize(l.eraseIdx i).take m++l.drop m=R at*;generalize l[m+1]=q at*;have ahB:m+1<R.length:=by omega
    obtain⟨f0,f1,f2⟩:=JL ahB;rw[dD ahB]at nX;injection nX with nX;rw[nX]at f0 f1 f2;have x0:=HR.out.cellAt ((m+1)*3) (by omega);have x1:=HR.out.cellAt ((m+1)*3+1) (by omega);have x2:=HR.out.cellAt ((m+1)*3+2) (by omega);rw[f0]at x0;rw[f1]at x1;rw[f2]at x2;have HST:=ae hst;have C1:=ae (fun W hb=>CL.out q W hb);have hRm:m<R.length:=by omega
    clear f0 f1 f2 hst nX vV ahB;obtain⟨qx,qy,qi⟩:=q;simp only at x0 x1 x2;have hd:decide ((qx,qy,qi)=p)=false:=by simp[atl]
    have um:((m+1:Nat):Int)<(l.length:Int):=by omega
    have HA:=ae ((aM wr.heap.size wr).alloc (aG _) (.cells #[ag qx,ag qy,aJ qi] 29));have n0:(wr.alloc (.cells #[ag qx,ag qy,aJ qi] 29)).cell? (ah wr.heap.size 0)=some (ag qx):=by rw[fw _ _ _ _ rfl];rfl
    have n1:(wr.alloc (.cells #[ag qx,ag qy,aJ qi] 29)).cell? (ah wr.heap.size 1)=some (ag qy):=by rw[fw _ _ _ _ rfl];rfl
    have n2:(wr.alloc (.cells #[ag qx,ag qy,aJ qi] 29)).cell? (ah wr.heap.size 2)=some (aJ qi):=by rw[fw _ _ _ _ rfl];rfl
    have HN0:=ae n0;have Ez:=ae n1;have Uy:=ae n2;clear n0 n1 n2
    go_wp2_with fail
    refine(C1.out _ (HK.out.grown (sO wr _ none) (by simp))).mono ?_;rintro e w2 ⟨rfl,hg⟩;rw[hd];have hb2:=hg.below (aG _);have y0:=(hb2.cell (p:=(ah wr.heap.size 0)) (by simp)).trans HN0.out;have y1:=(hb2.cell (p:=(ah wr.heap.size 1)) (by simp)).trans Ez.out;have y2:=(hb2.cell (p:=(ah wr.heap.size 2)) (by simp)).trans Uy.out;have fP:Hid (Below wr.heap.size wr w2):=HA.out.trans (hb2.mono (by simp));have kV:=ae (au HR.out fP.out);have z0:=kV.out.cellAt (m*3) (by omega);have z1:=kV.out.cellAt (m*3+1) (by omega);have z2:=kV.out.cellAt (m*3+2) (by omega);have zf0:=kV.out.frozenAt (m*3);have zf1:=kV.out.frozenAt (m*3+1);have zf2:=kV.out.frozenAt (m*3+2);obtain⟨f0,f1,f2⟩:=JL hRm;rw[f0]at z0;rw[f1]at z1;rw[f2]at z2;have vR:Hid (aC (fun k=>k=g) w w2):=HK.out.grown (bV fP.out) (by simp);have yz:=ae (MB (j:=m) kV.out (qx,qy,qi));clear f0 f1 f2 hg hb2 x0 x1 x2;have hmi:(m:Int)<(l.length:Int):=by omega
    go_wp2;go_roundw
    case rel=>exact⟨m+1,by go_num,by go_num,by omega,by omega,by rw[<-HST.out];exact yz.out,((vR.out.set _ (.inl rfl)).set _ (.inl rfl)).set _ (.inl rfl)⟩
    case measure=>simp[intOf];omega
   .have hge:¬((m+1:Nat):Int)<(l.length:Int):=by omega
    have hmi:(0:Int)<=(m:Int)/\(m:Int)<=(l.length:Int):=by omega
    have G7:l.length-m=1:=by omega
    have hmc:m<c:=by omega
    have vV:m<((l.eraseIdx i).take m++l.drop m).length:=by simp;omega
    obtain⟨f0,f1,f2⟩:=JL vV;have z0:=HR.out.cellAt (m*3) (by omega);have z1:=HR.out.cellAt (m*3+1) (by omega);have z2:=HR.out.cellAt (m*3+2) (by omega);rw[f0]at z0;rw[f1]at z1;rw[f2]at z2;have R2:=JM wr g m (c-m) (fun j hj=>by
     obtain rfl|rfl|rfl:j=0\/j=1\/j=2:=by omega
     .simp[z0]
     .simp[z1]
     .simp[z2]) (fun j _=>HR.out.frozenAt (m*3+j))
    have R1:(Builtin.clear_ #[22] 0 #[.slice (some (ah g (m*3))) (l.length-m) (c-m)]).run Tryz.prog wr=.ok (.tuple #[]) (((wr.setCell (ah g (m*3)) (.int .i64 0)).setCell (ah g (m*3+1)) (.int .i64 0)).setCell (ah g (m*3+2)) (.int .u32 0)):=by rw[G7];exact R2
    clear R2;have yz:=ae (UA (n':=m) (MB (j:=m) HR.out (0,0,0)) (by omega));have HE:Hid (((((l.eraseIdx i).take m++l.drop m).set m (0,0,0)).take m)=F):=by
     have e1:((l.eraseIdx i).take m).length=m:=by rw[eF];omega
     show _=_;rw[HF.out,wu _ _ (by omega),List.take_left' e1,kZ (by omega)]
    have HML:Hid (m=(l.eraseIdx i).length):=by show _=_;omega
    clear f0 f1 f2 z0 z1 z2 vV G7 hlen
    go_wp2_with fail
    go_ret;exact⟨m,rfl,by rw[HF.out];exact HML.out,by rw[<-HE.out];exact yz.out,((HK.out.set _ (.inl rfl)).set _ (.inl rfl)).set _ (.inl rfl)⟩
theorem Yp {l:List Pt} (h:(ids l).Nodup) (f:Pt->Bool):(ids (l.filter f)).Nodup:=(List.filter_sublist.map _).nodup h
theorem Fb {l:List Pt} (h:(ids l).Nodup):l.Nodup:=(dG.1 h).imp fun h e=>h (congrArg (fun p:Pt=>p.2.2) e)
end Go.Proofs.YtkjdbndekceffaaGreat
namespace Go.Proofs.YtkjdbndekceffaaGreat
open Go.RowKit Go.Maps
def nn (c:eX):jI:=(c.2,c.2)
def dx (al:List Bool) (c:eX):Bool:=al[c.2.toNat]? ==some true
def uI (al:List Bool) (l:List eX):List Pt:=(l.filter (dx al)).map (·.1)
def iJ (eY:List Int) (l:List eX) (i:Int):List Int:=l.foldl (fun v c=>v.set c.2.toNat i) eY
theorem ow:∀(l:List eX) (eY:List Int) (i:Int),(iJ eY l i).length=eY.length
 |[],_,_=>rfl
 |c::l,eY,i=>by
  show(iJ (eY.set c.2.toNat i) l i).length=_;rw[ow l];simp
theorem MC (eY:List Int) (l:List eX) (c:eX) (i:Int):iJ eY (l++[c]) i=(iJ eY l i).set c.2.toNat i:=by simp[iJ]
theorem rM:∀(l:List eX) (eY:List Int) (i:Int) (k:Nat),(∀c∈l,c.2.toNat≠k)->(iJ eY l i)[k]? =eY[k]?
 |[],_,_,_,_=>rfl
 |c::l,eY,i,k,h=>by
  show(iJ (eY.set c.2.toNat i) l i)[k]? =_;rw[rM l _ i k (fun d hd=>h d (lU _ hd)),wD (h c sQ)]
theorem Bi:∀(l:List eX) (eY:List Int) (i:Int) (c:eX),c∈l->c.2.toNat<eY.length->(iJ eY l i)[c.2.toNat]? =some i
 |d::l,eY,i,c,h,hl=>by
  show(iJ (eY.set d.2.toNat i) l i)[c.2.toNat]? =_;by_cases hc:∃e∈l,e.2.toNat=c.2.toNat
  .obtain⟨e,he,h2⟩:=hc;rw[<-h2];exact Bi l _ i e he (by rw[qh,h2];exact hl)
  .have hne:∀e∈l,e.2.toNat≠c.2.toNat:=fun e he h2=>hc ⟨e,he,h2⟩;rcases mZ.1 h with rfl|h
   .rw[rM l _ i _ hne,wh hl]
   .exact absurd rfl (hne c h)
structure pQ (CB:List (List eX)) (al:List Bool) (A:List eX) (N:Int):Prop where
 nm:∃NB,zo (CB.map (·.map nn)) NB al (al.map fun _=>0) A.length N
 live:A.Perm (CB.flatten.filter (dx al))
 keys:(ids (A.map (·.1))).Nodup
 good:∀c∈CB.flatten,KM c.1
structure LvW (CB:List (List eX)) (al:List Bool) (eY:List Int):Prop where
 PQ:eY.length=al.length
 lvl:∀(i:Nat) (h:i<CB.length),∀c∈CB[i],eY[c.2.toNat]? =some (i:Int)
theorem zw (CB:List (List eX)):(CB.map (·.map nn)).flatten=CB.flatten.map nn:=by rw[List.map_flatten]
theorem Yq (al:List Bool) (l:List eX):(l.map nn).filter (dJ al)=(l.filter (dx al)).map nn:=by
 rw[Ah];rfl
theorem UB {α β:Type} (f:α->β) (CB:List (List α)) (i:Nat):eu (CB.map (·.map f)) i=(eu CB i).map f:=by
 simp[eu,List.map_flatten,I1,List.map_take]
theorem UC {α β:Type} (f:α->β) (CB:List (List α)) (i:Nat) (x:α):(kX CB i x).map (·.map f)=kX (CB.map (·.map f)) i (f x):=by
 simp[kX,UB,Am]
theorem Fe {α β:Type} (f:α->β):∀(k:Nat) (r:List α),(setC k r).map (·.map f)=setC k (r.map f)
 |0,_=>rfl
 |k+1,r=>by
  unfold setC;rw[cu];split
  .rw[dh,Fe f k,Am];simp[List.map_take]
  .rw[dh,Fe f k];rfl
section
variable {CB:List (List eX)} {al:List Bool} {eY:List Int} {A:List eX} {N:Int}
theorem pQ.num (h:pQ CB al A N) {c:eX} (hc:c∈CB.flatten):∃k:Nat,c.2=k/\k<al.length:=by
 obtain⟨NB,hn⟩:=h.nm;exact hn.sI (nn c) (by rw[zw];exact IJ hc)
theorem pQ.ahC (h:pQ CB al A N):(CB.flatten.map (·.2)).Nodup:=by
 obtain⟨NB,hn⟩:=h.nm;have:=hn.uG;rw[zw,xu]at this;exact this
theorem pQ.one (h:pQ CB al A N) {c d:eX} (hc:c∈CB.flatten) (hd:d∈CB.flatten) (e:c.2.toNat=d.2.toNat):c=d:=by
 obtain⟨k,hk,-⟩:=h.num hc;obtain⟨m,hm,-⟩:=h.num hd;have h3:CB.flatten.Pairwise fun p q=>p.2≠q.2:=dG.1 h.ahC;rcases gW h3 hc hd with h1|h1|h1
 .exact h1
 .exact absurd (by omega) h1
 .exact absurd (by omega) h1
theorem pQ.stored (h:pQ CB al A N):N=(CB.flatten.length:Nat):=by
 obtain⟨NB,hn⟩:=h.nm;have:=hn.stored;rw[zw,cu]at this;exact this
theorem pQ.levels (h:pQ CB al A N):CB.length<=13/\CB.flatten.length<=5000/\al.length<=5000/\(CB.length≠0->2^(CB.length-1)<=CB.flatten.length):=by
 obtain⟨NB,hn⟩:=h.nm;have h1:=hn.levels;have h2:=hn.small;rw[cu]at h1;rw[zw,cu]at h1 h2;exact⟨h1.1,h2,hn.bound,h1.2⟩
theorem pQ.size (h:pQ CB al A N) (i:Nat) (hi:i<CB.length):CB[i].length=0\/CB[i].length=2^i:=by
 obtain⟨NB,hn⟩:=h.nm;have:=hn.size i (by simpa using hi);simpa using this
theorem pQ.inl (h:pQ CB al A N) {i:Nat} (hi:i<CB.length) {c:eX} (hc:c∈CB[i]):c∈CB.flatten:=qR.2 ⟨_,bW hi,hc⟩
theorem pQ.few (h:pQ CB al A N) (i:Nat) (hi:i<CB.length):CB[i].length<=5000:=
 bO (Ip (bW hi)).length_le h.levels.2.1
theorem pQ.bk (h:pQ CB al A N) (i:Nat) (hi:i<CB.length):Mm (uI al CB[i])/\(ids (uI al CB[i])).Nodup/\∀c∈CB[i],∃k:Nat,c.2=k/\k<al.length:=by
 refine⟨fun p hp=>?_,?_,fun c hc=>h.num (h.inl hi hc)⟩
 .obtain⟨c,hc,rfl⟩:=dY.1 hp;exact(h.good c (h.inl hi (bQ.1 hc).1)).2.2
 .have h1:((CB.flatten.filter (dx al)).map (·.1)).Perm (A.map (·.1)):=(h.live.map _).symm;have h2:(ids ((CB.flatten.filter (dx al)).map (·.1))).Nodup:=((h1.map _).nodup_iff).2 h.keys;exact((((Ip (bW hi)).filter _).map _).map _).nodup h2
theorem pQ.apart (h:pQ CB al A N) {i j:Nat} (hi:i<CB.length) (hj:j<CB.length) (oV:i≠j) {c d:eX} (hc:c∈CB[i]) (hd:d∈CB[j]):c.2.toNat≠d.2.toNat:=fun e=>by
 have e2:=h.one (h.inl hi hc) (h.inl hj hd) e;subst e2;have h3:=iq.1 (List.pairwise_flatten.1 (dG.1 h.ahC)).2;rcases Nat.lt_or_gt_of_ne oV with h4|h4
 .exact h3 i j hi hj h4 c hc c hd rfl
 .exact h3 j i hj hi h4 c hd c hc rfl
theorem pQ.PR (h:pQ CB al A N):A.length<=CB.flatten.length/\(A.length:Int)=(al.count true:Nat):=by
 obtain⟨NB,hn⟩:=h.nm;exact⟨by rw[h.live.length_eq];exact gG _ _,hn.cnt⟩
theorem ahD:pQ [] [] [] 0:=⟨⟨[],ahA.tozo⟩,xe _,qU,by simp⟩
theorem ahE:LvW [] [] []:=⟨rfl,fun i h=>absurd h (ll _)⟩
theorem UD {al:List Bool} {c:eX} {b:Bool} {k:Nat} (hk:c.2=k) (hl:k<al.length):dx (al++[b]) c=dx al c:=by
 unfold dx;rw[hk,iF,mP hl]
theorem RJ (h:pQ CB al A N) (b:Bool) {l:List eX} (hl:∀c∈l,c∈CB.flatten):l.filter (dx (al++[b]))=l.filter (dx al):=pJ fun c hc=>by
 obtain⟨k,hk,gU⟩:=h.num (hl c hc);exact UD hk gU
theorem pQ.add (h:pQ CB al A N) (hm:N<=2*A.length) (x:Pt) (hx:KM x) (hno:x.2.2∉ids (A.map (·.1))) (hb:al.length<5000) (i:Nat) (hi:i<=CB.length) (hne:∀j (hj:j<CB.length),j<i->CB[j]≠[]) (Hg:∀h:i<CB.length,CB[i]=[]):
  pQ (kX CB i (x,(al.length:Int))) (al++[true]) (A++[(x,(al.length:Int))]) (N+1):=by
 obtain⟨NB,hn⟩:=h.nm;have hP:=vC CB i (x,(al.length:Int)) Hg;have qG:∀c∈(kX CB i (x,(al.length:Int))).flatten,c=(x,(al.length:Int))\/c∈CB.flatten:=fun c hc=>mZ.1 (hP.mem_iff.1 hc);refine⟨?_,?_,?_,?_⟩
 .have hw:=Yl (NB:=NB) (pl:=al.map fun _=>0) ⟨hn,hm⟩ (al.length:Int) 0 (fun e he=>?_) hb i (by simpa using hi) (fun j hj oK=>?_) (fun hj=>?_) ((eu (CB.map (·.map nn)) i++[((al.length:Int),(al.length:Int))]).mergeSort fun p q=>decide (p.1<=q.1)) (sP _ _) ?_
  .have e:((A++[(x,(al.length:Int))]).length:Int)=A.length+1:=by simp
   rw[UC,dh,e];exact⟨_,hw.tozo⟩
  .rw[zw]at he;obtain⟨c,hc,rfl⟩:=dY.1 he;obtain⟨k,hk,gU⟩:=h.num hc;show c.2≠_;omega
  .rw[fZ];intro h9;exact hne j (by simpa using hj) oK (List.map_eq_nil_iff.1 h9)
  .rw[fZ,Hg (by simpa using hj)];rfl
  .have:=BM (le:=fun p q:jI=>decide (p.1<=q.1)) (fun a b c h1 h2=>by simp at*;omega) (fun a b=>by simp;omega) (eu (CB.map (·.map nn)) i++[((al.length:Int),(al.length:Int))]);exact this.imp fun h=>by simpa using h
 .refine List.Perm.trans ?_ ((hP.filter _).symm);have ht:dx (al++[true]) (x,(al.length:Int))=true:=by simp[dx]
  rw[mV,aR ht,RJ h true fun c hc=>hc];exact List.perm_append_comm.trans (h.live.cons _)
 .have h1:=h.keys;unfold ids at*;rw[dh,dh];refine tC.2 ⟨h1,by simp,fun a ha b hb=>?_⟩;obtain rfl:b=x.2.2:=by simpa using hb
  exact fun e=>hno (e▸ha)
 .intro c hc;rcases qG c hc with rfl|hc
  .exact hx
  .exact h.good c hc
theorem LvW.add (hv:LvW CB al eY) (h:pQ CB al A N) (x:Pt) (i:Nat) (hi:i<=CB.length):LvW (kX CB i (x,(al.length:Int))) (al++[true]) (iJ (eY++[(i:Int)]) (eu CB i++[(x,(al.length:Int))]) i):=by
 refine⟨by rw[ow];simp[hv.PQ],?_⟩;intro j hj c hc;have hlen:(eY++[(i:Int)]).length=al.length+1:=by simp[hv.PQ]
 have hJ:∀d∈eu CB i,d∈CB.flatten:=fun d hd=>by
  have:=(jW CB i).mem_iff.1 hd;obtain⟨l,hl,zM⟩:=qR.1 this;exact qR.2 ⟨l,List.mem_of_mem_take hl,zM⟩
 rw[qF]at hc;by_cases h1:j<i
 .rw[aR h1]at hc;cases hc
 .rw[aP h1]at hc;by_cases h2:j=i
  .rw[aR h2]at hc;subst h2;refine Bi _ _ _ c hc ?_;rw[hlen];rcases df.1 hc with h3|h3
   .obtain⟨k,hk,gU⟩:=h.num (hJ c h3);omega
   .obtain rfl:c=(x,(al.length:Int)):=by simpa using h3
    simp
  .rw[aP h2,jy]at hc;have OH:j<CB.length:=by rw[qE _ _ _ hi]at hj;split at hj<;>omega
   rw[dD OH,fV]at hc;have Yr:=h.inl OH hc;obtain⟨k,hk,gU⟩:=h.num Yr;rw[rM _ _ _ _ fun d hd e=>?_,mP (by rw[hv.PQ];omega)]
   .exact hv.lvl j OH c hc
   .rcases df.1 hd with h3|h3
    .have e2:=h.one (hJ d h3) Yr e;subst e2;obtain⟨l,hl,zM⟩:=qR.1 ((jW CB i).mem_iff.1 h3);obtain⟨m,hm,rfl⟩:=jA hl;rw[eF]at hm;rw[zZ]at zM;have e3:=hv.lvl m (by omega) d zM;rw[hv.lvl j OH d hc]at e3;injection e3 with e3;omega
    .obtain rfl:d=(x,(al.length:Int)):=by simpa using h3
     simp only[iF]at e;omega
theorem pQ.dead (h:pQ CB al A N) (hm:N<=2*A.length) {c:eX} (hc:c∈A):pQ CB (al.set c.2.toNat false) (A.filter fun d=>decide (d.1≠c.1)) N/\(∀l,(∀d∈l,d∈CB.flatten)->uI (al.set c.2.toNat false) l=(uI al l).filter fun q=>decide (q≠c.1))/\(A.filter fun d=>decide (d.1≠c.1)).length+1=A.length:=by
 obtain⟨NB,hn⟩:=h.nm;have Yr:=bQ.1 (h.live.mem_iff.1 hc);obtain⟨k,hk,gU⟩:=h.num Yr.1;have xE:al[k]? =some true:=by
  have:=Yr.2;unfold dx at this;rw[hk,iF]at this;simpa using this
 rw[hk,iF];have ME:(A.map (·.1)).Nodup:=Fb h.keys;have hf:∀d∈CB.flatten,(dx (al.set k false) d=(dx al d&&decide (d.1≠c.1))):=fun d hd=>by
  obtain⟨m,hm,yg⟩:=h.num hd;by_cases e:d=c
  .subst e;have:m=k:=by omega
   subst this;unfold dx;rw[hk,iF,wh gU];simp
  .have hmk:k≠m:=fun e2=>e (h.one hd Yr.1 (by rw[hm,hk,e2]));have e3:dx (al.set k false) d=dx al d:=by
    unfold dx;rw[hm,iF,wD hmk]
   rw[e3];cases ha:dx al d with
   |false=>rfl
   |true=>
    have hdA:=h.live.mem_iff.2 (bQ.2 ⟨hd,ha⟩);have hne:d.1≠c.1:=fun e4=>by
     have h3:A.Pairwise fun p q=>p.1≠q.1:=dG.1 ME;rcases gW h3 hdA hc with h1|h1|h1
     .exact e h1
     .exact h1 e4
     .exact h1 e4.symm
    simp[hne]
 have hff:∀l:List eX,(∀d∈l,d∈CB.flatten)->l.filter (dx (al.set k false))=(l.filter (dx al)).filter fun d=>decide (d.1≠c.1):=fun l hl=>by
  rw[wQ];refine pJ fun d hd=>?_;rw[hf d (hl d hd)];exact Bool.and_comm _ _
 have hlen:(A.filter fun d=>decide (d.1≠c.1)).length+1=A.length:=by
  have:=List.length_eq_countP_add_countP (fun d:eX=>decide (d.1≠c.1)) (l:=A);rw[<-Oi,this];congr 1;have h4:A.countP (fun d=>decide ¬decide (d.1≠c.1)=true)=(A.map (·.1)).count c.1:=by
   rw[List.count,I7];refine DL fun d _=>?_;simp[Function.comp]
  rw[h4,ME.count,aR (IJ hc)]
 refine⟨⟨⟨NB,?_⟩,?_,?_,h.good⟩,fun l hl=>?_,hlen⟩
 .have:=RG (NB:=NB) ⟨hn,hm⟩ k xE;rw[show((A.filter fun d=>decide (d.1≠c.1)).length:Int)=A.length-1 by omega];have e:(al.set k false).map (fun _=>(0:Int))=al.map fun _=>0:=by
   rw[lJ];refine tO (by simp) fun i h1 h2=>?_;rw[List.getElem_set];split<;>simp
  rw[e];exact this
 .rw[hff _ fun d hd=>hd];exact h.live.filter _
 .unfold ids at*;exact((List.filter_sublist.map _).map _).nodup h.keys
 .unfold uI;rw[hff l hl,Ah];rfl
theorem pQ.anew (h:pQ CB al A N) {L:List eX} (hL:L=(CB.reverse.flatten).filter (dx al)):
  pQ (setC (Lib.bitLen L.length) L) al A L.length/\L.length=A.length:=by
 obtain⟨NB,hn⟩:=h.nm;have hp:L.Perm A:=by
  rw[hL];exact(((wV CB).flatten).filter _).trans h.live.symm
 have hl5:L.length<=5000:=by
  have h1:=h.PR.1;have h2:=h.levels.2.1;have:=hp.length_eq;omega
 have hlt:L.length<2^Lib.bitLen L.length:=by
  by_cases h0:L.length=0
  .rw[h0];decide
  .exact(bS _ (by omega) h0).2.2
 have hP:=lL _ L hlt;have e1:((CB.map (·.map nn)).reverse.flatten).filter (dJ al)=L.map nn:=by
  rw[hL,<-Yq,List.map_flatten,I1]
 have hs:∀c∈L,c∈CB.flatten/\dx al c=true:=fun c hc=>bQ.1 (h.live.mem_iff.1 (hp.mem_iff.1 hc));refine⟨⟨?_,?_,h.keys,fun c hc=>h.good c (hs c (hP.mem_iff.1 hc)).1⟩,hp.length_eq⟩
 .have:=RH (NB':=(setC (Lib.bitLen L.length) (L.map nn)).map fun l=>l.mergeSort fun p q=>decide (p.1<=q.1)) hn (by rw[e1,cu];exact⟨by simp,fun i h1 h2=>by rw[fZ];exact sP _ _⟩) (fun l hl=>by
   obtain⟨m,-,rfl⟩:=dY.1 hl;have:=BM (le:=fun p q:jI=>decide (p.1<=q.1)) (fun a b c h1 h2=>by simp at*;omega) (fun a b=>by simp;omega) m;exact this.imp fun h=>by simpa using h)
  have h3:=this.1.tozo;rw[e1,cu]at h3;rw[Fe];exact⟨_,h3⟩
 .refine hp.symm.trans (hP.symm.trans ?_);rw[qc.2 fun c hc=>(hs c (hP.mem_iff.1 hc)).2]
end
end Go.Proofs.YtkjdbndekceffaaGreat
namespace Go.Proofs
open Go.Shelf
def Tryz.PS:Go.Shelf.Ren:=⟨fun|45=>198|n=>n,fun|22=>35|23=>27|3=>3|4=>4|0=>0|n=>n,fun|n=>n⟩
theorem Tryz.PT:Go.Proofs.SlLaysE.n45 Tryz.prog Tryz.PS:={
 mixed:=by kernel_rfl
 f45:=⟨Tryz.f198.name,by decide,Tryz.func198.trans (congrArg some (by kernel_rfl))⟩
 t0:=Ae
 a0:=Tryz.isAgg0
 z0:=Aq
 v0:=Ag
 t3:=nQ
 a3:=qY
 z3:=qV
 v3:=pK
 t4:=qP
 a4:=xw
 z4:=xh
 v4:=wX
 t22:=Tryz.underlying35
 a22:=Tryz.isAgg35
 z22:=Tryz.sizeOf35
 v22:=Tryz.zeroValue35
 a23:=Ap
 z23:=Ak}
def Tryz.PU:Go.Shelf.Ren:=⟨fun|45=>197|n=>n,fun|22=>143|23=>2|3=>3|4=>4|0=>0|n=>n,fun|n=>n⟩
theorem Tryz.PV:Go.Proofs.SlLaysE.n45 Tryz.prog Tryz.PU:={
 mixed:=by kernel_rfl
 f45:=⟨Tryz.f197.name,by decide,Tryz.func197.trans (congrArg some (by kernel_rfl))⟩
 t0:=Ae
 a0:=Tryz.isAgg0
 z0:=Aq
 v0:=Ag
 t3:=nQ
 a3:=qY
 z3:=qV
 v3:=pK
 t4:=qP
 a4:=xw
 z4:=xh
 v4:=wX
 t22:=Tryz.underlying143
 a22:=Tryz.isAgg143
 z22:=Tryz.sizeOf143
 v22:=Tryz.zeroValue143
 a23:=Tryz.isAgg2
 z23:=Tryz.sizeOf2}
def Tryz.PW:Go.Shelf.Ren:=⟨fun|45=>199|n=>n,fun|22=>148|23=>3|3=>3|4=>4|0=>0|n=>n,fun|n=>n⟩
theorem Tryz.JN:Go.Proofs.SlLaysE.n45 Tryz.prog Tryz.PW:={
 mixed:=by kernel_rfl
 f45:=⟨Tryz.f199.name,by decide,Tryz.func199.trans (congrArg some (by kernel_rfl))⟩
 t0:=Ae
 a0:=Tryz.isAgg0
 z0:=Aq
 v0:=Ag
 t3:=nQ
 a3:=qY
 z3:=qV
 v3:=pK
 t4:=qP
 a4:=xw
 z4:=xh
 v4:=wX
 t22:=zT
 a22:=Tryz.isAgg148
 z22:=Tryz.sizeOf148
 v22:=Tryz.zeroValue148
 a23:=qY
 z23:=qV}
end Go.Proofs
