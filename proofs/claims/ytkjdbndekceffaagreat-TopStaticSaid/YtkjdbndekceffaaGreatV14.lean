/- A part of the proof; its text was made small by a program (no remarks, short names). -/
import Derived.Test.YtkjdbndekceffaaGreatV00
import Derived.Test.YtkjdbndekceffaaGreatV13
import Derived.Test.YtkjdbndekceffaaGreatV04
import Derived.Test.YtkjdbndekceffaaGreatV08
import Derived.Test.YtkjdbndekceffaaGreatV09
set_option linter.unusedSimpArgs false
set_option linter.unusedVariables false
set_option maxRecDepth 100000
set_option maxHeartbeats 16000000
namespace Go.Proofs.YtkjdbndekceffaaGreat
open Go.RowKit Go.Sort Go.Shelf Go.Lib Go.Maps
attribute [local irreducible] wpQuiet
attribute [local go_sem] Oper.fM
section
variable {w:World} {F:Nat->Prop} {tb n0:Nat} {l:List Pt} {lo m0 m1 m2 m3 m4 hi bx cn hp lw ob:Nat} {tl sv:Value} {dn:Bool}
theorem uP.top (h:uP w F tb n0 l lo m0 m1 m2 m3 m4 hi bx cn hp lw ob tl sv dn):hi<=w.heap.size:=by
 have h1:=h.ord;have h2:=h.tin;have h3:=h.fin.2.2 (hi-1) (h.fin.1 (hi-1) (by have:=h.row;omega) (by omega));omega
theorem aef (h:uP w F tb n0 l lo m0 m1 m2 m3 m4 hi bx cn hp lw ob tl sv dn) (x y d:Int) (iC:(x,y,d)∈l):
  aO 53 #[ay tb,ku x y d] w fun e w'=>e=.returned (.bool true)/\
   ∃ob' tl',uP w' (fun k=>F k\/w.heap.size<=k/\k<w'.heap.size) tb n0 (l.filter fun q=>decide (q≠(x,y,d))) lo m0 m1 m2 m3 m4 hi bx cn hp lw ob' tl' sv false/\aC F w w':=by
 have aEa:=h.top;have hlen:l.length<=20000:=bO h.box.Qi.1 h.box.Qi.2;have jk:∃g c,tl=aD g l.length c:=by
  rcases h.row.2 with⟨rfl,hz⟩|⟨g,cap,cur,rfl,_⟩
  .have h0:=h.row.1;have:l=[]:=jw hz;rw[this]at iC;cases iC
  .exact⟨g,cap,rfl⟩
 obtain⟨g,c,rfl⟩:=jk;have hg0:=h.rlt g rfl;have hg1:=(h.row.lt g rfl).1;obtain⟨ht1,ht2⟩:=h.tin;obtain⟨o1,o2,o3,o4,o5⟩:=h.ord;have xI:=Fb h.und.1;have H:=ae h;have Di:=ae iC;have a1:aC (fun _=>False) w (w.alloc (.cells #[ag x,ag y,aJ d] 29)):=(aC.refl _ w).alloc _;have P1:=dE w (.cells #[ag x,ag y,aJ d] 29);have s1:(w.alloc (.cells #[ag x,ag y,aJ d] 29)).heap.size=w.heap.size+1:=by simp
 have T1:=bL a1 h.blk (fun h=>h);have R1:=aY h.row a1 (fun _ _ h=>h);have D1:=ae (Yo (x,y,d) w.heap.size g c l.length lo l _ (by rw[fw _ _ _ _ rfl];rfl) (by rw[fw _ _ _ _ rfl];rfl) (by rw[fw _ _ _ _ rfl];rfl) R1 rfl (by omega) (by omega) xI);have b1:(w.alloc (.cells #[ag x,ag y,aJ d] 29)).cell? (ah tb 0)=some (aD g l.length c):=by simp[World.cell?,T1]
 have Wl:=ae T1;have NR:=ae P1;have A1:=ae a1;clear h iC T1 P1 R1 a1;go_enter Tryz.func53,Tryz.ntmps53
 go_wp2_with fail
 generalize w.alloc (.cells #[ag x,ag y,aJ d] 29)=w1 at*;refine D1.out.mono ?_;rintro e w2 ⟨n',rfl,VU,hown2,hK2⟩;have T2:=bL hK2 Wl.out (by omega);have hgt:(aD g n' c).ownBlock≠some tb:=fun e=>by
  have e3:g=tb:=by injection e
  omega
 have P2:=ae (bL hK2 NR.out (by omega));have hs2:=hK2.size;have f2:w2.frozen? (ah tb 0)=false:=by simp[World.frozen?,T2]
 have c2:w2.cell? (ah tb 0)=some (aD g l.length c):=by simp[World.cell?,T2]
 have T3:(w2.setCell (ah tb 0) (aD g n' c)).heap[tb]? =some (Obj.cells #[aD g n' c,ay bx,ay cn,ay hp,ay lw,ay ob,sv] 120 (0,0)):=by
  rw[dH w2 tb 0 _ _ _ T2];rfl
 have K3:aC (fun k=>k=g\/k=tb) w1 (w2.setCell (ah tb 0) (aD g n' c)):=(hK2.mono fun k h=>.inl h).set _ (.inl (.inr rfl));have s3:(w2.setCell (ah tb 0) (aD g n' c)).heap.size=w2.heap.size:=by simp
 have R3:(w2.setCell (ah tb 0) (aD g n' c)).ownsRow lo 29 3 (aD g n' c) n' ((l.filter fun q=>decide (q≠(x,y,d))).flatMap fH):=bB hown2 fun gb e=>aH fun e2=>hgt (by rw[e,<-e2]);have K4:=K3.alloc (.cells #[aJ 0,.int .i32 0,aJ 0] 199);have O4:=dE (w2.setCell (ah tb 0) (aD g n' c)) (.cells #[aJ 0,.int .i32 0,aJ 0] 199);have a4:aC (fun _=>False) (w2.setCell (ah tb 0) (aD g n' c)) ((w2.setCell (ah tb 0) (aD g n' c)).alloc (.cells #[aJ 0,.int .i32 0,aJ 0] 199)):=(aC.refl _ _).alloc _;have T4:=bL a4 T3 (fun h=>h);have R4:=ae (aY R3 a4 (fun _ _ h=>h));have s4:((w2.setCell (ah tb 0) (aD g n' c)).alloc (.cells #[aJ 0,.int .i32 0,aJ 0] 199)).heap.size=w2.heap.size+1:=by simp
 have c4:((w2.setCell (ah tb 0) (aD g n' c)).alloc (.cells #[aJ 0,.int .i32 0,aJ 0] 199)).cell? (ah tb 5)=some (ay ob):=by simp[World.cell?,T4]
 have f4:((w2.setCell (ah tb 0) (aD g n' c)).alloc (.cells #[aJ 0,.int .i32 0,aJ 0] 199)).frozen? (ah tb 5)=false:=by simp[World.frozen?,T4]
 rw[s3]at O4;have xG:=ae K4;have F8:=ae T4;have N8:=ae O4;have HN:=ae VU;clear D1 b1 hown2 hK2 T2 T3 K3 R3 K4 a4 T4 O4 VU
 go_wp2_with fail
 generalize((w2.setCell (ah tb 0) (aD g n' c)).alloc (.cells #[aJ 0,.int .i32 0,aJ 0] 199))=w4 at*;have T5:Hid ((w4.setCell (ah tb 5) (ay w2.heap.size)).heap[tb]? =some (Obj.cells #[aD g n' c,ay bx,ay cn,ay hp,ay lw,ay w2.heap.size,sv] 120 (0,0))):=by
  show _=_;rw[dH w4 tb 5 _ _ _ F8.out];rfl
 have K5:Hid (aC (fun k=>k=g\/k=tb) w (w4.setCell (ah tb 5) (ay w2.heap.size))):=((A1.out.mono fun _ h=>h.elim).trans xG.out).set _ (.inl (.inr rfl));have R5:Hid ((w4.setCell (ah tb 5) (ay w2.heap.size)).ownsRow lo 29 3 (aD g n' c) n' ((l.filter fun q=>decide (q≠(x,y,d))).flatMap fH)):=bB R4.out fun gb e=>aH fun e2=>hgt (by rw[e,<-e2]);have P5:Hid ((w4.setCell (ah tb 5) (ay w2.heap.size)).heap[w.heap.size]? =some (Obj.cells #[ag x,ag y,aJ d] 29 (0,0))):=(aH (by simp only;omega)).trans (bL xG.out NR.out (by omega));have O5:Hid ((w4.setCell (ah tb 5) (ay w2.heap.size)).heap[w2.heap.size]? =some (Obj.cells #[aJ 0,.int .i32 0,aJ 0] 199 (0,0))):=(aH (by simp only;omega)).trans N8.out;have s5:(w4.setCell (ah tb 5) (ay w2.heap.size)).heap.size=w2.heap.size+1:=by simp[s4]
 clear f2 c2 s3 R4 s4 c4 f4 xG F8 N8 A1 Wl NR P2;generalize w4.setCell (ah tb 5) (ay w2.heap.size)=w5 at*;have C5:=ae (H.out.cor.kept ((K5.out.drew)) (fun k h1 h2 h3=>by omega));have g5:=aj (w:=w5) (ad:=(ah tb 2)) (v:=ay cn) (by simp[World.cell?,T5.out]);have x5:=aj (w:=w5) (ad:=(ah w.heap.size 0)) (v:=.int .i64 x) (by simp[World.cell?,P5.out]);have y5:=aj (w:=w5) (ad:=(ah w.heap.size 1)) (v:=.int .i64 y) (by simp[World.cell?,P5.out]);have d5:=aj (w:=w5) (ad:=(ah w.heap.size 2)) (v:=.int .u32 d) (by simp[World.cell?,P5.out]);refine aF (fun W=>∃p:bg w5,W=p.W) [5] [(0,false),(1,false),(2,false),(3,true),(4,true)] (by kernel_rfl) (by kernel_rfl) (fun _ _ d _ _ h=>by cases d<;>exact h) ⟨⟨_,(aM _ _).drew⟩,rfl⟩ 1 rfl (by kernel_rfl) ?_;simp only[bG,bz,bA,bu,aS,aT,aU]
 repeat(refine aI (fun K hK=>?_);go_simp;first|(refine hK _ ?_;clear hK K)|(apply Exists.intro;refine⟨fun _=>?_,hK _ ?_⟩;rfl;clear hK K))
 refine aQ ?_;refine aK [5] _ _ _ (by kernel_rfl) ?_;simp only[pick,bz,bA,bu,aS,aT];clear g5 x5 y5 d5
 go_wp2_with fail
 refine(aee C5.out (x,y,d) Di.out).mono ?_;rintro e w6 ⟨rfl,hA,hK⟩;have A6:=ae hA;have E6:Hid (aC (fun k=>m2<=k/\k<m3) w5 w6):=((aC.refl _ w5).drew).trans hK;have T6:=ae (bL E6.out T5.out (by omega));have P6:=ae (bL E6.out P5.out (by omega));have O6:=ae (bL E6.out O5.out (by omega));have R6:=ae (aY R5.out E6.out (fun gb e=>by have e3:g=gb:=(by injection e);omega));have K6:Hid (aC (fun k=>(k=g\/k=tb)\/(m2<=k/\k<m3)) w w6):=(K5.out.mono fun k h=>by omega).trans (E6.out.mono fun k h=>by omega);have s6:=hK.size;clear hA hK C5
 go_wp2_with fail
 have C6:=ae (H.out.hep.kept ((K6.out.drew)) (fun k h1 h2 h3=>by omega));have g6:=aj (w:=w6) (ad:=(ah tb 3)) (v:=ay hp) (by simp[World.cell?,T6.out]);have x6:=aj (w:=w6) (ad:=(ah w.heap.size 0)) (v:=.int .i64 x) (by simp[World.cell?,P6.out]);have y6:=aj (w:=w6) (ad:=(ah w.heap.size 1)) (v:=.int .i64 y) (by simp[World.cell?,P6.out]);have d6:=aj (w:=w6) (ad:=(ah w.heap.size 2)) (v:=.int .u32 d) (by simp[World.cell?,P6.out]);refine aF (fun W=>∃p:bg w6,W=p.W) [5] [(0,false),(1,false),(2,false),(3,true),(4,true)] (by kernel_rfl) (by kernel_rfl) (fun _ _ d _ _ h=>by cases d<;>exact h) ⟨⟨_,(aM _ _).drew⟩,rfl⟩ 1 rfl (by kernel_rfl) ?_;simp only[bG,bz,bA,bu,aS,aT,aU]
 repeat(refine aI (fun K hK=>?_);go_simp;first|(refine hK _ ?_;clear hK K)|(apply Exists.intro;refine⟨fun _=>?_,hK _ ?_⟩;rfl;clear hK K))
 refine aQ ?_;refine aK [5] _ _ _ (by kernel_rfl) ?_;simp only[pick,bz,bA,bu,aS,aT];clear g6 x6 y6 d6
 go_wp2_with fail
 refine(aiG C6.out (x,y,d) Di.out).mono ?_;rintro e w7 ⟨rfl,hA,hK⟩;have A7:=ae hA;have E7:Hid (aC (fun k=>m3<=k/\k<m4) w6 w7):=((aC.refl _ w6).drew).trans hK;have T7:=ae (bL E7.out T6.out (by omega));have P7:=ae (bL E7.out P6.out (by omega));have O7:=ae (bL E7.out O6.out (by omega));have R7:=ae (aY R6.out E7.out (fun gb e=>by have e3:g=gb:=(by injection e);omega));have K7:Hid (aC (fun k=>(k=g\/k=tb)\/(m2<=k/\k<m4)) w w7):=(K6.out.mono fun k h=>by omega).trans (E7.out.mono fun k h=>by omega);have s7:=hK.size;clear hA hK C6
 go_wp2_with fail
 have C7:=ae (H.out.low.kept ((K7.out.drew)) (fun k h1 h2 h3=>by omega));have g7:=aj (w:=w7) (ad:=(ah tb 4)) (v:=ay lw) (by simp[World.cell?,T7.out]);have x7:=aj (w:=w7) (ad:=(ah w.heap.size 0)) (v:=.int .i64 x) (by simp[World.cell?,P7.out]);have y7:=aj (w:=w7) (ad:=(ah w.heap.size 1)) (v:=.int .i64 y) (by simp[World.cell?,P7.out]);have d7:=aj (w:=w7) (ad:=(ah w.heap.size 2)) (v:=.int .u32 d) (by simp[World.cell?,P7.out]);refine aF (fun W=>∃p:bg w7,W=p.W) [5] [(0,false),(1,false),(2,false),(3,true),(4,true)] (by kernel_rfl) (by kernel_rfl) (fun _ _ d _ _ h=>by cases d<;>exact h) ⟨⟨_,(aM _ _).drew⟩,rfl⟩ 1 rfl (by kernel_rfl) ?_;simp only[bG,bz,bA,bu,aS,aT,aU]
 repeat(refine aI (fun K hK=>?_);go_simp;first|(refine hK _ ?_;clear hK K)|(apply Exists.intro;refine⟨fun _=>?_,hK _ ?_⟩;rfl;clear hK K))
 refine aQ ?_;refine aK [5] _ _ _ (by kernel_rfl) ?_;simp only[pick,bz,bA,bu,aS,aT];clear g7 x7 y7 d7
 go_wp2_with fail
 refine(aiH C7.out (x,y,d) Di.out).mono ?_;rintro e w8 ⟨rfl,hA,hK⟩;have A8:=ae hA;have E8:Hid (aC (fun k=>m4<=k/\k<hi) w7 w8):=((aC.refl _ w7).drew).trans hK;have T8:=ae (bL E8.out T7.out (by omega));have P8:=ae (bL E8.out P7.out (by omega));have O8:=ae (bL E8.out O7.out (by omega));have R8:=ae (aY R7.out E8.out (fun gb e=>by have e3:g=gb:=(by injection e);omega));have K8:Hid (aC (fun k=>(k=g\/k=tb)\/(m2<=k/\k<hi)) w w8):=(K7.out.mono fun k h=>by omega).trans (E8.out.mono fun k h=>by omega);have s8:=hK.size;clear hA hK C7
 go_wp2_with fail
 have C8:=ae (H.out.box.kept ((K8.out.drew)) (fun k h1 h2 h3=>by omega));have g8:=aj (w:=w8) (ad:=(ah tb 1)) (v:=ay bx) (by simp[World.cell?,T8.out]);have x8:=aj (w:=w8) (ad:=(ah w.heap.size 0)) (v:=.int .i64 x) (by simp[World.cell?,P8.out]);have y8:=aj (w:=w8) (ad:=(ah w.heap.size 1)) (v:=.int .i64 y) (by simp[World.cell?,P8.out]);have d8:=aj (w:=w8) (ad:=(ah w.heap.size 2)) (v:=.int .u32 d) (by simp[World.cell?,P8.out]);refine aF (fun W=>∃p:bg w8,W=p.W) [5,6] [(0,false),(1,false),(2,false),(3,true),(4,true)] (by kernel_rfl) (by kernel_rfl) (fun _ _ d _ _ h=>by cases d<;>exact h) ⟨⟨_,(aM _ _).drew⟩,rfl⟩ 2 rfl (by kernel_rfl) ?_;simp only[bG,bz,bA,bu,aS,aT,aU]
 repeat(refine aI (fun K hK=>?_);go_simp;first|(refine hK _ ?_;clear hK K)|(apply Exists.intro;refine⟨fun _=>?_,hK _ ?_⟩;rfl;clear hK K))
 refine aQ ?_;refine aK [5,6] _ _ _ (by kernel_rfl) ?_;simp only[pick,bz,bA,bu,aS,aT];clear g8 x8 y8 d8
 go_wp2_with fail
 refine(ZO C8.out (x,y,d) Di.out).mono ?_;rintro e w9 ⟨rfl,hA,hK⟩;have A9:=ae hA;have E9:Hid (aC (fun k=>m1<=k/\k<m2) w8 w9):=((aC.refl _ w8).drew).trans hK;have T9:=ae (bL E9.out T8.out (by omega));have P9:=ae (bL E9.out P8.out (by omega));have O9:=ae (bL E9.out O8.out (by omega));have R9:=ae (aY R8.out E9.out (fun gb e=>by have e3:g=gb:=(by injection e);omega));have K9:Hid (aC (fun k=>(k=g\/k=tb)\/(m2<=k/\k<hi)\/(m1<=k/\k<m2)) w w9):=(K8.out.mono fun k h=>by omega).trans (E9.out.mono fun k h=>by omega);have s9:=hK.size;clear hA hK C8;go_wp2;go_ret;have k9:aC (fun k=>(m3<=k/\k<m4)\/(m4<=k/\k<hi)\/(m1<=k/\k<m2)) w6 w9:=(E7.out.mono fun k h=>.inl h).trans ((E8.out.mono fun k h=>.inr (.inl h)).trans (E9.out.mono fun k h=>.inr (.inr h)));have k8:aC (fun k=>(m4<=k/\k<hi)\/(m1<=k/\k<m2)) w7 w9:=(E8.out.mono fun k h=>.inl h).trans (E9.out.mono fun k h=>.inr h);have Zw:=K9.out.size;have hn:=HN.out;subst hn;refine⟨rfl,w2.heap.size,_,⟨T9.out,R9.out,fun k e=>?_,⟨ht1,ht2⟩,A9.out,A6.out.kept k9 (fun k _ _ h=>by omega),A7.out.kept k8 (fun k _ _ h=>by omega),A8.out.kept E9.out (fun k _ _ h=>by omega),H.out.ord,?_,?_,(fun h=>by cases h),⟨fun k h1 h2=>.inl (H.out.fin.1 k h1 h2),.inr ?_,?_⟩,Yp H.out.und.1 _,fun q hq=>H.out.und.2 q (bQ.1 hq).1⟩,K9.out.mono fun k hk=>H.out.fin.1 k (by omega) (by omega)⟩
 .have e3:g=k:=by injection e
  omega
 .have o9:=O9.out;exact⟨by simp[World.cell?,o9],by simp[World.cell?,o9],by simp[World.frozen?,o9],by simp[World.frozen?,o9]⟩
 .exact⟨by omega,.inr (by omega)⟩
 .have:=(bn.1 O9.out).1;omega
 .rintro k (hk|hk)
  .exact bJ (H.out.fin.2.2 k hk) Zw
  .exact hk.2
end
end Go.Proofs.YtkjdbndekceffaaGreat
namespace Go.Proofs.YtkjdbndekceffaaGreat
open Go.RowKit Go.Maps
attribute [local irreducible] wpQuiet
def aiI (W:World) (base Cb:Nat) (wk:Int) (l:List eX) (e:Ending) (w':World):Prop:=
 ∃(kW:Value) (iP:List De) (uk:Int),e=.returned (ag l.length)/\nZ w' base Cb kW iP l.length uk/\si w' iP/\iP.map (·.2.1)=setC (Lib.bitLen l.length) l/\
  (kW.ownBlock=none\/∃b,kW.ownBlock=some b/\W.heap.size<=b)/\aC (fun k=>k=Cb) W w'/\Nw W.heap.size [] iP/\uk=wrap64 (wk+(l.length:Int))
theorem aiJ {W:World} {base Cb:Nat} {cv:Value} {ch:List De} {N wk:Int} (h:nZ W base Cb cv ch N wk) (qJ:base<=W.heap.size) (a:Option Addr) (l:List eX) (c:Nat) (hl:TN W a l) (hc:l.length<=c) (hL:l.length<=10000):
  aO 212 #[ay Cb,.slice a l.length c] W (aiI W base Cb wk l):=by
 have CN:=ae (yI h);have H:=ae h;have hK:=fE hL (by decide);have hK2:Lib.bitLen 10000=14:=by decide
 rw[hK2]at hK;have KE:=ae hl;have Yj:l.length<2^Lib.bitLen l.length:=by
  by_cases h0:l.length=0
  .rw[h0];decide
  .exact(bS _ (by omega) h0).2.2
 have Jy:=ae Yj;clear Yj;clear h hl;go_enter Tryz.func212,Tryz.ntmps212
 go_wp2_with fail
 refine CN.out.mono ?_;rintro e w2 ⟨rfl,hb2⟩;have C2:=ae (H.out.below hb2);obtain⟨c0,c1,c2,c3⟩:=C2.out.cell;have f1:=C2.out.frozen 1;have S1:Hid (nZ (w2.setCell (ah Cb 1) (aN)) base Cb (aN) [] N wk):=iH.TL (ch:=ch) C2.out.blk C2.out.hb C2.out.ds (dL _ _ _ _) (by simp[Value.ownBlock]);obtain⟨d0,d1,d2,d3⟩:=S1.out.cell;have f2:=S1.out.frozen 2;have S2:Hid (nZ ((w2.setCell (ah Cb 1) (aN)).setCell (ah Cb 2) (.int .i64 l.length)) base Cb (aN) [] l.length wk):=S1.out.Er _;have K2:Hid (aC (fun k=>k=Cb) W ((w2.setCell (ah Cb 1) (aN)).setCell (ah Cb 2) (.int .i64 l.length))):=(((aC.refl (fun k=>k=Cb) W).below hb2).set (a:=(ah Cb 1)) _ (.inl rfl)).set (a:=(ah Cb 2)) _ (.inl rfl);have agz:=H.out.lt;clear CN
 go_upto_block 0 with fail
 go_cut []from 19 to 33 (fun wx=>∃v,Hid (nZ wx base Cb v (List.replicate (Lib.bitLen l.length) fO) l.length wk)/\Hid (v.ownBlock=none\/∃b,v.ownBlock=some b/\W.heap.size<=b)/\Hid (aC (fun k=>k=Cb) W wx))
 case first=>
  go_wp2_with fail
  generalize((w2.setCell (ah Cb 1) (aN)).setCell (ah Cb 2) (.int .i64 l.length))=w3 at*
  go_loopw [5] (fun nv wr=>∃(k m:Nat) (v:Value),nv=.int .i64 m/\m<=10000/\Hid (k+Lib.bitLen m=Lib.bitLen l.length)/\Hid (nZ wr base Cb v (List.replicate k fO) l.length wk)/\Hid (v.ownBlock=none\/∃b,v.ownBlock=some b/\W.heap.size<=b)/\Hid (aC (fun k=>k=Cb) W wr)) (fun nv _=>(intOf nv).toNat)
  case atStart=>exact⟨0,l.length,_,rfl,hL,(by show _=_;omega),S2,.inl rfl,K2⟩
  case round=>
   obtain⟨k,m,v,rfl,hm,HKM,HC,HV,HK⟩:=hrel;by_cases Dk:m=0
   .subst Dk;obtain rfl:k=Lib.bitLen l.length:=HKM.out
    go_wp2_with fail
    go_meet;exact⟨v,HC,HV,HK⟩
   .have HH:Hid (k+1+Lib.bitLen (m/2)=Lib.bitLen l.length):=by
     have:=Lib.bitLen_half m Dk (by omega);have:=HKM.out;show _=_;omega
    have JK:k+1<=14:=by have:=HH.out;omega
    have hrow:=HC.out.row;rw[iN]at hrow;have hne:=HC.out.ne;have hmp:(0:Int)<(m:Int):=by omega
    obtain⟨b0,b1,b2,b3⟩:=HC.out.cell;have HNB:Hid (∀w6,wr.grownBy w6 v.ownBlock->w6.heap[Cb]? =some (Obj.cells #[.bool true,v,ag l.length,ag wk] 278 (0,0))):=fun w6 hg=>(hg.block Cb HC.out.lt (fun e=>HC.out.ne e.symm)).trans HC.out.blk
    go_wp2_with (at_builtin;refine cz aeQ base hrow [aN] rfl (by simp[Value.oneCell']) rfl _ _ rfl rfl _ rfl (by unfold maxLen;omega) (by omega) (by have:=HK.out.size;omega) ?_;intro v' w6 hown' hg hblk;obtain⟨g6,jM,rfl,aci,acj,ack,acm⟩:=bf hown' (by omega);have k6:=HNB.out w6 hg;have q1:w6.cell? (ah Cb 1)=some v:=(by simp[World.cell?,k6]);have q2:w6.frozen? (ah Cb 1)=false:=(by simp[World.frozen?,k6]))
    have atd:=HC.out.lt;have hown2:w6.ownsRow base 213 1 (aD g6 (k+1) jM) (List.replicate (k+1) (fO:De)).length ((List.replicate (k+1) (fO:De)).map dS):=by
     rw[iN,G8,dh];exact hown'
    have hv':Value.ownBlock (aD g6 (k+1) jM)≠some Cb:=by
     rcases hblk with h9|h9
     .rw[h9];exact hne
     .rw[h9];simp;omega
    go_roundw
    case rel=>
     refine⟨k+1,m/2,_,by go_num,by omega,HH,iH.TL (ch:=List.replicate k fO) k6 HC.out.hb HC.out.ds hown2 hv',?_,(HK.out.grown hg ?_).set (a:=(ah Cb 1)) _ (.inl rfl)⟩
     .rcases hblk with h9|h9
      .rw[h9];exact HV
      .exact .inr ⟨_,h9,by have:=HK.out.size;simp;omega⟩
     .intro b hb;rcases HV.out with h9|⟨b',h9,h8⟩
      .rw[h9]at hb;cases hb
      .rw[h9]at hb;injection hb with hb;subst hb;exact .inr h8
    case measure=>simp[intOf];omega
 case rest=>
  obtain⟨v,HC,HV,HK⟩:=hcut;obtain⟨w3,jQ⟩:∃w3:World,w3=wc:=⟨_,rfl⟩;subst jQ;clear S1 S2 K2 c0 c1 c2 c3 f1 f2 d0 d1 d2 d3 C2 hb2;generalize hKK:Lib.bitLen l.length=K at*;obtain⟨SB,Jq⟩:∃SB,SB=v.ownBlock:=⟨_,rfl⟩;have Df:Hid (∀W',aC (fun k=>k=Cb\/SB=some k) w3 W'->dU l8 4 W' a l):=fun W' hk=>((KE.out.kept (H.out.fq rfl (HK.out.mono (fun k h=>.inl h)))).kept (HC.out.fq Jq hk)).VX;have yh:=ae Jq;clear Jq;have Jv:=HC.out;have HR0:Hid (si w3 (List.replicate K fO)):=G9 _ _;have HM0:Hid ((List.replicate K (fO:De)).map (·.2.1)=List.replicate K []++[]):=by show _=_;simp
  have HLK:Hid (l.length=l.length%2^K):=(I4 Jy.out).symm;obtain⟨av,cp,hv,-,VZ,-⟩:=Rd.aL (enc:=dS) Jv.row;rw[iN]at hv VZ;subst hv;obtain⟨e0,e1,e2,e3⟩:=Jv.cell;clear Jv
  go_upto_block 2 with fail
  go_cut []from 35 to 64 (fun wx=>∃ch1,Hid (nZ wx base Cb (.slice av K cp) ch1 l.length wk)/\Hid (Nw W.heap.size [] ch1)/\Hid (si wx ch1)/\Hid (ch1.map (·.2.1)=setC K l)/\Hid (aC (fun k=>k=Cb\/SB=some k) w3 wx))
  case first=>
   go_wp2_with fail
   go_loopw [7,6] (fun iv rv wr=>∃(m:Nat) (ad:Option Addr) (r:List eX) (c':Nat) (ch1:List De) (T:List (List eX)),iv=.int .i64 ((m:Int)-1)/\rv=.slice ad r.length c'/\m<=K/\r.length<=c'/\Hid (r.length=l.length%2^m)/\Hid (∀W',aC (fun k=>k=Cb\/SB=some k) w3 W'->dU l8 4 W' ad r)/\
    Hid (nZ wr base Cb (.slice av K cp) ch1 l.length wk)/\Hid (Nw W.heap.size [] ch1)/\Hid (si wr ch1)/\Hid (ch1.map (·.2.1)=List.replicate m []++T)/\Hid (setC K l=setC m r++T)/\Hid (aC (fun k=>k=Cb\/SB=some k) w3 wr)) (fun iv _ _=>(intOf iv+1).toNat)
   case atStart=>exact⟨K,a,l,c,_,[],by go_num,rfl,aG _,hc,HLK,Df,HC,Nw.agx,HR0,HM0,(by show _=_;simp),aC.refl _ _⟩
   case round=>
    obtain⟨m,ad,r,c',ch1,T,rfl,rfl,hm,rH,Bf,Co,nu,Ez,EB,EZ,NT,nL⟩:=hrel;rcases pI m with Dk|Dk
    .subst Dk;have hg0:¬(0:Int)<=((0:Nat):Int)-1:=by omega
     go_wp2_with fail
     go_meet;exact⟨ch1,nu,Ez,EB,(by have h1:=EZ.out;have h2:=NT.out;show _=_;rw[h1,h2];rfl),nL⟩
    .obtain⟨k,rfl⟩:∃k,m=k+1:=⟨m-1,by omega⟩;have JK:k<14:=by omega
     have Wh:=Mw l.length k;have Mg:r.length<=l.length:=by rw[Bf.out];exact Nat.mod_le _ _
     have QS:=Yi k JK;have QA:=ae3 l.length k JK hL;have hp:=rG k JK;have KD:(((k+1:Nat):Int)-1)=(k:Int):=by omega
     have BP:(0:Int)<=(k:Int):=by omega
     have qL:ch1.length=K:=by
      have h1:=congrArg List.length EZ.out;have h2:=congrArg List.length NT.out;rw[eD,bF,eD]at h2;simp at h1;omega
     rw[KD];by_cases hb:l.length.testBit k=true
     .rw[hb]at QA;simp only[gV]at QA;have xN:=Wh.1 hb;rw[<-Bf.out]at xN;have hpr:2^k<=r.length:=by omega
      have KO:Hid (setC K l=setC k (r.drop (2^k))++r.take (2^k)::T):=by
       have h1:=NT.out;rw[setC,aR hpr,ek]at h1;exact h1
      have vT:Hid (∀hd:De,hd.2.1=r.take (2^k)->(ch1.set k hd).map (·.2.1)=List.replicate k []++r.take (2^k)::T):=fun hd h9=>by
       rw[lJ,EZ.out,h9,LD]
      have PM:Hid ((r.drop (2^k)).length=l.length%2^k):=by
       show _=_;rw[qg];omega
      clear Wh hb xN;generalize Yk:2^k=p at*;have PN:=ae Yk;clear Yk;obtain⟨b,off,ea,hbl,-⟩:=(Co.out wr nL.out).get (by omega);subst ea;obtain⟨g,cp',e9,hg1,hg2,-,-⟩:=bf nu.out.row (by omega);rw[qL]at e9;injection e9 with e9 _ WS;subst e9 WS;obtain⟨b0,b1,b2,b3⟩:=nu.out.cell;have jk:(r.take p).length=p:=by rw[eF];omega
      have CL:=ae (Et (some (ah b off)) (r.take p) p c' wr.drew jk ((Co.out wr.drew nL.out.drew).take p) (by omega));have hpi:(0:Int)<=(p:Int)/\(p:Int)<=(r.length:Int):=by omega
      have NS:(p:Int)<=(c':Int):=by omega
      have hpn:((p:Int)!=0)=true:=by simp only[bne_iff_ne,ne_eq];omega
      go_upto_region 14 with fail
      simp only[QS,QA,hpn]
      go_cut []from 52 to 61 (fun wx=>∃Bg,Hid (nZ wx base Cb (aD g K cp) Bg l.length wk)/\Hid (Nw W.heap.size [] Bg)/\Hid (si wx Bg)/\Hid (Bg.map (·.2.1)=List.replicate k []++r.take p::T)/\Hid (aC (fun k=>k=Cb\/SB=some k) w3 wx))
      case first=>
       have CL2:aO 208 #[.slice (some (ah b off)) p c'] wr.drew fun e w6=>∃a6 jM z,e=.returned (.slice a6 p jM)/\Hid (p<=jM)/\Hid (∀a,a6=some a->W.heap.size<=a.block)/\Hid (TN w6 a6 (r.take p))/\Hid (nZ w6 base Cb (aD g K cp) ch1 l.length wk)/\Hid (Below wr.drew.heap.size wr.drew w6)/\w6.cell? (ah Cb 1)=some (aD g K cp)/\w6.cell? (ah g k)=some z/\w6.frozen? (ah g k)=false:=by
        refine CL.out.mono ?_;rintro e w6 ⟨v6,rfl,hown,jR⟩;obtain⟨a6,jM,rfl,h61,h62,hRE⟩:=TN.aL hown;have C6:=nu.out.drew.below jR;obtain⟨g0,g1,g2,g3⟩:=C6.cell;have hrow:=C6.row;rw[qL]at hrow;have z6:=hrow.cellAt k (by omega);have WU:=hrow.frozenAt k;rw[dD (show k<(ch1.map dS).length by simp;omega)]at z6;rw[jk]at h62;exact⟨a6,jM,_,by rw[jk],h62,(fun a ha=>by have h1:=(hown.lt a.block (by rw[ha];rfl)).1;have h2:=nL.out.size;have h3:=HK.out.size;simp at h1;omega),hRE,C6,jR,g1,z6,WU⟩
       clear CL;have ath:(k:Int)<(K:Int):=by omega
       go_region_with (go_at_call 208;with_reducible refine CL2.mono ?_;rintro e w6 ⟨a6,jM,z,rfl,HCP,WV,WZ,LM,EC,g1,z6,WU⟩)
       all_goals go_wp2_with fail
       all_goals go_meet
       all_goals
        have O0:Value.slice a6 p jM=dS (a6,r.take p,jM):=by unfold dS;simp only;rw[jk]
        rw[O0];have ahz:SB=some g:=yh.out;exact⟨ch1.set k (a6,r.take p,jM),LM.out.TK qL.symm k _,Ez.out.set WV.out,LF (EB.out.kept (W':=w6) fun b cur fr hb=>bI (W:=wr.drew) EC.out hb) (LM.out.fq (W':=w6.setCell (ah g k) (dS (a6,r.take p,jM))) rfl ((aC.refl _ w6).set (a:=(ah g k)) _ (.inl (.inr rfl)))) WZ.out (by show(r.take p).length<=jM;rw[jk];exact HCP.out),vT.out _ rfl,(((nL.out.drew).below EC.out).set (a:=(ah g k)) _ (.inl (.inr ahz)))⟩
      case rest=>
       obtain⟨Bg,EG,Uy,kV,Hf,vR⟩:=hcut;clear CL nu EB EZ vT nL b0 b1 b2 b3 hbl hpn Bf
       go_wp2_with (refine xM LH (Co.out _ vR.out) rH p r.length hpr (aG _) rfl _ _ _ rfl rfl rfl rfl ?_;intro Ep hr;simp only[mW]at hr)
       go_roundw
       case rel=>exact⟨k,Ep,r.drop p,c'-p,Bg,r.take p::T,rfl,(by rw[qg]),by omega,(by rw[qg];omega),(by rw[PN.out];exact PM),(fun W' hk=>hr W' (Co.out W' hk)),EG,Uy,kV,Hf,KO,vR⟩
       case measure=>simp[intOf]
     .have hb2:l.length.testBit k=false:=by simpa using hb
      rw[hb2]at QA;simp only[jU,rY]at QA;have xN:=Wh.2 hb2;rw[<-Bf.out]at xN;have hpr:¬2^k<=r.length:=by have:=tY l.length (xx (n:=k) (show 0<2 by decide));omega
      have KO:Hid (setC K l=setC k r++[]::T):=by
       have h1:=NT.out;rw[setC,aP hpr,ek]at h1;exact h1
      have vT:Hid (ch1.map (·.2.1)=List.replicate k []++[]::T):=by
       have h1:=EZ.out;rw[sW,ek]at h1;exact h1
      have PM:=ae xN;clear Wh hb hb2 xN;generalize Yk:2^k=p at*;have PN:=ae Yk;clear Yk
      go_wp2_with fail
      go_roundw
      case rel=>exact⟨k,ad,r,c',ch1,[]::T,rfl,rfl,by omega,rH,by rw[PN.out];exact PM,Co,nu,Ez,EB,vT,KO,nL⟩
      case measure=>simp[intOf]
  case rest=>
   obtain⟨ch1,nu,Ez,EB,EZ,nL⟩:=hcut;obtain⟨b0,b1,b2,b3⟩:=nu.out.cell;have fr3:=nu.out.frozen 3;have F7:=ae (nu.out.ach (wrap64 (wk+(l.length:Int))));have yz:Hid (si (wc.setCell (ah Cb 3) (.int .i64 (wrap64 (wk+(l.length:Int))))) ch1):=EB.out.kept (nu.out.fq rfl ((aC.refl _ wc).set (a:=(ah Cb 3)) _ (.inl (.inl rfl))));have Gh:Hid (aC (fun k=>k=Cb) W (wc.setCell (ah Cb 3) (.int .i64 (wrap64 (wk+(l.length:Int)))))):=by
    have hs:=HK.out.size;have h1:aC (fun k=>k=Cb\/W.heap.size<=k) W wc:=(HK.out.mono (fun k h=>.inl h)).trans (nL.out.mono (fun k h=>h.imp id (fun h9=>by
     rcases HV.out with h8|⟨b,h8,h7⟩
     .rw[yh.out,h8]at h9;cases h9
     .rw[yh.out,h8]at h9;injection h9 with h9;omega)))
    have h2:aC (fun k=>k=Cb) W wc:=⟨h1.os,h1.tape,h1.output,h1.size,fun k hk hn=>h1.block k hk (fun h9=>by rcases h9 with h9|h9;exact hn h9;omega)⟩;exact h2.set (a:=(ah Cb 3)) _ (.inl rfl)
   clear HK nL Df HC KE;go_wp2;go_ret;exact⟨_,ch1,_,rfl,F7.out,yz.out,by rw[hKK];exact EZ.out,HV.out,Gh.out,Ez.out,rfl⟩
end Go.Proofs.YtkjdbndekceffaaGreat
namespace Go.Proofs.YtkjdbndekceffaaGreat
open Go.RowKit Go.Sort Go.Shelf Go.Lib Go.Maps
open Go.ChangeMaps (setBlock)
def Bk (w:World) (F:Nat->Prop) (tb n0:Nat) (l:List Pt):Prop:=∃lo m0 m1 m2 m3 m4 hi bx cn hp lw ob tl sv dn,uP w F tb n0 l lo m0 m1 m2 m3 m4 hi bx cn hp lw ob tl sv dn
section
variable {w w':World} {F S:Nat->Prop} {tb n0:Nat} {l:List Pt}
theorem Bk.kept (h:Bk w F tb n0 l) (K:aC S w w') (hS:∀k,F k->¬S k):Bk w' F tb n0 l:=by
 obtain⟨lo,m0,m1,m2,m3,m4,hi,bx,cn,hp,lw,ob,tl,sv,dn,h⟩:=h;exact⟨lo,m0,m1,m2,m3,m4,hi,bx,cn,hp,lw,ob,tl,sv,dn,h.kept K hS⟩
theorem Bk.below (h:Bk w F tb n0 l) (hb:Below w.heap.size w w'):Bk w' F tb n0 l:=h.kept (S:=fun _=>False) ((aC.refl _ _).below hb) fun _ _ h=>h
theorem Bk.lt (h:Bk w F tb n0 l):∀k,F k->k<w.heap.size:=by
 obtain⟨lo,m0,m1,m2,m3,m4,hi,bx,cn,hp,lw,ob,tl,sv,dn,h⟩:=h;exact h.fin.2.2
theorem aiK (a:Option Addr) (c:Nat) (l:List Pt) (w:World) (hl:dU fH 3 w a l) (hn:l.length<=20000) (hw:Mm l) (hu:(ids l).Nodup):
  aO 52 #[.slice a l.length c] w fun e w'=>∃tb,e=.returned (ay tb)/\Bk w' (fun k=>w.heap.size<=k/\k<w'.heap.size) tb l.length l/\Below w.heap.size w w':=by
 refine(ZN a c l w hl hn hw (by unfold Eg;exact Aj hu)).mono ?_;rintro e w' ⟨tb,m0,m1,m2,m3,m4,bx,cn,hp,lw,ob,tl,he,h,hb⟩;exact⟨tb,he,⟨_,_,_,_,_,_,_,_,_,_,_,_,_,_,_,h⟩,hb⟩
theorem an3 (h:Bk w F tb n0 l) (p:Pt) (iC:p∈l):
  aO 53 #[ay tb,ku p.1 p.2.1 p.2.2] w fun e w'=>e=.returned (.bool true)/\Bk w' (fun k=>F k\/w.heap.size<=k/\k<w'.heap.size) tb n0 (l.filter fun q=>decide (q≠p))/\aC F w w':=by
 obtain⟨lo,m0,m1,m2,m3,m4,hi,bx,cn,hp,lw,ob,tl,sv,dn,h⟩:=h;refine(aef h p.1 p.2.1 p.2.2 iC).mono ?_;rintro e w' ⟨he,ob',tl',h2,hK⟩;exact⟨he,⟨_,_,_,_,_,_,_,_,_,_,_,_,_,_,_,h2⟩,hK⟩
end
def vTr:Option Nat->Value
 |none=>.pointer none
 |some b=>ay b
def mr (w:World) (mb:Nat) (A:List eX):Prop:=∃D,w.ownsMap Tryz.prog 29 (plainElem Tryz.prog 3) mb A.length D/\uz D A
theorem mr.fit {w:World} {mb n:Nat} {A:List eX} {D:DataW Unit} (h:w.ownsMap Tryz.prog 29 (plainElem Tryz.prog 3) mb n D) (h2:uz D A):mr w mb A:=by
 refine⟨D,?_,h2⟩;rw[<-h2.2.1];obtain⟨es,clock,hb,F,hs,rfl⟩:=h;exact⟨es,clock,hb,F,by simp[Maps.size,length_sorted],rfl⟩
theorem mr.lt {w:World} {mb:Nat} {A:List eX} (h:mr w mb A):mb<w.heap.size:=by
 obtain⟨D,⟨es,ck,hb,-⟩,-⟩:=h;exact(bn.1 hb).1
theorem mr.same {w w':World} {mb:Nat} {A:List eX} (h:mr w mb A) (e:w'.heap[mb]? =w.heap[mb]?):mr w' mb A:=by
 obtain⟨D,⟨es,ck,hb,r⟩,h2⟩:=h;exact⟨D,⟨es,ck,e.trans hb,r⟩,h2⟩
theorem mr.look {w:World} {mb:Nat} {A:List eX} (h:mr w mb A) {p:Pt} (hp:KM p) (hA:(A.map (·.1)).Nodup):
  (∃c∈A,c.1=p/\(Instr.lookup 188 (.map (some mb)) (ku p.1 p.2.1 p.2.2) true).run Tryz.prog w=.ok (.tuple #[ag c.2,.bool true]) w)\/
  (p∉A.map (·.1)/\(Instr.lookup 188 (.map (some mb)) (ku p.1 p.2.1 p.2.2) true).run Tryz.prog w=.ok (.tuple #[ag 0,.bool false]) w):=by
 obtain⟨D,h1,h2⟩:=h;obtain⟨v,ps,hrun,hv⟩:=h1.look_ok (Keyed.of_law Ml) IQ (pK w) (Ao nQ (by decide)) (AY hp);rw[(h2.2.2 p hp).2]at hrun;rw[(h2.2.2 p hp).1]at hv;have hint:∀x:Int,plainElem (H:=Unit) Tryz.prog 3 v=some (DataW.lit (.int .i64 x),ps)->v=.int .i64 x:=fun x hx=>by
  obtain⟨a,rfl,e,hw⟩:=plainElem_int_inv nQ hx;simp at e;rw[e.1]
 cases hf:A.find? fun c=>decide (c.1=p)with
 |none=>
  right;rw[hf]at hv;have hno:=List.find?_eq_none.1 hf;have h3:(A.any fun c=>decide (c.1=p))=false:=IV.2 hno;rw[h3,hint 0 hv]at hrun;exact⟨fun hm=>by
   obtain⟨c,hc,e⟩:=dY.1 hm;exact hno c hc (by simpa using e),hrun⟩
 |some c=>
  left;rw[hf]at hv;have hc:=List.mem_of_find?_eq_some hf;have VZ:c.1=p:=by simpa using List.find?_some hf
  have h3:(A.any fun c=>decide (c.1=p))=true:=List.any_eq_true.2 ⟨c,hc,by simpa using VZ⟩;rw[h3,hint c.2 hv]at hrun;exact⟨c,hc,VZ,hrun⟩
theorem mr.size {w:World} {mb:Nat} {A:List eX} (h:mr w mb A):(Builtin.len_ #[188] 3 #[.map (some mb)]).run Tryz.prog w=.ok (.int .i64 A.length) w:=by
 obtain⟨D,h1,h2⟩:=h;rw[h1.len IQ 3,h2.2.1]
abbrev BH:Value:=.func (.func 52) #[] #[]
abbrev Ia:Value:=.func (.func 53) #[] #[]
structure jr (w:World) (X:Nat->Prop) (Hb Cb mb:Nat) (cv tv av lv:Value) (ch:List De) (T:List (Option Nat)) (al:List Bool) (eY:List Int) (A:List eX) (N wk:Int):Prop where
 blk:w.heap[Hb]? =some (Obj.cells #[BH,Ia,ay Cb,tv,av,lv,.map (some mb)] 190 (0,0))
 gq:nZ w 0 Cb cv ch N wk
 rows:si w ch
 jY:w.ownsRow 0 106 1 tv T.length (T.map vTr)
 dR:w.ownsRow 0 4 1 av al.length (al.map Value.bool)
 oI:w.ownsRow 0 3 1 lv eY.length (eY.map (Value.int .i64))
 map:mr w mb A
 jJ:X Hb/\X Cb/\X mb/\(∀k,cv.ownBlock=some k->X k)/\(∀k,tv.ownBlock=some k->X k)/\(∀k,av.ownBlock=some k->X k)/\(∀k,lv.ownBlock=some k->X k)
 inR:∀h∈ch,h.2.1≠[]->∀a,h.1=some a->X a.block
structure pG (w:World) (F:Nat->Nat->Prop) (X:Nat->Prop) (CB:List (List eX)) (T:List (Option Nat)) (al:List Bool):Prop where
 tr:∀(i:Nat) (h:i<CB.length),CB[i]≠[]->∃tb n0,T[i]? =some (some tb)/\n0<=CB[i].length/\Bk w (F i) tb n0 (uI al CB[i])
 off:∀i k,F i k->¬X k
 ap:∀i j k,F i k->F j k->i=j
 lt:∀i k,F i k->k<w.heap.size
section
variable {w w':World} {X S:Nat->Prop} {F:Nat->Nat->Prop} {Hb Cb mb:Nat} {cv tv av lv:Value} {ch:List De} {T:List (Option Nat)} {al:List Bool} {eY:List Int} {A:List eX} {N wk:Int} {CB:List (List eX)}
theorem jr.kept (h:jr w X Hb Cb mb cv tv av lv ch T al eY A N wk) (K:aC S w w') (hS:∀k,X k->¬S k):jr w' X Hb Cb mb cv tv av lv ch T al eY A N wk:=
 ⟨bL K h.blk (hS _ h.jJ.1),⟨bC _,h.gq.ds,bL K h.gq.blk (hS _ h.jJ.2.1),aY h.gq.row K fun gb e=>hS _ (h.jJ.2.2.2.1 gb e)⟩,h.rows.WO h.inR K hS,aY h.jY K fun gb e=>hS _ (h.jJ.2.2.2.2.1 gb e),aY h.dR K fun gb e=>hS _ (h.jJ.2.2.2.2.2.1 gb e),aY h.oI K fun gb e=>hS _ (h.jJ.2.2.2.2.2.2 gb e),h.map.same (K.block _ h.map.lt (hS _ h.jJ.2.2.1)),h.jJ,h.inR⟩
theorem jr.below (h:jr w X Hb Cb mb cv tv av lv ch T al eY A N wk) (hb:Below w.heap.size w w'):jr w' X Hb Cb mb cv tv av lv ch T al eY A N wk:=h.kept (S:=fun _=>False) ((aC.refl _ _).below hb) fun _ _ h=>h
theorem jr.cell (h:jr w X Hb Cb mb cv tv av lv ch T al eY A N wk):w.cell? (ah Hb 0)=some BH/\w.cell? (ah Hb 1)=some Ia/\w.cell? (ah Hb 2)=some (ay Cb)/\w.cell? (ah Hb 3)=some tv/\w.cell? (ah Hb 4)=some av/\w.cell? (ah Hb 5)=some lv/\w.cell? (ah Hb 6)=some (.map (some mb)):=by
 have:=h.blk;refine⟨?_,?_,?_,?_,?_,?_,?_⟩<;>simp[World.cell?,this]
theorem jr.frozen (h:jr w X Hb Cb mb cv tv av lv ch T al eY A N wk) (j:Nat):w.frozen? (ah Hb j)=false:=by
 have:=h.blk;simp[World.frozen?,this]
theorem jr.lt (h:jr w X Hb Cb mb cv tv av lv ch T al eY A N wk):Hb<w.heap.size:=(bn.1 h.blk).1
theorem pG.kept (h:pG w F X CB T al) (K:aC S w w') (hS:∀i k,F i k->¬S k):pG w' F X CB T al:=
 ⟨fun i hi hne=>by
  obtain⟨tb,n0,h1,h2,h3⟩:=h.tr i hi hne;exact⟨tb,n0,h1,h2,h3.kept K (hS i)⟩,h.off,h.ap,fun i k hk=>bJ (h.lt i k hk) K.size⟩
theorem Dn (h:jr w X Hb Cb mb cv tv av lv ch T al eY A N wk):aO 134 #[ay Hb] w fun e w'=>e=.returned (.bool false)/\w'=w:=by
 obtain⟨-,-,c2,-⟩:=h.cell;clear h;go_enter Tryz.func134,Tryz.ntmps134;go_wp2;go_ret;exact⟨rfl,rfl⟩
theorem aiL (h:jr w X Hb Cb mb cv tv av lv ch T al eY A N wk):aO 60 #[ay Hb] w fun e w'=>e=.returned (ag A.length)/\w'=w:=by
 have CN:=ae (Dn h);obtain⟨-,-,-,-,-,-,c6⟩:=h.cell;have e6:=h.map.size;clear h;go_enter Tryz.func60,Tryz.ntmps60
 go_wp2_with (go_at_call 134;refine CN.out.mono ?_;rintro e w1 ⟨rfl,rfl⟩)
 go_ret;exact⟨rfl,rfl⟩
end
end Go.Proofs.YtkjdbndekceffaaGreat
namespace Go.Proofs.YtkjdbndekceffaaGreat
open Go.RowKit Go.Sort Go.Shelf Go.Lib Go.Maps
theorem dK {W:World} {base:Nat} {e:TypeId} {sz n:Nat} {v:Value} {xs:List Value} (hr:W.ownsRow base e sz v n xs) {k:Nat} (e9:v.ownBlock=some k):∃cur,W.heap[k]? =some (Obj.cells cur e (0,0)):=by
 rcases hr.2 with⟨rfl,_⟩|⟨g,cap,cur,rfl,_,hh,_⟩
 .cases e9
 .simp only[Value.ownBlock,jB]at e9;subst e9;exact⟨cur,hh⟩
theorem FW {P:Program} {ops:Array Oper} {o:Oper} {a:Act} {K:Act->World->Prop} {Q:Exit->Act->World->Prop} {E0:Prop} {f:FuncId} {w:World} {vals:Array Value} {R:Ending->World->Prop} (hen:∀args w,(callFunc f args).run P w=.ok (.enter f args) w) (hgd:o.guard=none) (c:Operand) (args:Array Operand) (tys:Array TypeId) (ho:o.op=.call {callee:=.value c,args:=args,argTypes:=tys}) (hc:a.eval c=.func (.func f) #[] #[]) (xz:vals=(args.toList.map a.eval).toArray)
  (C:Calls P f vals w R) (h:∀e w',R e w'->∃v,e=.returned v/\K (a.put o.dst v) w'):
  if Region.wanted o (yielded ops a.tmps)=true then Oper.wp P o a w K Q else E0:=by
 have hw:Region.wanted o (yielded ops a.tmps)=true:=by simp[Region.wanted,hgd]
 rw[aR hw];unfold Oper.wp;have BO:args.map a.eval=vals:=by rw[xz,<-IY]
 have he:(execOp a.eval o).run P w=.ok (.enter f vals) w:=by
  simp[execOp,ho,resolve,invoke,BO,hc,Deferred.ofValue,hen]
 rw[he,Oper.upon_enter];refine C.mono fun e w' hr=>?_;obtain⟨v,rfl,hk⟩:=h e w' hr;exact hk
abbrev sF:TypeId:=190
abbrev xX (Cb mb:Nat) (tv av lv:Value):Array Value:=#[BH,Ia,ay Cb,tv,av,lv,.map (some mb)]
section
variable {w w' w6:World} {X S:Nat->Prop} {F:Nat->Nat->Prop} {Hb Cb mb:Nat} {cv tv av lv:Value} {ch:List De} {T:List (Option Nat)} {al:List Bool} {eY:List Int} {A:List eX} {N wk:Int} {CB:List (List eX)}
theorem jr.more {X':Nat->Prop} (h:jr w X Hb Cb mb cv tv av lv ch T al eY A N wk) (hX:∀k,X k->X' k):jr w X' Hb Cb mb cv tv av lv ch T al eY A N wk:=
 ⟨h.blk,h.gq,h.rows,h.jY,h.dR,h.oI,h.map,⟨hX _ h.jJ.1,hX _ h.jJ.2.1,hX _ h.jJ.2.2.1,fun k e=>hX _ (h.jJ.2.2.2.1 k e),fun k e=>hX _ (h.jJ.2.2.2.2.1 k e),fun k e=>hX _ (h.jJ.2.2.2.2.2.1 k e),fun k e=>hX _ (h.jJ.2.2.2.2.2.2 k e)⟩,fun x hx hn a e=>hX _ (h.inR x hx hn a e)⟩
theorem jr.ty (h:jr w X Hb Cb mb cv tv av lv ch T al eY A N wk) {t:TypeId} (K:aC S w w') (hS:∀k,S k->k=Hb\/∃cs fr,w.heap[k]? =some (Obj.cells cs t fr)):
  (t≠278/\t≠213->nZ w' 0 Cb cv ch N wk)/\(t≠187->si w' ch)/\(t≠106->w'.ownsRow 0 106 1 tv T.length (T.map vTr))/\
  (t≠4->w'.ownsRow 0 4 1 av al.length (al.map Value.bool))/\(t≠3->w'.ownsRow 0 3 1 lv eY.length (eY.map (Value.int .i64)))/\mr w' mb A:=by
 have nb:∀{b:Nat} {cs:Array Value} {t':TypeId} {fr:Nat×Nat},w.heap[b]? =some (Obj.cells cs t' fr)->t'≠sF->t≠t'->w'.heap[b]? =w.heap[b]? :=fun{b cs t' fr} hb h1 h2=>K.block b (bn.1 hb).1 fun h9=>by
  rcases hS b h9 with rfl|⟨cs2,WY,h3⟩
  .exact dV hb h.blk h1 rfl
  .exact dV h3 hb h2 rfl
 have nr:∀{e:TypeId} {sz n:Nat} {v:Value} {xs:List Value},w.ownsRow 0 e sz v n xs->e≠sF->t≠e->w'.ownsRow 0 e sz v n xs:=fun{e sz n v xs} hr h1 h2=>bB hr fun gb e9=>by
  obtain⟨cur,hc⟩:=dK hr e9;exact nb hc h1 h2
 refine⟨fun ht=>⟨bC _,h.gq.ds,(nb h.gq.blk (by decide) ht.1).trans h.gq.blk,nr h.gq.row (by decide) ht.2⟩,fun ht=>h.rows.kept fun b cur fr hb=>nb hb (by decide) ht,fun ht=>nr h.jY (by decide) ht,fun ht=>nr h.dR (by decide) ht,fun ht=>nr h.oI (by decide) ht,h.map.same ?_⟩;refine K.block _ h.map.lt fun h9=>?_;obtain⟨D,⟨es,ck,hb,-⟩,-⟩:=h.map;rcases hS mb h9 with e|⟨cs2,WY,h3⟩
 .rw[e,h.blk]at hb;cases hb
 .rw[h3]at hb;cases hb
theorem jr.Ci (h:jr w X Hb Cb mb cv tv av lv ch T al eY A N wk) {e:TypeId} {n:Nat} {v:Value} {xs:List Value} (hr:w.ownsRow 0 e 1 v n xs) (he:e≠sF):v.ownBlock≠some Hb:=fun e9=>by
 obtain⟨cur,hc⟩:=dK hr e9;exact dV h.blk hc (fun h=>he h.symm) rfl
theorem jr.an4 (h:jr w X Hb Cb mb cv tv av lv ch T al eY A N wk) {v v':Value} (hn:v.ownBlock≠some Hb) (hb:v'.ownBlock=v.ownBlock\/∃b,v'.ownBlock=some b/\w.heap.size<=b):v'.ownBlock≠some Hb:=by
 rcases hb with e|⟨b,e,hb⟩
 .rw[e];exact hn
 .rw[e];intro e2;injection e2 with e2;have:=h.lt;omega
theorem jr.afw (h:jr w X Hb Cb mb cv tv av lv ch T al eY A N wk) (hg:w.grownBy w6 tv.ownBlock) {tv':Value} {T':List (Option Nat)} (hown:w6.ownsRow 0 106 1 tv' T'.length (T'.map vTr)) (VU:tv'.ownBlock≠some Hb):
  jr (w6.setCell (ah Hb 3) tv') (fun k=>X k\/tv'.ownBlock=some k) Hb Cb mb cv tv' av lv ch T' al eY A N wk:=by
 have hn:=h.Ci h.jY (by decide);have K6:aC (fun k=>k=Hb\/tv.ownBlock=some k) w (w6.setCell (ah Hb 3) tv'):=(((aC.refl (fun k=>k=Hb\/tv.ownBlock=some k) w).grown hg fun k e=>.inl (.inr e)).set _ (.inl (.inl rfl)));obtain⟨t1,t2,-,t4,t5,t6⟩:=h.ty (t:=106) K6 (fun k hk=>hk.imp id fun e=>by obtain⟨cur,hc⟩:=dK h.jY e;exact⟨_,_,hc⟩);have e6:w6.heap[Hb]? =some (Obj.cells (xX Cb mb tv av lv) sF (0,0)):=(hg.block Hb h.lt fun e=>hn e.symm).trans h.blk;refine⟨?_,t1 (by decide),t2 (by decide),bB hown fun gb e=>aH fun e2=>VU (by rw[e,<-e2]),t4 (by decide),t5 (by decide),t6,⟨.inl h.jJ.1,.inl h.jJ.2.1,.inl h.jJ.2.2.1,fun k e=>.inl (h.jJ.2.2.2.1 k e),fun k e=>.inr e,fun k e=>.inl (h.jJ.2.2.2.2.2.1 k e),fun k e=>.inl (h.jJ.2.2.2.2.2.2 k e)⟩,fun x hx hn a e=>.inl (h.inR x hx hn a e)⟩;rw[dH w6 Hb 3 _ _ _ e6];rfl
theorem jr.an5 {g n c:Nat} (h:jr w X Hb Cb mb cv (aD g n c) av lv ch T al eY A N wk) (j:Nat) (x:Option Nat):jr (w.setCell (ah g j) (vTr x)) X Hb Cb mb cv (aD g n c) av lv ch (T.set j x) al eY A N wk:=by
 have hn:=h.Ci h.jY (by decide);have K6:aC (fun k=>k=g) w (w.setCell (ah g j) (vTr x)):=(aC.refl (fun k=>k=g) w).set _ (.inl rfl);obtain⟨t1,t2,-,t4,t5,t6⟩:=h.ty (t:=106) K6 (fun k hk=>.inr (by obtain⟨cur,hc⟩:=dK h.jY (k:=k) (by rw[hk];rfl);exact⟨_,_,hc⟩));obtain rfl:n=T.length:=by
  rcases h.jY.2 with⟨e,_⟩|⟨_,_,_,e,_⟩
  .cases e
  .injection e with _ e
 refine⟨(aH (a:=(ah g j)) fun e:g=Hb=>hn (by show some g=_;rw[e])).trans h.blk,t1 (by decide),t2 (by decide),?_,t4 (by decide),t5 (by decide),t6,h.jJ,h.inR⟩;rw[lJ,qh];exact(h.jY.stored j (vTr x)).1
theorem jr.avg {g n c:Nat} (h:jr w X Hb Cb mb cv tv av (aD g n c) ch T al eY A N wk) (j:Nat) (x:Int):jr (w.setCell (ah g j) (.int .i64 x)) X Hb Cb mb cv tv av (aD g n c) ch T al (eY.set j x) A N wk:=by
 have hn:=h.Ci h.oI (by decide);have K6:aC (fun k=>k=g) w (w.setCell (ah g j) (.int .i64 x)):=(aC.refl (fun k=>k=g) w).set _ (.inl rfl);obtain⟨t1,t2,t3,t4,-,t6⟩:=h.ty (t:=3) K6 (fun k hk=>.inr (by obtain⟨cur,hc⟩:=dK h.oI (k:=k) (by rw[hk];rfl);exact⟨_,_,hc⟩));obtain rfl:n=eY.length:=by
  rcases h.oI.2 with⟨e,_⟩|⟨_,_,_,e,_⟩
  .cases e
  .injection e with _ e
 refine⟨(aH (a:=(ah g j)) fun e:g=Hb=>hn (by show some g=_;rw[e])).trans h.blk,t1 (by decide),t2 (by decide),t3 (by decide),t4 (by decide),?_,t6,h.jJ,h.inR⟩;rw[lJ,qh];exact(h.oI.stored j (.int .i64 x)).1
theorem jr.avh {g n c:Nat} (h:jr w X Hb Cb mb cv tv (aD g n c) lv ch T al eY A N wk) (j:Nat) (x:Bool):jr (w.setCell (ah g j) (.bool x)) X Hb Cb mb cv tv (aD g n c) lv ch T (al.set j x) eY A N wk:=by
 have hn:=h.Ci h.dR (by decide);have K6:aC (fun k=>k=g) w (w.setCell (ah g j) (.bool x)):=(aC.refl (fun k=>k=g) w).set _ (.inl rfl);obtain⟨t1,t2,t3,-,t5,t6⟩:=h.ty (t:=4) K6 (fun k hk=>.inr (by obtain⟨cur,hc⟩:=dK h.dR (k:=k) (by rw[hk];rfl);exact⟨_,_,hc⟩));obtain rfl:n=al.length:=by
  rcases h.dR.2 with⟨e,_⟩|⟨_,_,_,e,_⟩
  .cases e
  .injection e with _ e
 refine⟨(aH (a:=(ah g j)) fun e:g=Hb=>hn (by show some g=_;rw[e])).trans h.blk,t1 (by decide),t2 (by decide),t3 (by decide),?_,t5 (by decide),t6,h.jJ,h.inR⟩;rw[lJ,qh];exact(h.dR.stored j (.bool x)).1
theorem jr.ZP {kW:Value} {iP:List De} {N' uk:Int} (h:jr w X Hb Cb mb cv tv av lv ch T al eY A N wk) (K:aC (fun k=>k=Cb\/cv.ownBlock=some k) w w') (hc:nZ w' 0 Cb kW iP N' uk) (hr:si w' iP) (Sk:Nw w.heap.size ch iP) (hb:kW.ownBlock=cv.ownBlock\/kW.ownBlock=none\/∃b,kW.ownBlock=some b/\w.heap.size<=b):
  jr w' (fun k=>X k\/w.heap.size<=k/\(kW.ownBlock=some k\/∃h∈iP,h.2.1≠[]/\∃a,h.1=some a/\a.block=k)) Hb Cb mb kW tv av lv iP T al eY A N' uk:=by
 have nb:∀{b:Nat} {cs:Array Value} {t':TypeId} {fr:Nat×Nat},w.heap[b]? =some (Obj.cells cs t' fr)->t'≠278->t'≠213->w'.heap[b]? =w.heap[b]? :=fun{b cs t' fr} hb h1 h2=>K.block b (bn.1 hb).1 fun h9=>by
  rcases h9 with rfl|h9
  .exact dV hb h.gq.blk h1 rfl
  .obtain⟨cur,hc⟩:=dK h.gq.row h9;exact dV hb hc h2 rfl
 have nr:∀{e:TypeId} {sz n:Nat} {v:Value} {xs:List Value},w.ownsRow 0 e sz v n xs->e≠278->e≠213->w'.ownsRow 0 e sz v n xs:=fun{e sz n v xs} hr h1 h2=>bB hr fun gb e9=>by
  obtain⟨cur,hc⟩:=dK hr e9;exact nb hc h1 h2
 refine⟨(nb h.blk (by decide) (by decide)).trans h.blk,hc,hr,nr h.jY (by decide) (by decide),nr h.dR (by decide) (by decide),nr h.oI (by decide) (by decide),h.map.same ?_,⟨.inl h.jJ.1,.inl h.jJ.2.1,.inl h.jJ.2.2.1,fun k e=>?_,fun k e=>.inl (h.jJ.2.2.2.2.1 k e),fun k e=>.inl (h.jJ.2.2.2.2.2.1 k e),fun k e=>.inl (h.jJ.2.2.2.2.2.2 k e)⟩,fun x hx hn a e=>?_⟩
 .refine K.block _ h.map.lt fun h9=>?_;obtain⟨D,⟨es,ck,hb,-⟩,-⟩:=h.map;rcases h9 with e|e
  .rw[e,h.gq.blk]at hb;cases hb
  .obtain⟨cur,hc⟩:=dK h.gq.row e;rw[hc]at hb;cases hb
 .rcases hb with e1|e1|⟨b,e1,hb⟩
  .exact .inl (h.jJ.2.2.2.1 k (by rw[<-e1];exact e))
  .rw[e1]at e;cases e
  .have:b=k:=by rw[e1]at e;injection e
   exact .inr ⟨by omega,.inl e⟩
 .rcases Sk x hx with g1|h9
  .exact .inl (h.inR x g1 hn a e)
  .exact .inr ⟨h9 a e,.inr ⟨x,hx,hn,a,e,rfl⟩⟩
end
end Go.Proofs.YtkjdbndekceffaaGreat
namespace Go.Proofs.YtkjdbndekceffaaGreat
open Go.RowKit Go.Sort Go.Shelf Go.Lib Go.Maps
attribute [local irreducible] wpQuiet
attribute [local go_sem] Oper.fM
theorem an6:eQ Tryz.prog 111 106 1 8:=.mk' (z:=.pointer none) Tryz.underlying111 (by kernel_rfl) rfl (by decide)
theorem QL:∀args w,(callFunc 52 args).run Tryz.prog w=.ok (.enter 52 args) w:=dF Tryz.func52 (by kernel_rfl) rfl
def FX (Hb:Nat) (w:World):Nat:=match w.cell? (ah Hb 3)with|some (.slice _ n _)=>n|_=>0
section
variable {w w' w6:World} {X S:Nat->Prop} {F:Nat->Nat->Prop} {Hb Cb mb:Nat} {cv tv av lv:Value} {ch:List De} {T:List (Option Nat)} {al:List Bool} {eY:List Int} {A:List eX} {N wk:Int}
theorem jr.FX (h:jr w X Hb Cb mb cv tv av lv ch T al eY A N wk):FX Hb w=T.length:=by
 obtain⟨a,cp,rfl,-,-,-⟩:=Rd.aL (enc:=vTr) h.jY;unfold Proofs.YtkjdbndekceffaaGreat.FX;rw[h.cell.2.2.2.1]
def CJ (T:List (Option Nat)) (i tb:Nat):List (Option Nat):=(T++List.replicate (i+1-T.length) none).set i (some tb)
def an7 (w:World) (X:Nat->Prop) (Hb Cb mb:Nat) (cv tv av lv:Value) (ch:List De) (T:List (Option Nat)) (al:List Bool) (eY:List Int) (A:List eX) (N wk:Int) (l:List eX) (i:Nat) (e:Ending) (w':World):Prop:=
 e=.returned (.tuple #[])/\∃(tv':Value) (tb m:Nat) (Fn:Nat->Prop),jr w' (fun k=>X k\/w.heap.size<=k/\k<m) Hb Cb mb cv tv' av lv ch (CJ T i tb) al (iJ eY l i) A N wk/\Bk w' Fn tb (uI al l).length (uI al l)/\(∀k,Fn k->m<=k)/\(w.heap.size<=m/\m<=w'.heap.size)/\
  (tv'.ownBlock=tv.ownBlock\/∃b,tv'.ownBlock=some b/\w.heap.size<=b)/\aC (fun k=>k=Hb\/tv.ownBlock=some k\/lv.ownBlock=some k) w w'
theorem Sz (h:jr w X Hb Cb mb cv tv av lv ch T al eY A N wk) (a:Option Addr) (c:Nat) (l:List eX) (i:Nat) (hl:TN w a l) (hi:i<=20) (hT:T.length<=100) (hn:l.length<=5000) (an8:∀c∈l,∃k:Nat,c.2=k/\k<al.length) (uy:eY.length=al.length) (xE:al.length<=10000) (hw:Mm (uI al l)) (hu:(ids (uI al l)).Nodup) (hX:∀k,X k->k<w.heap.size):
  aO 136 #[ay Hb,ag i,.slice a l.length c] w (an7 w X Hb Cb mb cv tv av lv ch T al eY A N wk l i):=by
 have H:=ae h;have Df:Hid (∀W',aC (fun k=>k=Hb\/tv.ownBlock=some k\/lv.ownBlock=some k) w W'->dU l8 4 W' a l):=fun W' K=>(hl.kept fun b cur fr hb=>K.block b (bn.1 hb).1 (by
  rintro(rfl|e|e)
  .exact dV hb h.blk (by decide) rfl
  .obtain⟨cur,hc⟩:=dK h.jY e;exact dV hb hc (by decide) rfl
  .obtain⟨cur,hc⟩:=dK h.oI e;exact dV hb hc (by decide) rfl)).VX
 have HNM:=ae an8;have HW:=ae hw;have HU:=ae hu;have KE:=ae uy;have HX:=ae hX;have HTL:Hid (∀gb,tv.ownBlock=some gb->gb<w.heap.size):=fun gb e=>(h.jY.lt gb e).2;have HLV:Hid (∀gb,lv.ownBlock=some gb->gb<w.heap.size):=fun gb e=>(h.oI.lt gb e).2;clear h hl an8 hw hu uy hX;go_enter Tryz.func136,Tryz.ntmps136
 go_upto_block 0 with fail
 go_cut []from 10 to 26 (fun wx=>∃tv':Value,Hid (jr wx (fun b=>X b\/w.heap.size<=b/\b<wx.heap.size) Hb Cb mb cv tv' av lv ch (T++List.replicate (i+1-T.length) none) al eY A N wk)/\Hid (tv'.ownBlock=tv.ownBlock\/∃b,tv'.ownBlock=some b/\w.heap.size<=b)/\Hid (aC (fun b=>b=Hb\/tv.ownBlock=some b) w wx))
 case first=>
  go_wp2_with fail
  go_loopw [] (fun wr=>∃(k:Nat) (tv':Value),k<=i+1-T.length/\Hid (jr wr (fun b=>X b\/w.heap.size<=b/\b<wr.heap.size) Hb Cb mb cv tv' av lv ch (T++List.replicate k none) al eY A N wk)/\Hid (tv'.ownBlock=tv.ownBlock\/∃b,tv'.ownBlock=some b/\w.heap.size<=b)/\Hid (aC (fun b=>b=Hb\/tv.ownBlock=some b) w wr)) (fun wr=>i+1-FX Hb wr)
  case atStart=>exact⟨0,tv,bC _,ae (by rw[List.replicate_zero,jD];exact H.out.more fun k hk=>.inl hk),.inl rfl,aC.refl _ _⟩
  case round=>
   obtain⟨k,tv',hk,HC,HV,HK⟩:=hrel;obtain⟨ta,tc,Np,-,kU,-⟩:=Rd.aL (enc:=vTr) HC.out.jY;obtain⟨-,-,-,c3,-⟩:=HC.out.cell;have HL:=ae HC.out.FX;have hlk:(T++List.replicate k (none:Option Nat)).length=T.length+k:=by simp
   by_cases hlt:T.length+k<=i
   .have hrow:=HC.out.jY;have uZ:Hid (∀w8,wr.grownBy w8 tv'.ownBlock->w8.heap[Hb]? =some (Obj.cells (xX Cb mb tv' av lv) sF (0,0))):=fun w8 hg=>(hg.block Hb HC.out.lt fun e=>HC.out.Ci HC.out.jY (by decide) e.symm).trans HC.out.blk;have HWr:=HK.out.size;rw[hlk]at hrow Np;subst Np
    go_wp2_with (at_builtin;go_loud (refine cz an6 0 hrow [.pointer none] rfl (by simp[Value.oneCell']) rfl _ _ rfl rfl _ rfl (by unfold maxLen;omega) (by omega) (bC _) ?_;intro v' w8 hown' hg hblk;obtain⟨g8,cp8,rfl,avi,avj,avk,avl⟩:=bf hown' (by omega);have k8:=uZ.out w8 hg;have q1:w8.cell? (ah Hb 3)=some (.slice ta (T.length+k) tc):=(by simp[World.cell?,k8]);have q2:w8.frozen? (ah Hb 3)=false:=(by simp[World.frozen?,k8])))
    have hown2:w8.ownsRow 0 106 1 (aD g8 (T.length+k+1) cp8) (T++List.replicate (k+1) none).length ((T++List.replicate (k+1) none).map vTr):=by
     rw[bF,iN,<-Al,sW,<-ek,dh (l₁:=T++_)];exact hown'
    have hb2:=gm hblk;have zF:=HC.out.afw hg hown2 (HC.out.an4 (HC.out.Ci HC.out.jY (by decide)) hb2);have hgs:=hg.size;have hb3:Value.ownBlock (aD g8 (T.length+k+1) cp8)=tv.ownBlock\/∃b,Value.ownBlock (aD g8 (T.length+k+1) cp8)=some b/\w.heap.size<=b:=by
     rcases hb2 with h9|⟨b,h9,h8⟩
     .rw[h9];exact HV.out
     .exact .inr ⟨b,h9,by omega⟩
    have HC8:=ae zF;have jm:=ae hb3;clear hb2 hblk zF hb3;go_roundw
    case rel=>
     refine⟨k+1,_,by omega,HC8.out.more ?_,jm,(HK.out.grown hg ?_).set (a:=(ah Hb 3)) _ (.inl (.inl rfl))⟩
     .rintro b ((hb|hb)|hb)
      .exact .inl hb
      .exact .inr ⟨hb.1,by simp;omega⟩
      .have e3:g8=b:=by injection hb
       rcases jm.out with h9|⟨b',h9,h8⟩
       .exact .inl (H.out.jJ.2.2.2.2.1 b (h9.symm.trans hb))
       .have e4:g8=b':=by injection h9
        exact .inr ⟨by omega,by simp;omega⟩
     .intro b hb;rcases HV.out with h9|⟨b',h9,h8⟩
      .exact .inl (.inr (h9.symm.trans hb))
      .rw[h9]at hb;injection hb with hb;exact .inr (by omega)
    case measure=>
     rw[HC8.out.FX,HC.out.FX];simp;omega
   .have e:k=i+1-T.length:=by omega
    subst e;have dle:¬((T.length+(i+1-T.length):Nat):Int)<=(i:Int):=by omega
    rw[hlk]at Np;subst Np
    go_wp2_with fail
    go_meet;exact⟨_,HC,HV,HK⟩
 case rest=>
  obtain⟨tv',HC,HV,HK⟩:=hcut;obtain⟨w1,fJ⟩:∃w1:World,w1=wc:=⟨_,rfl⟩;subst fJ;have hT1:(T++List.replicate (i+1-T.length) (none:Option Nat)).length=max T.length (i+1):=by simp;omega
  have HST:Hid (∀tb,(T++List.replicate (i+1-T.length) (none:Option Nat)).set i (some tb)=CJ T i tb):=fun tb=>rfl;generalize T++List.replicate (i+1-T.length) (none:Option Nat)=T1 at*;have hs1:=HK.out.size
  go_upto_block 2 with fail
  go_cut [7,9,29]from 30 to 54 (fun pv ev jv wx=>∃lx:Value,lx=pv/\Hid (jr wx (fun b=>X b\/w.heap.size<=b/\b<w1.heap.size) Hb Cb mb cv tv' av lv ch T1 al (iJ eY l i) A N wk)/\Hid (wx.ownsRow w1.heap.size 29 3 lx (uI al l).length ((uI al l).flatMap fH))/\Hid (aC (fun b=>lv.ownBlock=some b) w1 wx))
  case first=>
   go_wp2_with fail
   go_loopw [29,7] (fun jv pv wr=>∃(j:Nat) (lx:Value),jv=.int .i64 j/\lx=pv/\j<=l.length/\Hid (jr wr (fun b=>X b\/w.heap.size<=b/\b<w1.heap.size) Hb Cb mb cv tv' av lv ch T1 al (iJ eY (l.take j) i) A N wk)/\Hid (wr.ownsRow w1.heap.size 29 3 lx (uI al (l.take j)).length ((uI al (l.take j)).flatMap fH))/\Hid (aC (fun b=>lv.ownBlock=some b) w1 wr)) (fun jv _ _=>l.length-(intOf jv).toNat)
   case atStart=>exact⟨0,_,rfl,rfl,bC _,HC,dL _ _ _ _,aC.refl _ _⟩
   case round=>
    obtain⟨j,lx,rfl,rfl,hj,nu,HO,nL⟩:=hrel;have hsr:=nL.out.size;by_cases jl:j<l.length
    .obtain⟨b9,Gn,ea9,ahu,xY⟩:=(Df.out wr ((HK.out.mono fun k h=>h.imp id .inl).trans (nL.out.mono fun k h=>.inr (.inr h)))).get (by omega);have x0:=xY j jl 0 (by omega);have x1:=xY j jl 1 (by omega);have x2:=xY j jl 2 (by omega);have x3:=xY j jl 3 (by omega);simp only[l8,aT,aS,eG]at x0 x1 x2 x3;obtain⟨q,hq,NZ⟩:=HNM.out l[j] (bW jl);have hlen:(iJ eY (l.take j) i).length=al.length:=by rw[ow];exact KE.out
     obtain⟨gl,lc,elv,-,Uk,-,-⟩:=bf nu.out.oI (by omega);rw[hlen]at elv;obtain⟨ba,bo,eav,-,-,hra⟩:=Rd.aL nu.out.dR;obtain⟨lb,lo,ela,Sl,hlc⟩:=hra.get (by omega);have za:=hlc q NZ;have Nq:Hid (uI al (l.take (j+1))=uI al (l.take j)++(if al[q]=true then[(l[j]).1]else[])):=by
      show _=_;unfold uI;rw[fG jl,mU,dh];congr 1;unfold dx;rw[mV,hq];simp only[iF,dD NZ];cases al[q]<;>simp
     have HSJ:Hid (iJ eY (l.take (j+1)) i=(iJ eY (l.take j) i).set q i):=by
      show _=_;rw[fG jl,MC,hq,iF]
     have hjt:(uI al (l.take j)).length<=5000:=by
      unfold uI;rw[cu];have h1:=gG (dx al) (l.take j);have h2:(l.take j).length<=l.length:=by rw[eF];omega
      omega
     rw[hq]at x3;clear xY hlc hra hq;generalize uI al (l.take j)=L1 at*;generalize hL9:iJ eY (l.take j) i=L9 at*;have ZQ:L9.length=al.length:=by rw[<-hL9,ow];exact KE.out
     generalize al[q]=bb at*;generalize l[j]=x at*;obtain⟨⟨px,py,pd⟩,pn⟩:=x;simp only at x0 x1 x2 Nq;subst ea9 ela eav elv;have YC:=HLV.out gl rfl;have hqi:(q:Int)<(al.length:Int):=by omega
     have LJ:(j:Int)<(l.length:Int):=by omega
     have BA:Below wr.heap.size wr (wr.alloc (.cells #[ag px,ag py,aJ pd,ag q] 187)):=(aM _ _).alloc (aG _) _;have r0:(wr.alloc (.cells #[ag px,ag py,aJ pd,ag q] 187)).heap[wr.heap.size]? =some (.cells #[ag px,ag py,aJ pd,ag q] 187 (0,0)):=dE _ _;have sA:(wr.alloc (.cells #[ag px,ag py,aJ pd,ag q] 187)).heap.size=wr.heap.size+1:=by simp
     have za2:=(BA.cell (p:=(ah lb (lo+q))) (iD wr _ za)).trans za;have Uf:=ae (nu.out.below BA);have UT:=ae (HO.out.alloc (.cells #[ag px,ag py,aJ pd,ag q] 187));have HKA:Hid (aC (fun b=>Value.ownBlock (aD gl al.length lc)=some b) w1 (wr.alloc (.cells #[ag px,ag py,aJ pd,ag q] 187))):=nL.out.below BA
     go_wp2_with fail
     generalize(wr.alloc (.cells #[ag px,ag py,aJ pd,ag q] 187))=wA at*;clear x0 x1 x2 x3 za BA;obtain⟨-,-,-,-,-,c5,-⟩:=Uf.out.cell;have g5:=aj c5;have g3:=aj (w:=wA) (ad:=(ah wr.heap.size 3)) (v:=.int .i64 q) (by simp only[World.cell?,r0];rfl);have ym:=Uf.out.oI;rw[ZQ]at ym;have zl:=ym.cellAt q (by omega);rw[dD (by rw[cu];omega)]at zl;have fl:=ym.frozenAt q;have Jy:=ae (ym.lt gl rfl).2;clear ym;refine aF (fun W=>∃p:bg wA,W=p.W) [7,8] [(0,false),(1,false),(2,false),(3,true),(4,false),(5,true),(6,false)] (by kernel_rfl) (by kernel_rfl) (fun _ _ d _ _ h=>by cases d<;>exact h) ⟨⟨_,(aM _ _).drew⟩,rfl⟩ 2 rfl (by kernel_rfl) ?_;simp only[bG,bz,bA,bu,aS,aT,aU]
     repeat(refine aI (fun K hK=>?_);go_simp;first|(refine hK _ ?_;clear hK K)|(apply Exists.intro;refine⟨fun _=>?_,hK _ ?_⟩;rfl;clear hK K))
     refine aQ ?_;refine aK [7,8] _ _ _ (by kernel_rfl) ?_;simp only[pick,bz,bA,bu,aS,aT];clear g5 g3 c5;have VY:=ae (Uf.out.avg q i);have r0B:(wA.setCell (ah gl q) (.int .i64 i)).heap[wr.heap.size]? =some (.cells #[ag px,ag py,aJ pd,ag q] 187 (0,0)):=(aH (a:=(ah gl q)) (fun e:gl=wr.heap.size=>by omega)).trans r0;have KAB:aC (fun k=>k=gl) wA (wA.setCell (ah gl q) (.int .i64 i)):=(aC.refl (fun k=>k=gl) wA).set _ (.inl rfl);have zaB:(wA.setCell (ah gl q) (.int .i64 i)).cell? (ah lb (lo+q))=some (.bool bb):=(dX (KAB.block lb (iD _ _ za2) (by
      intro e;obtain⟨c1,h1⟩:=dK Uf.out.dR (k:=lb) rfl;obtain⟨c2,h2⟩:=dK Uf.out.oI (k:=gl) rfl;exact dV h1 h2 (by decide) e))).trans za2
     have HOB:=ae (aY UT.out KAB (fun gb e (h:gb=gl)=>by have:=(UT.out.lt gb e).1;omega));have Ob:Hid (aC (fun b=>Value.ownBlock (aD gl al.length lc)=some b) w1 (wA.setCell (ah gl q) (.int .i64 i))):=HKA.out.trans (KAB.mono fun k h=>by rw[h];rfl);have sB:(wA.setCell (ah gl q) (.int .i64 i)).heap.size=wA.heap.size:=by simp
     have yh:Hid (w1.heap.size<=(wA.setCell (ah gl q) (.int .i64 i)).heap.size):=by show _<=_;omega
     clear r0 KAB za2 sB sA
     go_wp2_with fail
     generalize wA.setCell (ah gl q) (.int .i64 i)=wB at*;clear zl fl UT HKA;obtain⟨-,-,-,-,c4,-,-⟩:=VY.out.cell;have e0:wB.cell? (ah wr.heap.size 0)=some (ag px):=by simp only[World.cell?,r0B];rfl
     have e1:wB.cell? (ah wr.heap.size 1)=some (ag py):=by simp only[World.cell?,r0B];rfl
     have e2:wB.cell? (ah wr.heap.size 2)=some (aJ pd):=by simp only[World.cell?,r0B];rfl
     have e3:wB.cell? (ah wr.heap.size 3)=some (ag q):=by simp only[World.cell?,r0B];rfl
     have HSD:=ae (VY.out.below ((aM _ _).drew).drew);have HKD:Hid (aC (fun b=>Value.ownBlock (aD gl al.length lc)=some b) w1 wB.drew.drew):=Ob.out.drew.drew;have HOD:=ae ((HOB.out.bP 1).bP 1);have h4:=aj (w:=wB.drew) c4;have h3:=aj (w:=wB.drew) e3;have hz:=aj (w:=wB.drew) zaB;refine aF (fun W=>∃p:bg wB.drew,W=p.W) [] [(0,false),(1,false),(2,false),(3,true),(4,false),(5,true),(6,false),(7,true)] (by kernel_rfl) (by kernel_rfl) (fun _ _ d _ _ h=>by cases d<;>exact h) ⟨⟨_,(aM _ _).drew⟩,rfl⟩ 0 rfl (by kernel_rfl) ?_;simp only[bG,bz,bA,bu,aS,aT,aU]
     repeat(refine aI (fun K hK=>?_);go_simp;first|(refine hK _ ?_;clear hK K)|(apply Exists.intro;refine⟨fun _=>?_,hK _ ?_⟩;rfl;clear hK K))
     refine aQ ?_;refine lZ (by kernel_rfl) ?_;clear h4 h3 hz;cases bb
     .rw[aP (by decide),jD]at Nq;go_wp2;go_roundw
      case rel=>exact⟨j+1,_,by go_num,rfl,by omega,by rw[HSJ.out];exact HSD,by rw[Nq.out];exact HOD,HKD⟩
      case measure=>simp[intOf];omega
     .rw[aR rfl]at Nq;have f0:wB.drew.drew.cell? (ah wr.heap.size 0)=some (ag px):=e0;have f1:wB.drew.drew.cell? (ah wr.heap.size 1)=some (ag py):=e1;have f2:wB.drew.drew.cell? (ah wr.heap.size 2)=some (aJ pd):=e2
      go_wp2_with (at_builtin;go_loud (refine cz YU w1.heap.size HOD.out [.int .i64 px,.int .i64 py,.int .u32 pd] rfl (by simp[Value.oneCell']) rfl _ _ rfl rfl _ (by first|rfl|(show aD wB.heap.size 1 1=_;simp)) (by unfold maxLen;omega) (by omega) yh.out ?_;intro v' w6 hown' hg hblk))
      have lD:Hid (aC (fun b=>Value.ownBlock (aD gl al.length lc)=some b) w1 w6):=HKD.out.grown hg (fun b hb=>.inr (HOD.out.lt b hb).1);have HS6:Hid (jr w6 (fun b=>X b\/w.heap.size<=b/\b<w1.heap.size) Hb Cb mb cv tv' (.slice (some (ah lb lo)) al.length bo) (aD gl al.length lc) ch T1 al (L9.set q i) A N wk):=HSD.out.kept ((aC.refl (fun b=>lx.ownBlock=some b) wB.drew.drew).grown hg fun b hb=>.inl hb) (fun k hk e=>by
       have h1:=(HOD.out.lt k e).1;rcases hk with hk|hk
       .have:=HX.out k hk;omega
       .omega)
      go_roundw
      case rel=>exact⟨j+1,_,by go_num,rfl,by omega,by rw[HSJ.out];exact HS6,by rw[Nq.out,bF,lW];exact hown',lD⟩
      case measure=>simp[intOf];omega
    .obtain rfl:j=l.length:=by omega
     rw[mW]at nu HO;have hge:¬(l.length:Int)<(l.length:Int):=by omega
     go_wp2_with fail
     go_meet;exact⟨_,rfl,nu,HO,nL⟩
  case rest=>
   obtain⟨lx,rfl,EG,HO2,vR⟩:=hcut;obtain⟨w2,kI⟩:∃w2:World,w2=wc:=⟨_,rfl⟩;subst kI;have hs2:=vR.out.size;obtain⟨gt,tc,Np,-,hgt,-,-⟩:=bf EG.out.jY (by omega);subst Np;obtain⟨pa,pc,epv,-,-,jE⟩:=dU.aL cZ (by decide) HO2.out;subst epv;have hlv:(uI al l).length<=5000:=by
    unfold uI;rw[cu];have h1:=gG (dx al) l;omega
   have CB:=ae (fun p:bg w2=>aiK pa pc (uI al l) p.W (jE.below p.h) (by omega) HW.out HU.out);obtain⟨c0,-,-,c3,-,-,-⟩:=EG.out.cell;have g0:=aj c0;have g3:=aj c3;clear c0 c3;have hti:(i:Int)<(T1.length:Int):=by omega
   go_wp2_with fail
   refine aF (fun W=>∃p:bg w2,W=p.W) [11,12] [(0,false),(1,false),(2,false),(3,true),(4,false),(5,false),(6,false),(7,false),(8,true),(9,false)] (by kernel_rfl) (by kernel_rfl) (fun _ _ d _ _ h=>by cases d<;>exact h) ⟨⟨_,(aM _ _).drew⟩,rfl⟩ 3 rfl (by kernel_rfl) ?_;simp only[bG,bz,bA,bu,aS,aT,aU]
   repeat(refine aI (fun K hK=>?_);go_simp;first|(refine hK _ ?_;clear hK K)|(apply Exists.intro;refine⟨fun _=>?_,hK _ ?_⟩;rfl;clear hK K))
   refine aQ ?_;clear g0 g3;refine az [10] (by kernel_rfl) (by simp) ?_;refine ak.cons rfl (fun K hK=>?_) ak.nil;refine FW QL rfl _ _ _ rfl rfl (vals:=#[.slice pa (uI al l).length pc]) rfl (CB.out ⟨_,(aM _ _).drew⟩) ?_;rintro e w9 ⟨tb,rfl,hB,Mh⟩;have B9:Below w2.heap.size w2 w9:=(aM _ _).drew.trans Mh;refine⟨_,rfl,?_⟩;refine hK _ _ (fun _ _=>⟨⟨_,B9⟩,rfl⟩) ?_;clear hK K;have Gs:=ae hB;have TQ:=ae (EG.out.below B9);have zt:=TQ.out.jY.cellAt i (by omega);rw[dD (by rw[cu];omega)]at zt;have ft:=TQ.out.jY.frozenAt i;have Ob:=ae B9;clear hB Mh B9 CB jE;refine aK [11,12] _ _ _ (by kernel_rfl) ?_;simp only[pick,bz,bA,bu,aS,aT];go_wp2
   go_end0
   have hP:=TQ.out.an5 i (some tb);rw[HST.out]at hP;refine⟨rfl,_,tb,w1.heap.size,_,hP,Gs.out.kept ((aC.refl (fun k=>k=gt) w9).set (a:=(ah gt i)) _ (.inl rfl)) (fun k hk h=>?_),fun k hk=>bO hs2 hk.1,⟨hs1,by have:=Ob.out.size;simp;omega⟩,HV.out,?_⟩
   .have h1:=(HC.out.jY.lt gt rfl).2;have h2:=bO hs2 hk.1;omega
   .refine(((HK.out.mono fun k h=>h.imp id .inl).trans (vR.out.mono fun k h=>.inr (.inr h))).below Ob.out).set (a:=(ah gt i)) _ ?_;rcases HV.out with h9|⟨b,h9,h8⟩
    .exact .inl (.inr (.inl h9.symm))
    .have e3:gt=b:=by injection h9
     exact .inr (show w.heap.size<=gt by omega)
end
end Go.Proofs.YtkjdbndekceffaaGreat
namespace Go.Proofs.YtkjdbndekceffaaGreat
open Go.RowKit Go.Sort Go.Shelf Go.Lib Go.Maps
attribute [local irreducible] wpQuiet
def dN (CB:List (List eX)) (m:Nat):List Nat:=((List.range CB.length).drop m).reverse.filter fun i=>!(CB.getD i []).isEmpty
theorem Vn (CB:List (List eX)):dN CB CB.length=[]:=by
 unfold dN;rw[rX (by simp)];rfl
theorem QM (CB:List (List eX)) (k:Nat) (h:k<CB.length):dN CB k=dN CB (k+1)++if CB[k]=[]then[]else[k]:=by
 unfold dN;rw[nP (by simpa using h),List.reverse_cons,mU];congr 1;rw[zW,mV,jy,dD h,fV];by_cases e:CB[k]=[]
 .simp[e]
 .simp[e]
theorem vL (CB:List (List eX)) (m:Nat):(dN CB m).length<=CB.length:=by
 unfold dN;refine bO (gG _ _) ?_;simp
def trV (T:List (Option Nat)) (k:Nat):Value:=vTr (T.getD k none)
section
variable {w w':World} {X S:Nat->Prop} {F:Nat->Nat->Prop} {Hb Cb mb:Nat} {cv tv av lv:Value} {ch:List De} {T:List (Option Nat)} {al:List Bool} {eY:List Int} {A:List eX} {N wk:Int}
theorem ZR (h:jr w X Hb Cb mb cv tv av lv ch T al eY A N wk) (hw:pQ (ch.map (·.2.1)) al A N) (hT:∀(i:Nat) (hi:i<(ch.map (·.2.1)).length),(ch.map (·.2.1))[i]≠[]->i<T.length):
  aO 61 #[ay Hb] w fun e w'=>∃v,e=.returned v/\w'.ownsRow w.heap.size 106 1 v (dN (ch.map (·.2.1)) 0).length ((dN (ch.map (·.2.1)) 0).map (trV T))/\Below w.heap.size w w':=by
 have H:=ae h;have HW:=ae hw;have HT:=ae hT;have qL:ch.length<=13:=by have:=hw.levels.1;simpa using this
 have CN:=ae (Dn h);have CL:=ae (AP h.gq (by omega));obtain⟨-,-,c2,-⟩:=h.cell;have avn:Hid (∀m,(dN (ch.map (·.2.1)) m).length<=13):=fun m=>by have:=vL (ch.map (·.2.1)) m;rw[cu]at this;show _<=_;omega
 clear h hw hT;go_enter Tryz.func61,Tryz.ntmps61
 go_wp2_with (first|(go_at_call 134;refine CN.out.mono ?_;rintro e w1 ⟨rfl,ew⟩;have kI:=ew.symm;clear ew;subst kI)|(go_at_call 141;refine CL.out.mono ?_;rintro e w2 ⟨rfl,hb2⟩;have fP:=ae hb2;clear hb2))
 go_loopw [4,3] (fun iv vv wr=>∃(m:Nat) (lw:Value),iv=.int .i64 ((m:Int)-1)/\lw=vv/\m<=ch.length/\Hid (wr.ownsRow w.heap.size 106 1 lw (dN (ch.map (·.2.1)) m).length ((dN (ch.map (·.2.1)) m).map (trV T)))/\Hid (Below w.heap.size w wr)) (fun iv _ _=>(intOf iv+1).toNat)
 case atStart=>exact⟨ch.length,_,by go_num,rfl,aG _,by have:=Vn (ch.map (·.2.1));rw[cu]at this;rw[this];exact dL _ _ _ _,fP⟩
 case round=>
  obtain⟨m,lw,rfl,rfl,hm,HO,HB⟩:=hrel;rcases pI m with Dk|Dk
  .subst Dk;have hg0:¬(0:Int)<=((0:Nat):Int)-1:=by omega
   go_wp2_with fail
   go_ret;exact⟨_,rfl,HO.out,HB.out⟩
  .obtain⟨k,rfl⟩:∃k,m=k+1:=⟨m-1,by omega⟩;have KD:(((k+1:Nat):Int)-1)=(k:Int):=by omega
   rw[KD];have aoa:(0:Int)<=(k:Int):=by omega
   have hkc:k<(ch.map (·.2.1)).length:=by rw[cu];omega
   have HST:=ae (QM (ch.map (·.2.1)) k hkc);have hTk:=HT.out k hkc;rw[fZ]at HST hTk;have gU:k<ch.length:=by omega
   have hzl:ch[k].2.1.length<=5000:=by
    have:=HW.out.few k hkc;rwa [fZ]at this
   have Hr:=ae (H.out.below HB.out);have CB:=ae (AQ Hr.out.gq Hr.out.rows (by omega) k gU (by omega));obtain⟨-,-,c2,-⟩:=Hr.out.cell;generalize ch[k].2.1=lk at*;have Mg:=avn.out (k+1);generalize dN (ch.map (·.2.1)) (k+1)=L at*;obtain⟨wo,ewo⟩:∃wo:World,wo=wr:=⟨_,rfl⟩;subst ewo;have hs3:=HB.out.size
   go_wp2_with fail
   refine CB.out.mono ?_;rintro e w3 ⟨v9,rfl,lG,hb3⟩;have Rt:=hb3.size;have jm:Hid (Below w.heap.size w w3):=HB.out.trans (hb3.mono hs3);have Uj:=ae (au HO.out hb3);obtain⟨a9,c9,e9,-,-,-⟩:=TN.aL lG;subst e9;have H3:=ae (Hr.out.below hb3);clear lG hb3 CB c2;by_cases hlk:lk=[]
   .subst hlk;rw[aR rfl,jD]at HST;have hz:¬(0:Int)<((([]:List eX).length:Nat):Int):=by simp
    go_wp2;go_roundw
    case rel=>exact⟨k,_,by go_num,rfl,by omega,by rw[HST.out];exact Uj,jm⟩
    case measure=>simp[intOf]
   .rw[aP hlk]at HST;have hkT:=hTk hlk;have Ee:0<lk.length:=Dw.2 hlk;have hz:(0:Int)<((lk.length:Nat):Int):=by omega
    obtain⟨gt,tc,Np,-,hgt,-,-⟩:=bf H3.out.jY (by omega);have zt:w3.cell? (ah gt k)=some (trV T k):=by
     have h1:=H3.out.jY;rw[Np]at h1;have h2:=h1.cellAt k (by omega);rw[iO,dD hkT]at h2;unfold trV;rw[jy,dD hkT];exact h2
    have HZ:Hid (∃p,trV T k=.pointer p):=by
     unfold trV vTr;split<;>exact⟨_,rfl⟩
    obtain⟨tp,etk⟩:=HZ.out;have ETK:=ae etk;obtain⟨-,-,-,c3,-⟩:=H3.out.cell;rw[Np]at c3;rw[etk]at zt;clear etk;have aEe:(k:Int)<(T.length:Int):=by omega
    have HBS:Hid (w.heap.size<=w3.heap.size):=by show _<=_;omega
    clear hs3 Rt Np
    go_wp2_with (at_builtin;refine cz an6 w.heap.size Uj.out [.pointer tp] rfl (by simp[Value.oneCell']) rfl _ _ rfl rfl _ rfl (by unfold maxLen;omega) (by omega) HBS.out ?_;intro v' w6 hown' hg hblk)
    have b6:Below w.heap.size w w6:=jm.out.grown hg (by have:=HBS.out;omega) (fun b e=>(Uj.out.lt b e).1);go_roundw
    case rel=>exact⟨k,_,by go_num,rfl,by omega,by rw[HST.out,bF,dh,mY,qX,ETK.out];exact hown',b6⟩
    case measure=>simp[intOf]
end
end Go.Proofs.YtkjdbndekceffaaGreat
namespace Go.Proofs.YtkjdbndekceffaaGreat
open Go.RowKit Go.Sort Go.Shelf Go.Lib Go.Maps
attribute [local irreducible] wpQuiet
attribute [local go_sem] Oper.fM
def lH (al:List Bool) (CB:List (List eX)) (m:Nat):List eX:=((CB.drop m).reverse.flatten).filter (dx al)
theorem Vo (al:List Bool) (CB:List (List eX)):lH al CB CB.length=[]:=by unfold lH;rw[List.drop_length];rfl
theorem QN (al:List Bool) (CB:List (List eX)) (k:Nat) (h:k<CB.length):lH al CB k=lH al CB (k+1)++CB[k].filter (dx al):=by
 unfold lH;rw[nP h,List.reverse_cons,lV,mU];simp
theorem Ib (al:List Bool) (CB:List (List eX)) (m:Nat):(lH al CB m).length<=CB.flatten.length:=by
 unfold lH;refine bO (gG _ _) ?_;rw[((wV (CB.drop m)).flatten).length_eq];have e3:(CB.take m).flatten++(CB.drop m).flatten=CB.flatten:=by rw[<-lV,lg]
 have:=congrArg List.length e3;rw[bF]at this;omega
section
variable {w w':World} {X S:Nat->Prop} {F:Nat->Nat->Prop} {Hb Cb mb:Nat} {cv tv av lv:Value} {ch:List De} {T:List (Option Nat)} {al:List Bool} {eY:List Int} {A:List eX} {N wk:Int} {A':List eX}
theorem ZT (h:jr w X Hb Cb mb cv tv av lv ch T al eY A N wk) (hw:pQ (ch.map (·.2.1)) al A' N):
  aO 213 #[ay Hb] w fun e w'=>∃v,e=.returned v/\w'.ownsRow w.heap.size 187 4 v (lH al (ch.map (·.2.1)) 0).length ((lH al (ch.map (·.2.1)) 0).flatMap l8)/\Below w.heap.size w w':=by
 have H:=ae h;have HW:=ae hw;have zO:=hw.levels;have qL:ch.length<=13:=by have:=zO.1;simpa using this
 have HLR:Hid (∀m,(lH al (ch.map (·.2.1)) m).length<=5000):=fun m=>bO (Ib _ _ _) zO.2.1;have CL:=ae (AP h.gq (by omega));obtain⟨-,-,c2,-⟩:=h.cell;clear h hw zO;go_enter Tryz.func213,Tryz.ntmps213
 go_wp2_with (go_at_call 141;refine CL.out.mono ?_;rintro e w2 ⟨rfl,hb2⟩;have fP:=ae hb2;clear hb2)
 go_loopw [4,3] (fun iv vv wr=>∃(m:Nat) (lw:Value),iv=.int .i64 ((m:Int)-1)/\lw=vv/\m<=ch.length/\Hid (wr.ownsRow w.heap.size 187 4 lw (lH al (ch.map (·.2.1)) m).length ((lH al (ch.map (·.2.1)) m).flatMap l8))/\Hid (Below w.heap.size w wr)) (fun iv _ _=>(intOf iv+1).toNat)
 case atStart=>exact⟨ch.length,_,by go_num,rfl,aG _,by have:=Vo al (ch.map (·.2.1));rw[cu]at this;rw[this];exact dL _ _ _ _,fP⟩
 case round=>
  obtain⟨m,lw,rfl,rfl,hm,HO,HB⟩:=hrel;rcases pI m with Dk|Dk
  .subst Dk;have hg0:¬(0:Int)<=((0:Nat):Int)-1:=by omega
   go_wp2_with fail
   go_ret;exact⟨_,rfl,HO.out,HB.out⟩
  .obtain⟨k,rfl⟩:∃k,m=k+1:=⟨m-1,by omega⟩;have KD:(((k+1:Nat):Int)-1)=(k:Int):=by omega
   rw[KD];have aoa:(0:Int)<=(k:Int):=by omega
   have hkc:k<(ch.map (·.2.1)).length:=by rw[cu];omega
   have HST:=ae (QN al (ch.map (·.2.1)) k hkc);have gU:k<ch.length:=by omega
   have hzl:ch[k].2.1.length<=5000:=by
    have:=HW.out.few k hkc;rwa [fZ]at this
   have HNI:Hid (∀x∈ch[k].2.1,∃k:Nat,x.2=(k:Int)/\k<al.length):=fun x hx=>HW.out.num (qR.2 ⟨_,dY.2 ⟨_,bW gU,rfl⟩,hx⟩);have Hr:=ae (H.out.below HB.out);have CB:=ae (AQ Hr.out.gq Hr.out.rows (by omega) k gU (by omega));obtain⟨-,-,c2,-⟩:=Hr.out.cell;rw[fZ]at HST;generalize ch[k].2.1=lk at*;have Mg:=HLR.out (k+1);generalize lH al (ch.map (·.2.1)) (k+1)=L at*;obtain⟨wo,ewo⟩:∃wo:World,wo=wr:=⟨_,rfl⟩;subst ewo;have hs3:=HB.out.size
   go_wp2_with fail
   refine CB.out.mono ?_;rintro e w3 ⟨v9,rfl,lG,hb3⟩;have Rt:=hb3.size;have jm:Hid (Below w.heap.size w w3):=HB.out.trans (hb3.mono hs3);have Uj:=ae (au HO.out hb3);have aiN:Hid (∀gb,v9.ownBlock=some gb->lw.ownBlock≠some gb):=fun gb e e2=>by
    have h1:=(lG.lt gb e).1;have h2:=(HO.out.lt gb e2).2;omega
   have HO9:=ae lG;obtain⟨a9,c9,e9,-,-,-⟩:=TN.aL lG;subst e9;clear lG hb3 CB c2
   go_wp2_with fail
   go_loopw [24,3] (fun jv vv wr=>∃(j:Nat) (lx:Value),jv=.int .i64 j/\lx=vv/\j<=lk.length/\Hid (wr.ownsRow w.heap.size 187 4 lx (L++(lk.take j).filter (dx al)).length ((L++(lk.take j).filter (dx al)).flatMap l8))/\Hid (wr.ownsRow wo.heap.size 187 4 (.slice a9 lk.length c9) lk.length (lk.flatMap l8))/\Hid (∀gb,Value.ownBlock (.slice a9 lk.length c9)=some gb->lx.ownBlock≠some gb)/\Hid (Below w.heap.size w wr)) (fun jv _ _=>lk.length-(intOf jv).toNat)
   case atStart=>exact⟨0,_,rfl,rfl,bC _,by rw[xg,I8,jD];exact Uj,HO9,aiN,jm⟩
   case round=>
    obtain⟨j,lx,rfl,rfl,hj,N8,Vp,FY,kJ⟩:=hrel;have Zw:=kJ.out.size;by_cases jl:j<lk.length
    .obtain⟨a8,c8,e8,-,-,hre⟩:=TN.aL Vp.out;injection e8 with e8 _ e9;subst e8 e9;obtain⟨b9,Gn,ea9,ahu,xY⟩:=hre.VX.get (by omega);have x0:=xY j jl 0 (by omega);have x1:=xY j jl 1 (by omega);have x2:=xY j jl 2 (by omega);have x3:=xY j jl 3 (by omega);simp only[l8,aT,aS,eG]at x0 x1 x2 x3;obtain⟨q,hq,NZ⟩:=HNI.out lk[j] (bW jl);have R4:=H.out.below kJ.out;obtain⟨la,lc,elv,-,-,hra⟩:=Rd.aL R4.dR;obtain⟨lb,lo,ela,Sl,hlc⟩:=hra.get (by omega);have za:=hlc q NZ;obtain⟨-,-,-,-,zc,-⟩:=R4.cell;have Nq:Hid (L++(lk.take (j+1)).filter (dx al)=(L++(lk.take j).filter (dx al))++(if al[q]=true then[lk[j]]else[])):=by
      show _=_;rw[fG jl,mU,<-ek];congr 1;unfold dx;rw[mV,hq];simp only[iF,dD NZ];cases al[q]<;>simp
     have hjt:(L++(lk.take j).filter (dx al)).length<=5000+5000:=by
      rw[bF];have h1:=gG (dx al) (lk.take j);have h2:(lk.take j).length<=lk.length:=by rw[eF];omega
      omega
     rw[hq]at x3;have HXP:=ae hq;clear xY hlc hq hra hre R4;generalize L++(lk.take j).filter (dx al)=L1 at*;generalize al[q]=bb at*;generalize lk[j]=x at*;obtain⟨⟨px,py,pd⟩,xk⟩:=x;simp only at x0 x1 x2 Nq HXP;obtain rfl:=HXP.out;clear HXP;subst ea9 ela elv;have LJ:(j:Int)<(lk.length:Int):=by omega
     have hqi:(q:Int)<(al.length:Int):=by omega
     have BA:Below wr.heap.size wr (wr.alloc (.cells #[ag px,ag py,aJ pd,ag q] 187)):=(aM _ _).alloc (aG _) _;have r0:(wr.alloc (.cells #[ag px,ag py,aJ pd,ag q] 187)).heap[wr.heap.size]? =some (.cells #[ag px,ag py,aJ pd,ag q] 187 (0,0)):=dE _ _;have HBS:Hid (w.heap.size<=(wr.alloc (.cells #[ag px,ag py,aJ pd,ag q] 187)).heap.size):=by show _<=_;simp;omega
     have za2:=(BA.cell (p:=(ah lb (lo+q))) (iD wr _ za)).trans za;have zc2:=(BA.cell (p:=(ah Hb 4)) (iD wr _ zc)).trans zc;have UT:=ae (N8.out.alloc (.cells #[ag px,ag py,aJ pd,ag q] 187));have Vq:=ae (Vp.out.alloc (.cells #[ag px,ag py,aJ pd,ag q] 187));have HBA:=ae (kJ.out.alloc Zw (.cells #[ag px,ag py,aJ pd,ag q] 187));clear Zw
     go_wp2_with fail
     generalize(wr.alloc (.cells #[ag px,ag py,aJ pd,ag q] 187))=wB at*;clear x0 x1 x2 x3 BA za zc;have e0:wB.cell? (ah wr.heap.size 0)=some (ag px):=by simp only[World.cell?,r0];rfl
     have e1:wB.cell? (ah wr.heap.size 1)=some (ag py):=by simp only[World.cell?,r0];rfl
     have e2:wB.cell? (ah wr.heap.size 2)=some (aJ pd):=by simp only[World.cell?,r0];rfl
     have e3:wB.cell? (ah wr.heap.size 3)=some (ag q):=by simp only[World.cell?,r0];rfl
     have h4:=aj (w:=wB) zc2;have h3:=aj (w:=wB) e3;have hz:=aj (w:=wB) za2;refine aF (fun W=>∃p:bg wB,W=p.W) [] [(0,false),(1,false),(2,false),(3,true),(4,false),(5,true),(6,false),(7,true)] (by kernel_rfl) (by kernel_rfl) (fun _ _ d _ _ h=>by cases d<;>exact h) ⟨⟨_,(aM _ _).drew⟩,rfl⟩ 0 rfl (by kernel_rfl) ?_;simp only[bG,bz,bA,bu,aS,aT,aU]
     repeat(refine aI (fun K hK=>?_);go_simp;first|(refine hK _ ?_;clear hK K)|(apply Exists.intro;refine⟨fun _=>?_,hK _ ?_⟩;rfl;clear hK K))
     refine aQ ?_;refine lZ (by kernel_rfl) ?_;clear h4 h3 hz;cases bb
     .rw[aP (by decide),jD]at Nq;go_wp2;go_roundw
      case rel=>exact⟨j+1,_,by go_num,rfl,by omega,by rw[Nq.out];exact UT.out.bP 1,Vq.out.bP 1,FY,HBA.out.drew⟩
      case measure=>simp[intOf];omega
     .rw[aR rfl]at Nq;have HOD:=ae (UT.out.bP 1);have f0:wB.drew.cell? (ah wr.heap.size 0)=some (ag px):=e0;have f1:wB.drew.cell? (ah wr.heap.size 1)=some (ag py):=e1;have f2:wB.drew.cell? (ah wr.heap.size 2)=some (aJ pd):=e2;have f3:wB.drew.cell? (ah wr.heap.size 3)=some (ag q):=e3
      go_wp2_with (at_builtin;go_loud (refine cz LH w.heap.size HOD.out [.int .i64 px,.int .i64 py,.int .u32 pd,.int .i64 q] rfl (by simp[Value.oneCell']) rfl _ _ rfl rfl _ (by first|rfl|(show aD wB.heap.size 1 1=_;simp)) (by unfold maxLen;omega) (by omega) HBS.out ?_;intro v' w6 hown' hg hblk))
      have b6:Below w.heap.size w w6:=HBA.out.drew.grown hg (by have:=HBS.out;exact this) (fun b e=>(HOD.out.lt b e).1);have aiQ:Hid (w6.ownsRow wo.heap.size 187 4 (.slice (some (ah b9 Gn)) lk.length c9) lk.length (lk.flatMap l8)):=by
       refine(Vq.out.bP 1).kept hg ?_;rcases Om (Value.ownBlock (.slice (some (ah b9 Gn)) lk.length c9))with h9|⟨gb,h9⟩
       .exact .inl h9
       .exact .inr (fun e=>FY.out gb h9 (e.symm.trans h9))
      have ZU:Hid (∀gb,Value.ownBlock (.slice (some (ah b9 Gn)) lk.length c9)=some gb->v'.ownBlock≠some gb):=fun gb e e2=>by
       have h1:=(Vq.out.lt gb e).2;rcases gm hblk with h9|⟨b,h9,h8⟩
       .exact FY.out gb e (h9.symm.trans e2)
       .rw[h9]at e2;injection e2 with e2;have h8':wB.heap.size<=b:=h8;omega
      go_roundw
      case rel=>exact⟨j+1,_,by go_num,rfl,by omega,by rw[Nq.out,bF,lW];exact hown',aiQ,ZU,b6⟩
      case measure=>simp[intOf];omega
    .obtain rfl:j=lk.length:=by omega
     rw[mW,<-HST.out]at N8;have hge:¬(lk.length:Int)<(lk.length:Int):=by omega
     go_wp2;go_roundw
     case rel=>exact⟨k,_,by go_num,rfl,by omega,N8,kJ⟩
     case measure=>simp[intOf]
end
theorem QO:∀args w,(callFunc 213 args).run Tryz.prog w=.ok (.enter 213 args) w:=dF Tryz.func213 (by kernel_rfl) rfl
theorem Nr {T:List (Option Nat)} {i tb:Nat}:(CJ T i tb)[i]? =some (some tb):=by
 unfold CJ;rw[wh (by simp;omega)]
theorem SA {T:List (Option Nat)} {i tb j:Nat} (h:j≠i) {x:Nat} (hj:T[j]? =some (some x)):(CJ T i tb)[j]? =some (some x):=by
 unfold CJ;have h1:=(gD.1 hj).1;rw[wD (fun e=>h e.symm),mP h1,hj]
theorem Ns {T:List (Option Nat)} {i tb n:Nat} (h:T.length<=n) (hi:i<n):(CJ T i tb).length<=n:=by
 unfold CJ;simp;omega
section
variable {w w':World} {X X' S Fn:Nat->Prop} {F:Nat->Nat->Prop} {Hb Cb mb:Nat} {cv tv av lv:Value} {ch:List De} {T T':List (Option Nat)} {al al':List Bool} {eY:List Int} {A:List eX} {N wk:Int} {CB CB':List (List eX)}
theorem pG.skip (h:pG w F X CB T al):pG w F X (CB++[[]]) T al:=by
 refine⟨fun j hj hne=>?_,h.off,h.ap,h.lt⟩;by_cases e:j<CB.length
 .rw[sN e]at hne |-;exact h.tr j e hne
 .rw[yt (by omega)]at hne;simp at hne
theorem pG.step (h:pG w F X CB T al) {i tb n0 m0 m:Nat} {l:List eX} (hB:Bk w Fn tb n0 (uI al' l)) (vE:n0<=l.length) (hc:∀(j:Nat) (hj:j<CB'.length),CB'[j]≠[]->(j=i/\CB'[j]=l)\/(j≠i/\∃hj':j<CB.length,CB'[j]=CB[j]/\(∀x,T[j]? =some (some x)->T'[j]? =some (some x))/\uI al' CB[j]=uI al CB[j]))
  (hT:T'[i]? =some (some tb)) (hX:∀k,X' k->X k\/(m0<=k/\k<m)) (hFn:∀k,Fn k->m<=k) (hFl:∀j k,F j k->k<m0) (hXm:∀k,X k->k<m) (hm:m0<=m):pG w (fun j k=>(j=i/\Fn k)\/(j≠i/\F j k)) X' CB' T' al':=by
 refine⟨fun j hj hne=>?_,?_,?_,?_⟩
 .rcases hc j hj hne with⟨rfl,e⟩|⟨h1,hj',e,h2,h3⟩
  .refine⟨tb,n0,hT,by rw[e];exact vE,?_⟩;have:(fun k=>(j=j/\Fn k)\/(j≠j/\F j k))=Fn:=by funext k;simp
   rw[this,e];exact hB
  .obtain⟨tb',n1,g1,g2,g3⟩:=h.tr j hj' (by rw[<-e];exact hne);refine⟨tb',n1,h2 _ g1,by rw[e];exact g2,?_⟩;have:(fun k=>(j=i/\Fn k)\/(j≠i/\F j k))=F j:=by funext k;simp[h1]
   rw[this,e,h3];exact g3
 .rintro j k (⟨rfl,hk⟩|⟨hj,hk⟩) hx
  .have h1:=hFn k hk;rcases hX k hx with h2|h2
   .have:=hXm k h2;omega
   .omega
  .rcases hX k hx with h2|h2
   .exact h.off j k hk h2
   .have:=hFl j k hk;omega
 .rintro j j' k (⟨rfl,hk⟩|⟨hj,hk⟩) (⟨rfl,Bo⟩|⟨hj',Bo⟩)
  .rfl
  .have h1:=hFn k hk;have h2:=hFl j' k Bo;omega
  .have h1:=hFn k Bo;have h2:=hFl j k hk;omega
  .exact h.ap j j' k hk Bo
 .rintro j k (⟨rfl,hk⟩|⟨hj,hk⟩)
  .exact hB.lt k hk
  .exact h.lt j k hk
def aoc (w:World) (X:Nat->Prop) (Hb Cb mb:Nat) (cv tv av lv:Value) (ch:List De) (al:List Bool) (A:List eX) (wk:Int) (e:Ending) (w':World):Prop:=
 e=.returned (ag A.length)/\∃(X':Nat->Prop) (F':Nat->Nat->Prop) (kW tv':Value) (iP:List De) (T':List (Option Nat)) (lev':List Int),jr w' X' Hb Cb mb kW tv' av lv iP T' al lev' A A.length (wrap64 (wk+(A.length:Int)))/\
  iP.map (·.2.1)=setC (Lib.bitLen A.length) (lH al (ch.map (·.2.1)) 0)/\pG w' F' X' (iP.map (·.2.1)) T' al/\pQ (iP.map (·.2.1)) al A A.length/\LvW (iP.map (·.2.1)) al lev'/\T'.length<=14/\(∀k,X' k->k<w'.heap.size/\(X k\/w.heap.size<=k))/\(∀i k,F' i k->w.heap.size<=k)/\
  aC (fun k=>k=Hb\/k=Cb\/cv.ownBlock=some k\/tv.ownBlock=some k\/lv.ownBlock=some k) w w'
theorem aeh (h:jr w X Hb Cb mb cv tv av lv ch T al eY A N wk) (hw:pQ (ch.map (·.2.1)) al A N) (hv:eY.length=al.length) (hX:∀k,X k->k<w.heap.size):
  aO 140 #[ay Hb] w (aoc w X Hb Cb mb cv tv av lv ch al A wk):=by
 have H:=ae h;have HX:=ae hX;obtain⟨hAN,hLA⟩:=hw.anew (L:=lH al (ch.map (·.2.1)) 0) (by unfold lH;rw[lI]);have HAN:=ae hAN;have zO:=hw.levels;have HLV:=ae hv;have CC:=ae (fun p:bg w=>ZT (h.below p.h) hw);obtain⟨-,-,c2,-⟩:=h.cell;have hL5:(lH al (ch.map (·.2.1)) 0).length<=5000:=bO (Ib _ _ _) zO.2.1;have xE:=zO.2.2.1;have g2:=aj c2;clear h hw hv hX hAN c2 zO;generalize hLL:lH al (ch.map (·.2.1)) 0=L at*;have KE:=ae hLL;have HLA:=ae hLA;clear hLL hLA;go_enter Tryz.func140,Tryz.ntmps140
 go_wp2_with fail
 refine aF (fun W=>∃p:bg w,W=p.W) [6,7] [(0,false),(1,false),(2,false),(3,true),(4,false)] (by kernel_rfl) (by kernel_rfl) (fun _ _ d _ _ h=>by cases d<;>exact h) ⟨⟨_,(aM _ _).drew⟩,rfl⟩ 3 rfl (by kernel_rfl) ?_;simp only[bG,bz,bA,bu,aS,aT,aU]
 repeat(refine aI (fun K hK=>?_);go_simp;first|(refine hK _ ?_;clear hK K)|(apply Exists.intro;refine⟨fun _=>?_,hK _ ?_⟩;rfl;clear hK K))
 refine aQ ?_;clear g2;refine az [5] (by kernel_rfl) (by simp) ?_;refine ak.cons rfl (fun K hK=>?_) ak.nil;refine bD QO rfl _ _ rfl (vals:=#[ay Hb]) rfl (CC.out ⟨_,(aM _ _).drew⟩) ?_;rintro e w2 ⟨v,rfl,hown,hb2⟩;obtain⟨va,vc,rfl,-,hvc,hre⟩:=TN.aL hown;have B2:Below w.heap.size w w2:=(aM _ _).drew.trans hb2;refine⟨_,rfl,?_⟩;refine hK _ _ (fun _ _=>⟨⟨_,B2⟩,rfl⟩) ?_;clear hK K;have H2:=ae (H.out.below B2);have fP:=ae B2;have CS:=ae (aiJ H2.out.gq (bC _) va L vc hre hvc (by omega));clear hown hb2 B2 CC hre;refine aK [6,7] _ _ _ (by kernel_rfl) ?_;simp only[pick,bz,bA,bu,aS,aT]
 go_wp2_with fail
 refine CS.out.mono ?_;rintro e w4 ⟨cv4,mO,wk4,rfl,Ic,BI,zG,Vr,hK4,hn4,aoe⟩;have hs2:=fP.out.size;have Rt:=hK4.size;have h4a:=H2.out.ZP (hK4.mono fun k h=>.inl h) Ic BI (Nw.nil hn4 (aG _)) (.inr Vr);have H4:Hid (jr w4 (fun k=>X k\/w.heap.size<=k/\k<w4.heap.size) Hb Cb mb cv4 tv av lv mO T al eY A L.length wk4):=h4a.more fun k hk=>by
  rcases hk with hk|⟨h1,h2⟩
  .exact .inl hk
  .refine .inr ⟨by omega,?_⟩;rcases h2 with h2|⟨x,hx,hne,a,ha,rfl⟩
   .exact(Ic.row.lt k h2).2
   .rcases(BI x hx).1 with h9|⟨b,off,cur,fr,ea,hb,-⟩
    .exact absurd h9 hne
    .rw[ha]at ea;injection ea with ea;rw[ea];exact(bn.1 hb).1
 have Gv:=ae zG;have HWK:=ae aoe;have xG:Hid (aC (fun k=>k=Cb) w w4):=((aC.refl (fun k=>k=Cb) w).below fP.out).trans hK4;have aEi:mO.length<=13:=by
  have h1:=congrArg List.length zG;rw[eD,cu]at h1;have h2:=fE (a:=L.length) (b:=5000) (by omega) (by decide);have h3:Lib.bitLen 5000<=13:=by decide
  omega
 have HA4:Hid (pQ (mO.map (·.2.1)) al A L.length):=by rw[zG];exact HAN.out
 have HZ4:Hid (∀(j:Nat) (hj:j<mO.length),mO[j].2.1.length<=5000):=fun j hj=>by
  have h1:=HA4.out.few j (by rw[cu];exact hj);rwa [fZ]at h1
 obtain⟨-,-,-,q3,-⟩:=H4.out.cell;have f3:=H4.out.frozen 3;have H5:Hid (jr (w4.setCell (ah Hb 3) (aN)) (fun k=>X k\/w.heap.size<=k/\k<w4.heap.size) Hb Cb mb cv4 (aN) av lv mO [] al eY A L.length wk4):=(H4.out.afw (tv':=aN) (T':=[]) (bV (aM _ _)|>fun h=>⟨h.os,h.tape,h.output,h.size,fun k hk _=>rfl⟩) (dL _ _ _ _) (by simp[Value.ownBlock])).more fun k hk=>hk.elim (fun h=>h) fun h=>by cases h
 have mo:Hid (aC (fun k=>k=Hb\/k=Cb) w (w4.setCell (ah Hb 3) (aN))):=(xG.out.mono fun k h=>.inr h).set (a:=(ah Hb 3)) _ (.inl (.inl rfl));have CL:=ae (AP H5.out.gq (by omega));obtain⟨-,-,r2,-⟩:=H5.out.cell;have hs5:(w4.setCell (ah Hb 3) (aN)).heap.size=w4.heap.size:=by simp
 have HS5:=ae hs5;clear Ic BI zG Vr hK4 hn4 aoe h4a CS hs5
 go_wp2_with fail
 generalize w4.setCell (ah Hb 3) (aN)=w5 at*;refine CL.out.mono ?_;rintro e w6 ⟨rfl,jR⟩;have H6:=ae (H5.out.below jR);have Xh:=jR.size;have lD:Hid (aC (fun k=>k=Hb\/k=Cb) w w6):=mo.out.below jR;have HS6:Hid (w4.heap.size<=w6.heap.size):=by have:=HS5.out;show _<=_;omega
 clear CL jR H5 mo q3 f3 r2 Xh
 go_wp2_with fail
 go_loopw [21] (fun iv wr=>∃(i:Nat) (Xr:Nat->Prop) (Fr:Nat->Nat->Prop) (tvr:Value) (Tr:List (Option Nat)) (J9:List Int),iv=.int .i64 i/\i<=mO.length/\Hid (jr wr Xr Hb Cb mb cv4 tvr av lv mO Tr al J9 A L.length wk4)/\Hid (pG wr Fr Xr ((mO.map (·.2.1)).take i) Tr al)/\Hid (∀(j:Nat) (hj:j<mO.length),j<i->∀c∈mO[j].2.1,J9[c.2.toNat]? =some (j:Int))/\Hid (J9.length=al.length)/\Hid (Tr.length<=i)/\
  Hid (∀k,Xr k->k<wr.heap.size/\(X k\/w.heap.size<=k))/\Hid (∀j k,Fr j k->w.heap.size<=k)/\Hid (tvr.ownBlock=none\/∃b,tvr.ownBlock=some b/\w.heap.size<=b)/\Hid (aC (fun k=>k=Hb\/k=Cb\/lv.ownBlock=some k) w wr)) (fun iv _=>mO.length-(intOf iv).toNat)
 case atStart=>exact⟨0,_,fun _ _=>False,_,[],eY,rfl,bC _,H6,⟨fun j hj=>absurd hj (by simp),fun _ _ h=>h.elim,fun _ _ _ h=>h.elim,fun _ _ h=>h.elim⟩,fun j _ hj=>absurd hj (ll _),HLV,bC _,fun k hk=>by
   have h1:=HS6.out;rcases hk with hk|hk
   .have:=HX.out k hk;have:=lD.out.size;exact⟨by omega,.inl hk⟩
   .exact⟨by omega,.inr hk.1⟩,fun _ _ h=>h.elim,.inl rfl,lD.out.mono fun k h=>h.imp id .inl⟩
 case round=>
  obtain⟨i,Xr,Fr,tvr,Tr,J9,rfl,hi,HC,HTR,HLU,ZV,HTL,GD,Ze,HTV,HK⟩:=hrel;have hwr:=HK.out.size;by_cases hlt:i<mO.length
  .have hz:=HZ4.out i hlt;have CBK:=ae (AQ HC.out.gq HC.out.rows (by omega) i hlt (by omega));have hmi:(mO.map (·.2.1))[i]? =some mO[i].2.1:=by rw[iO,dD hlt];rfl
   have HTK:Hid ((mO.map (·.2.1)).take (i+1)=(mO.map (·.2.1)).take i++[mO[i].2.1]):=by
    show _=_;rw[List.take_add_one,hmi];rfl
   have qK:=HA4.out.bk i (by rw[cu];exact hlt);rw[fZ]at qK;have uZ:=ae qK;have HCI:Hid (∀(j:Nat) (hj:j<mO.length),j=i->mO[j].2.1=mO[i].2.1):=fun j hj e=>by subst e;rfl
   have HAP:Hid (∀(j:Nat) (hj:j<mO.length),j≠i->∀c∈mO[j].2.1,∀d∈mO[i].2.1,d.2.toNat≠c.2.toNat):=fun j hj oK c hc d hd=>HA4.out.apart (i:=i) (j:=j) (by rw[cu];exact hlt) (by rw[cu];exact hj) (fun e=>oK e.symm) (by rw[fZ];exact hd) (by rw[fZ];exact hc);generalize mO[i].2.1=lk at*;obtain⟨-,-,c2,-⟩:=HC.out.cell;have OC:(i:Int)<(mO.length:Int):=by omega
   clear hmi qK;obtain⟨wo,ewo⟩:∃wo:World,wo=wr:=⟨_,rfl⟩;subst ewo
   go_wp2_with fail
   refine CBK.out.mono ?_;rintro e w3 ⟨v9,rfl,lG,hb3⟩;have hs3:=hb3.size;obtain⟨a9,c9,e9,-,-,ZW⟩:=TN.aL lG;subst e9;have H3:=ae (HC.out.below hb3);have HT3:=ae (HTR.out.kept (S:=fun _=>False) ((aC.refl _ _).below hb3) fun _ _ _ h=>h);have Gh:Hid (aC (fun k=>k=Hb\/k=Cb\/lv.ownBlock=some k) w w3):=HK.out.below hb3;have ZX:Hid (∀k,Xr k->k<w3.heap.size/\(X k\/w.heap.size<=k)):=fun k hk=>⟨bJ (GD.out k hk).1 hs3,(GD.out k hk).2⟩;have WZ:=ae ZW;clear lG hb3 ZW CBK c2;by_cases hlk:lk=[]
   .subst hlk;have hz0:¬(0:Int)<((([]:List eX).length:Nat):Int):=by simp
    go_wp2;go_roundw
    case rel=>exact⟨i+1,Xr,Fr,tvr,Tr,J9,by go_num,by omega,H3,by rw[HTK.out];exact HT3.out.skip,fun j hj oK c hc=>by
      by_cases e:j=i
      .rw[HCI.out j hj e]at hc;cases hc
      .exact HLU.out j hj (by omega) c hc,ZV,Nat.le_succ_of_le HTL.out,ZX,Ze,HTV,Gh⟩
    case measure=>simp[intOf];omega
   .have Ee:0<lk.length:=Dw.2 hlk;have hz0:(0:Int)<((lk.length:Nat):Int):=by omega
    have FL:=ae (Sz H3.out a9 c9 lk i WZ.out (by omega) (by have:=HTL.out;omega) hz uZ.out.2.2 ZV.out (by omega) uZ.out.1 uZ.out.2.1 (fun k hk=>(ZX.out k hk).1))
    go_wp2_with fail
    refine FL.out.mono ?_;rintro e w7 ⟨rfl,tv7,tb,m,Fn,Sq,hB7,hFn,hm7,aog,Ng⟩;have HR7:=ae Sq;have Cf:=ae hB7;have HFn:=ae hFn;have Ht:=ae hm7;have avu:=ae aog;have sw:=ae Ng;clear Sq hB7 hFn hm7 aog Ng FL;go_wp2;go_roundw
    case rel=>
     have jk:=HTL.out;obtain⟨hm7,hm8⟩:=Ht.out;have hFX:∀j k,Fr j k->¬(k=Hb\/tvr.ownBlock=some k\/lv.ownBlock=some k):=fun j k hk h9=>by
      refine HT3.out.off j k hk ?_;rcases h9 with rfl|h9|h9
      .exact H3.out.jJ.1
      .exact H3.out.jJ.2.2.2.2.1 k h9
      .exact H3.out.jJ.2.2.2.2.2.2 k h9
     have KQ:=(HT3.out.kept sw.out hFX).step (X':=fun k=>Xr k\/w3.heap.size<=k/\k<m) (i:=i) (m0:=w3.heap.size) (m:=m) (CB':=(mO.map (·.2.1)).take i++[lk]) (T':=CJ Tr i tb) Cf.out (by unfold uI;rw[cu];exact gG _ _) (fun j hj hne=>by
       have hli:((mO.map (·.2.1)).take i).length=i:=by rw[eF,cu];omega
       by_cases e:j=i
       .subst e;left;refine⟨rfl,?_⟩;rw[yt (by omega)];simp[hli]
       .right;have uU:j<i:=by rw[bF,hli]at hj;simp at hj;omega
        exact⟨e,by omega,sN (by omega),fun x hx=>SA e hx,rfl⟩) Nr (fun k hk=>hk) HFn.out (fun j k hk=>HT3.out.lt j k hk) (fun k hk=>bJ (ZX.out k hk).1 hm7) hm7
     have hs7:=sw.out.size;refine⟨i+1,_,_,tv7,CJ Tr i tb,iJ J9 lk i,by go_num,by omega,HR7,by rw[HTK.out];exact KQ,fun j hj oK c hc=>?_,by rw[ow];exact ZV.out,Ns (by omega) (by omega),fun k hk=>?_,fun j k hk=>?_,?_,aC.strip ((Gh.out.mono fun k h=>.inl h).trans (sw.out.mono fun k h=>?_))⟩
     .by_cases e:j=i
      .rw[HCI.out j hj e]at hc;rw[e];obtain⟨q,hq,NZ⟩:=uZ.out.2.2 c hc;exact Bi lk J9 i c hc (by have:=ZV.out;omega)
      .rw[rM lk J9 i _ (fun x hx=>HAP.out j hj e c hc x hx)];exact HLU.out j hj (by omega) c hc
     .rcases hk with hk|hk
      .exact⟨bJ (ZX.out k hk).1 hs7,(ZX.out k hk).2⟩
      .exact⟨by omega,.inr (by omega)⟩
     .rcases hk with⟨-,hk⟩|⟨-,hk⟩
      .have:=HFn.out k hk;omega
      .exact Ze.out j k hk
     .rcases avu.out with h9|⟨b,h9,h8⟩
      .rw[h9];exact HTV.out
      .exact .inr ⟨b,h9,by omega⟩
     .rcases h with h|h|h
      .exact .inl (.inl h)
      .rcases HTV.out with h9|⟨b,h9,h8⟩
       .rw[h9]at h;cases h
       .rw[h9]at h;injection h with h;exact .inr (by omega)
      .exact .inl (.inr (.inr h))
    case measure=>simp[intOf];omega
  .obtain rfl:i=mO.length:=by omega
   have hge:¬(mO.length:Int)<(mO.length:Int):=by omega
   rw[HLA.out]at HA4 HC HWK;have VV:(L.length:Int)=(A.length:Int):=by rw[HLA.out]
   go_wp2;go_ret;have htr:=HTR.out;rw[kZ (by simp)]at htr;refine⟨rfl,Xr,Fr,cv4,tvr,mO,Tr,J9,by rw[<-HWK.out];exact HC.out,by rw[Gv.out,HLA.out,KE.out],htr,HA4.out,⟨ZV.out,fun j hj c hc=>?_⟩,by have:=HTL.out;omega,GD.out,Ze.out,HK.out.mono fun k h=>?_⟩
   .rw[fZ]at hc;exact HLU.out j (by simpa using hj) (by simpa using hj) c hc
   .rcases h with h|h|h
    .exact .inl h
    .exact .inr (.inl h)
    .exact .inr (.inr (.inr (.inr h)))
end
end Go.Proofs.YtkjdbndekceffaaGreat
namespace Go.Proofs.YtkjdbndekceffaaGreat
open Go.RowKit Go.Maps
def pot (L:Nat):Nat->List Nat->Nat
 |_,[]=>0
 |i,s::l=>s*(L-1-i)+pot L (i+1) l
theorem Dp (L:Nat):∀(i:Nat) (a b:List Nat),pot L i (a++b)=pot L i a+pot L (i+a.length) b
 |i,[],b=>by simp[pot]
 |i,s::a,b=>by
  simp only[nT,pot,Dp L (i+1) a b,fU];rw[show i+1+a.length=i+(a.length+1) by omega];omega
theorem Nt (L:Nat):∀(i k:Nat),pot L i (List.replicate k 0)=0
 |_,0=>rfl
 |i,k+1=>by simp[List.replicate_succ,pot,Nt L (i+1) k]
theorem ZY (L:Nat):∀(i:Nat) (l:List Nat),pot L i l<=l.sum*(L-1)
 |_,[]=>by simp[pot]
 |i,s::l=>by
  have h1:=ZY L (i+1) l;have h2:=Nat.mul_le_mul_left s (show L-1-i<=L-1 by omega);simp only[pot,List.sum_cons,tX];omega
theorem Nu (L:Nat) (S:List Nat):∀(i:Nat),i<=L->i<=S.length->(∀(j:Nat) (h:j<S.length),j<i->S[j]=2^j)->2^i*(L-i)<=L+pot L 0 (S.take i)
 |0,_,_,_=>by simp
 |i+1,hi,hs,h=>by
  have ih:=Nu L S i (by omega) (by omega) fun j hj oK=>h j hj (by omega);have kE:i<S.length:=by omega
  rw[fG kE,Dp,eF,show min i S.length=i by omega,h i kE (by omega)];simp only[pot,lu,eG];rw[Nat.pow_succ];have e1:2^i*(L-i)=2^i*(L-1-i)+2^i:=by
   rw[show L-i=(L-1-i)+1 by omega,lK,lC]
  have e2:2^i*2*(L-(i+1))=2^i*(L-1-i)+2^i*(L-1-i):=by
   rw[show L-(i+1)=L-1-i by omega,Nat.mul_assoc,Nat.two_mul,lK]
  generalize 2^i*(L-1-i)=Q at*;generalize 2^i*(L-i)=R at*;generalize 2^i*2*(L-(i+1))=U at*;generalize 2^i=P at*;omega
def SC (CB:List (List eX)) (a:Nat) (wk:Int) (m:Nat):Prop:=0<=wk/\∀L,m<2^L->wk+(pot L 0 (CB.map List.length):Nat)+(L*(CB.flatten.length-a):Nat)<=(L*m:Nat)
theorem aei (CB:List (List eX)):CB.flatten.length=(CB.map List.length).sum:=by rw[IE]
theorem aej:SC [] 0 0 0:=⟨Int.le_refl _,fun L _=>by simp[pot]⟩
theorem SC.bound {CB:List (List eX)} {a m:Nat} {wk:Int} (h:SC CB a wk m) (hm:m<=5000):wk<=65000:=by
 have:=h.2 13 (by omega);have h2:(13*m:Nat)<=65000:=by omega
 omega
theorem SC.add {CB:List (List eX)} {a m:Nat} {wk:Int} (h:SC CB a wk m) (ha:a<=CB.flatten.length) (hN:CB.flatten.length<=m) (i:Nat) (hi:i<=CB.length) (hs:∀(j:Nat) (hj:j<CB.length),CB[j].length=0\/CB[j].length=2^j) (hne:∀j (hj:j<CB.length),j<i->CB[j]≠[]) (Hg:∀h:i<CB.length,CB[i]=[]) (x:eX):
  SC (kX CB i x) (a+1) (wk+((eu CB i).length+1:Nat)) (m+1):=by
 have afD:∀j (hj:j<CB.length),j<i->CB[j].length=2^j:=fun j hj oK=>by
  rcases hs j hj with h1|h1
  .exact absurd (jw h1) (hne j hj oK)
  .exact h1
 have hJ:=Bh CB i hi afD;have hP:=(vC CB i x Hg).length_eq;rw[fU]at hP;refine⟨by have:=h.1;omega,fun L hL=>?_⟩;have h1:=h.2 L (by omega);have hJ2:(eu CB i).length<=CB.flatten.length:=by
  rw[(jW CB i).length_eq];have e3:(CB.take i).flatten++(CB.drop i).flatten=CB.flatten:=by rw[<-lV,lg]
  have:=congrArg List.length e3;rw[bF]at this;omega
 have MM:i<L:=by
  rcases Nat.lt_or_ge i L with h9|h9
  .exact h9
  .have:=Iz (n:=2) (by decide) h9;omega
 have h2:=Nu L (CB.map List.length) i (by omega) (by simpa using hi) fun j hj oK=>by rw[fZ];exact afD j (by simpa using hj) oK
 have e1:(kX CB i x).map List.length=List.replicate i 0++2^i::(CB.map List.length).drop (i+1):=by
  unfold kX;rw[dh,IM,mY,Am];simp[hJ]
 have e2:pot L 0 (CB.map List.length)=pot L 0 ((CB.map List.length).take i)+pot L (i+1) ((CB.map List.length).drop (i+1)):=by
  have h3:CB.map List.length=(CB.map List.length).take i++(CB.map List.length).drop i:=(lg _ _).symm;have h4:((CB.map List.length).take i).length=i:=by rw[eF,cu];omega
  conv=>lhs;rw[h3,Dp,h4,lu]
  by_cases hic:i<CB.length
  .rw[nP (by simpa using hic)];simp[pot,Hg hic]
  .rw[rX (by simp;omega),rX (by simp;omega)];rfl
 have e3:pot L 0 ((kX CB i x).map List.length)=2^i*(L-1-i)+pot L (i+1) ((CB.map List.length).drop (i+1)):=by
  rw[e1,Dp,Nt,iN];simp[pot]
 have e4:2^i*(L-i)=2^i*(L-1-i)+2^i:=by
  rw[show L-i=(L-1-i)+1 by omega,lK,lC]
 rw[e3,hJ,hP,show CB.flatten.length+1-(a+1)=CB.flatten.length-a by omega,lK];rw[e2]at h1;omega
theorem SC.drop {CB:List (List eX)} {a m:Nat} {wk:Int} (h:SC CB (a+1) wk m) (ha:a+1<=CB.flatten.length):SC CB a wk (m+1):=by
 refine⟨h.1,fun L hL=>?_⟩;have h1:=h.2 L (by omega);rw[show CB.flatten.length-a=(CB.flatten.length-(a+1))+1 by omega,lK,lK];omega
theorem SC.anew {CB CB':List (List eX)} {a m:Nat} {wk:Int} (h:SC CB a wk m) (ha:2*a<=CB.flatten.length) (hc:CB'.flatten.length=a):SC CB' a (wk+a) m:=by
 refine⟨by have:=h.1;omega,fun L hL=>?_⟩;have h1:=h.2 L hL;have h2:=ZY L 0 (CB'.map List.length);rw[<-aei,hc]at h2;rw[hc,jS,Nat.mul_zero];have h3:L*a<=L*(CB.flatten.length-a):=Nat.mul_le_mul_left L (by omega);rcases pI L with h0|h0
 .subst h0;simp at hL;subst hL;simp at*;have:=h.1;have h5:=h.2 1 (by decide);simp at h5;omega
 .have e:a*(L-1)+a=L*a:=by
   rw[Ea L a]
   conv=>rhs;rw[show L=(L-1)+1 by omega,lK,lC]
  omega
end Go.Proofs.YtkjdbndekceffaaGreat
