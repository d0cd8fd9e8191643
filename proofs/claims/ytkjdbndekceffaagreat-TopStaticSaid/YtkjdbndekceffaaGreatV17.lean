/- A part of the proof; its text was made small by a program (no remarks, short names). -/
import Derived.Test.YtkjdbndekceffaaGreatV00
import Derived.Test.YtkjdbndekceffaaGreatV16
import Derived.Test.YtkjdbndekceffaaGreatV11
set_option linter.unusedSimpArgs false
set_option linter.unusedVariables false
set_option maxRecDepth 100000
set_option maxHeartbeats 16000000
namespace Go.Proofs.YtkjdbndekceffaaGreat
open Go.RowKit Go.Sort Go.Shelf Go.Lib Go.Maps
attribute [local irreducible] wpQuiet
attribute [local go_sem] Oper.fM
def lowMin (s:Option Pt):Option Pt->Option Pt
 |none=>s
 |some p=>match s with
  |none=>some p
  |some q=>if pO p q<0 then some p else some q
def vZ (l:List Pt) (x1 x2:Int):Option Pt:=(UX l x1 x2).head?
theorem aC.Kj {S:Nat->Prop} {w w':World} (K:aC S w w') {g:Nat} (hg:S g) (cs:Array Value):aC S w (w'.setRow g cs):=
 ⟨K.os,K.tape,K.output,by rw[setRow_size];exact K.size,fun k hk hn=>(setRow_other w' g k cs (fun e=>hn (e▸hg))).trans (K.block k hk hn)⟩
def Kk (s:Option Pt):Obj:=.cells #[.bool s.isSome] 4 (0,0)
theorem NI:∀args w,(callFunc 42 args).run Tryz.prog w=.ok (.enter 42 args) w:=dF Tryz.func42 (by kernel_rfl) rfl
theorem aaj:∀args w,(callFunc 70 args).run Tryz.prog w=.ok (.enter 70 args) w:=dF Tryz.func70 (by kernel_rfl) rfl
theorem ai8 {u:World} {F:Nat->Prop} {tb n0:Nat} {l:List Pt} (h:Bk u F tb n0 l) (x1 x2:Int) (s:Option Pt) {b0 b1 fb pb:Nat} (h0:u.cell? (ah b0 0)=some (ag x1)) (h1:u.cell? (ah b1 0)=some (ag x2)) (hf:u.heap[fb]? =some (Kk s)) (hp:u.heap[pb]? =some (Cy (s.getD (0,0,0)))) (hne:fb≠pb):
  aO 70 #[ay tb,ay b0,ay b1,ay fb,ay pb] u fun e u'=>∃t:Nat,e=.returned (ag t)/\t<=wL n0/\u'.heap[fb]? =some (Kk (lowMin s (vZ l x1 x2)))/\u'.heap[pb]? =some (Cy ((lowMin s (vZ l x1 x2)).getD (0,0,0)))/\aC (fun k=>k=fb\/k=pb) u u':=by
 obtain⟨lo,m0,m1,m2,m3,m4,hi,bx,cn,Ky,lw,ob,tl,sv,dn,h⟩:=h;have H:=ae h;have c0:u.cell? (ah tb 4)=some (ay lw):=by simp[World.cell?,h.blk]
 have CC:Hid (∀W,Below u.heap.size u W->aO 42 #[ay lw,ag x1,ag x2] W fun e w'=>(∃c:Nat,e=.returned (.tuple #[ku ((vZ l x1 x2).getD (0,0,0)).1 ((vZ l x1 x2).getD (0,0,0)).2.1 ((vZ l x1 x2).getD (0,0,0)).2.2,.bool (vZ l x1 x2).isSome,ag c])/\c<=wL n0)/\Below W.heap.size W w'):=fun W hW=>by
  refine(Sy (H.out.low.kept ((aC.refl (fun _=>False) u).below hW) (fun _ _ _ h=>h)) x1 x2).mono ?_;rintro e w' ⟨⟨p,hp,c,he,hc⟩,hb⟩;subst hp;exact⟨⟨c,he,hc⟩,hb⟩
 have gt:=aj c0;have g0:=aj h0;have g1:=aj h1;have hfu:=(bn.1 hf).1;have hpu:=(bn.1 hp).1;have HF:=ae hf;have HP:=ae hp;clear h c0 hf hp h0 h1;generalize vZ l x1 x2=r at*;go_enter Tryz.func70,Tryz.ntmps70
 go_upto_region 1 with fail
 go_cut [7,8,9]from 10 (fun v7 v8 v9 wx=>∃g c:Nat,v7=ay g/\v8=.bool r.isSome/\v9=.int .i64 c/\Hid (c<=wL n0)/\Hid (Below u.heap.size u wx)/\Hid (u.heap.size<=g)/\Hid (wx.heap[g]? =some (Cy (r.getD (0,0,0)))))
 case first=>
  refine aF (fun W=>∃p:bg u,W=p.W) [6,7,8,9,10,12,13,14] [(0,false),(1,false),(2,false),(3,true),(4,true),(5,true)] (by kernel_rfl) (by kernel_rfl) (fun _ _ d _ _ h=>by cases d<;>exact h) ⟨⟨_,(aM _ _).drew⟩,rfl⟩ 9 rfl (by kernel_rfl) ?_;simp only[bG,bz,bA,bu,aS,aT,aU]
  repeat(refine aI (fun K hK=>?_);go_simp;first|(refine hK _ ?_;clear hK K)|(apply Exists.intro;refine⟨fun _=>?_,hK _ ?_⟩;rfl;clear hK K))
  refine aQ ?_;have B0:Below u.heap.size u u.drew:=(aM _ _).drew;generalize u.drew=w0 at*;refine az [6,11] (by kernel_rfl) (by simp) ?_;refine ak.cons rfl (fun K hK=>?_) (ak.cons rfl (fun K hK=>?_) ak.nil)
  .refine bD NI rfl _ _ rfl (vals:=#[ay lw,ag x1,ag x2]) rfl (CC.out _ B0) ?_;rintro e w1 ⟨⟨c,rfl,hc⟩,hb1⟩;have B1:=B0.trans (hb1.mono B0.size);refine⟨_,rfl,?_⟩;refine hK _ _ (fun _ h=>absurd (by decide) h) ?_;clear hK K gt g0 g1 CC;have HC:=ae hc;refine cK [(7,false),(8,false),(9,false),(10,false)] (by kernel_rfl) (fun _ _ d _ _ h=>by cases d<;>exact h) ⟨⟨_,B1⟩,rfl⟩ (by kernel_rfl) (by kernel_rfl) rfl ?_;simp only[bG,bz,bA,bu,aS,aT,aU]
   repeat(refine aI (fun K hK=>?_);go_simp;first|(refine hK _ ?_;clear hK K)|(apply Exists.intro;refine⟨fun _=>?_,hK _ ?_⟩;rfl;clear hK K))
   refine aQ ?_;refine az [11] (by kernel_rfl) (by simp) ?_;refine ak.cons rfl (fun K hK=>?_) ak.nil;go_simp;obtain⟨w2,e2⟩:∃W,W=w1.alloc (.cells #[ag 0,ag 0,aJ 0] 29):=⟨_,rfl⟩;have X1:w2.heap[w1.heap.size]? =some (Cy (0,0,0)):=by rw[e2];exact dE w1 _
   have B2:Below u.heap.size u w2:=by rw[e2];exact B1.alloc B1.size _
   rw[<-e2];clear e2;refine hK _ _ (fun _ _=>⟨⟨_,B2⟩,rfl⟩) ?_;clear hK K;refine aK [12,13,14] _ _ _ (by kernel_rfl) ?_;simp only[pick,bz,bA,bu,aS,aT];have fP:=ae B2;have Jt:=ae X1;have hs1:=ae B1.size;clear B0 B1 B2 X1 hb1 hc;refine zX rfl 29 (.tmp 7) (.tmp 18) rfl rfl w1.heap.size #[ag (r.getD (0,0,0)).1,ag (r.getD (0,0,0)).2.1,aJ (r.getD (0,0,0)).2.2] rfl rfl _ _ Jt.out (by kernel_rfl) rfl (by simp[Value.oneCell']) ?_
   go_wp2_with fail
   go_meet;exact⟨_,c,rfl,rfl,rfl,HC,ae (below_setRow fP.out hs1.out _),hs1,ae (xy _ _ _ _ _ _ Jt.out)⟩
  .go_simp;obtain⟨w1,e1⟩:∃W,W=w0.alloc (.cells #[ag 0,ag 0,aJ 0] 29):=⟨_,rfl⟩;have X1:w1.heap[w0.heap.size]? =some (Cy (0,0,0)):=by rw[e1];exact dE w0 _
   have B1:Below u.heap.size u w1:=by rw[e1];exact B0.alloc B0.size _
   rw[<-e1];clear e1;refine hK _ _ (fun _ _=>⟨⟨_,B1⟩,rfl⟩) ?_;clear hK K;refine az [6] (by kernel_rfl) (by simp) ?_;refine ak.cons rfl (fun K hK=>?_) ak.nil;refine bD NI rfl _ _ rfl (vals:=#[ay lw,ag x1,ag x2]) rfl (CC.out _ B1) ?_;rintro e w2 ⟨⟨c,rfl,hc⟩,hb2⟩;have B2:=B1.trans (hb2.mono B1.size);have X2:=(hb2.block _ (bn.1 X1).1).trans X1;refine⟨_,rfl,?_⟩;refine hK _ _ (fun _ h=>absurd (by decide) h) ?_;clear hK K gt g0 g1 CC;have HC:=ae hc;refine je (fun _=>True) [12,13,14] (by kernel_rfl) ?_;refine cK [(7,false),(8,false),(9,false),(10,false)] (by kernel_rfl) (fun _ _ d _ _ h=>by cases d<;>exact h) trivial (by kernel_rfl) (by kernel_rfl) rfl ?_;simp only[bG,bz,bA,bu,aS,aT,aU]
   repeat(refine aI (fun K hK=>?_);go_simp;first|(refine hK _ ?_;clear hK K)|(apply Exists.intro;refine⟨fun _=>?_,hK _ ?_⟩;rfl;clear hK K))
   refine aQ ?_;refine aK [12,13,14] _ _ _ (by kernel_rfl) ?_;simp only[pick,bz,bA,bu,aS,aT];have fP:=ae B2;have Gg:=ae X2;have hs0:=ae B0.size;clear B0 B1 B2 X1 X2 hb2 hc;refine zX rfl 29 (.tmp 7) (.tmp 18) rfl rfl w0.heap.size #[ag (r.getD (0,0,0)).1,ag (r.getD (0,0,0)).2.1,aJ (r.getD (0,0,0)).2.2] rfl rfl _ _ Gg.out (by kernel_rfl) rfl (by simp[Value.oneCell']) ?_
   go_wp2_with fail
   go_meet;exact⟨_,c,rfl,rfl,rfl,HC,ae (below_setRow fP.out hs0.out _),hs0,ae (xy _ _ _ _ _ _ Gg.out)⟩
 case rest=>
  obtain⟨g,c,rfl,rfl,rfl,HC,HB,HG,HX⟩:=hcut;have F1:=(HB.out.block fb hfu).trans HF.out;have P1:=(HB.out.block pb hpu).trans HP.out;have Wt:=ae F1;have NR:=ae P1;have hu1:=HB.out.size;have HU1:=ae hu1;clear gt g0 g1 CC hu1;cases r with
  |none=>
   simp only[Option.isSome_none,lowMin,oQ]at*;clear F1 P1;go_wp2;go_ret;exact⟨c,rfl,HC.out,Wt.out,NR.out,((aC.refl (fun k=>k=fb\/k=pb) u).below HB.out)⟩
  |some p=>
   obtain⟨p1,p2,p3⟩:=p;simp only[Option.isSome_some,fV]at*;obtain⟨z0,z1,z2⟩:=jq HX.out;simp only at z0 z1 z2;cases s with
   |none=>
    have f0:wc.cell? (ah fb 0)=some (.bool false):=by simp[World.cell?,F1,Kk]
    have HS:=ae (xy wc pb _ #[ag p1,ag p2,aJ p3] _ _ NR.out);have HO:=ae ((setRow_other wc pb fb #[ag p1,ag p2,aJ p3] hne).trans Wt.out);have f1:(wc.setRow pb #[ag p1,ag p2,aJ p3]).cell? (ah fb 0)=some (.bool false):=by simp[World.cell?,HO.out,Kk]
    have f2:(wc.setRow pb #[ag p1,ag p2,aJ p3]).frozen? (ah fb 0)=false:=by simp[World.frozen?,HO.out,Kk]
    clear F1 P1
    go_wp2_with (refine zX rfl 29 (.tmp 4) (.tmp 32) rfl rfl pb #[ag p1,ag p2,aJ p3] rfl rfl _ _ NR.out (by kernel_rfl) rfl (by simp[Value.oneCell']) ?_)
    go_ret;refine⟨c,rfl,HC.out,?_,(aH (a:=(ah fb 0)) hne).trans HS.out,(((aC.refl (fun k=>k=fb\/k=pb) u).below HB.out).Kj (.inr rfl) _).set (a:=(ah fb 0)) _ (.inl (show fb=fb\/fb=pb from .inl rfl))⟩;rw[dH _ fb 0 _ _ _ HO.out];rfl
   |some q=>
    have f0:wc.cell? (ah fb 0)=some (.bool true):=by simp[World.cell?,F1,Kk]
    obtain⟨q1,q2,q3⟩:=q;obtain⟨y0,y1,y2⟩:=jq NR.out;simp only[fV]at y0 y1 y2;have CB:=ae (Zg (p1,p2,p3) (q1,q2,q3) wc);generalize ho:pO (p1,p2,p3) (q1,q2,q3)=od at*;have HOD:=ae ho;clear ho F1 P1;by_cases hlt:od<0
    .have hd:decide (od<0)=true:=Aj hlt;have e9:lowMin (some (q1,q2,q3)) (some (p1,p2,p3))=some (p1,p2,p3):=by simp only[lowMin];rw[HOD.out,aR hlt]
     have E9:=ae e9;clear e9
     go_wp2_with (first|(go_at_call 71;refine CB.out.mono ?_;rintro e w2 ⟨rfl,hb2⟩;obtain⟨z0,z1,z2⟩:=jq ((hb2.block g (bn.1 HX.out).1).trans HX.out);simp only at z0 z1 z2;have fP:=ae (HB.out.trans (hb2.mono HB.out.size));have V5:=ae ((bI hb2 NR.out).trans NR.out);have BR:=ae ((bI hb2 Wt.out).trans Wt.out);have HO:=ae ((setRow_other w2 pb fb #[ag p1,ag p2,aJ p3] hne).trans BR.out);have f1:(w2.setRow pb #[ag p1,ag p2,aJ p3]).cell? (ah fb 0)=some (.bool true):=(by simp[World.cell?,HO.out,Kk]);have f2:(w2.setRow pb #[ag p1,ag p2,aJ p3]).frozen? (ah fb 0)=false:=(by simp[World.frozen?,HO.out,Kk]);clear hb2)|(refine zX rfl 29 (.tmp 4) (.tmp 32) rfl rfl pb #[ag p1,ag p2,aJ p3] rfl rfl _ _ V5.out (by kernel_rfl) rfl (by simp[Value.oneCell']) ?_))
     go_ret;rw[E9.out];refine⟨c,rfl,HC.out,?_,(aH (a:=(ah fb 0)) hne).trans (xy _ _ _ _ _ _ V5.out),(((aC.refl (fun k=>k=fb\/k=pb) u).below fP.out).Kj (.inr rfl) _).set (a:=(ah fb 0)) _ (.inl (show fb=fb\/fb=pb from .inl rfl))⟩;rw[dH _ fb 0 _ _ _ HO.out];rfl
    .have hd:decide (od<0)=false:=I5 hlt;have e9:lowMin (some (q1,q2,q3)) (some (p1,p2,p3))=some (q1,q2,q3):=by simp only[lowMin];rw[HOD.out,aP hlt]
     have E9:=ae e9;clear e9
     go_wp2_with (go_at_call 71;refine CB.out.mono ?_;rintro e w2 ⟨rfl,hb2⟩;have fP:=ae (HB.out.trans (hb2.mono HB.out.size));have V5:=ae ((bI hb2 NR.out).trans NR.out);have BR:=ae ((bI hb2 Wt.out).trans Wt.out);clear hb2)
     go_ret;rw[E9.out];exact⟨c,rfl,HC.out,BR.out,V5.out,((aC.refl (fun k=>k=fb\/k=pb) u).below fP.out)⟩
def F4 (x1 x2:Int) (l:List Pt):Option Pt->Prop
 |none=>∀p∈l,CG x1 x2 p=false
 |some p=>p∈l/\CG x1 x2 p=true/\∀q∈l,CG x1 x2 q=true->¬vN q p
theorem SN (l:List Pt) (x1 x2:Int):F4 x1 x2 l (vZ l x1 x2):=by
 have hp:=jo (l.filter (CG x1 x2));have hs:(kY (l.filter (CG x1 x2))).Pairwise fun p q=>Wd p q=true:=BM (le:=Wd) (fun p q r hpq hqr=>by simp only[Wd,qf,iE]at*;unfold vN at*;omega) (fun p q=>by simp only[Wd,DU,qf,iE];unfold vN;omega) _;unfold vZ UX;generalize kY (l.filter (CG x1 x2))=S at*;cases S with
 |nil=>
  intro p hpl;cases h:CG x1 x2 p with
  |false=>rfl
  |true=>exact absurd (hp.mem_iff.2 (bQ.2 ⟨hpl,h⟩)) jC
 |cons p T=>
  have h1:=bQ.1 (hp.mem_iff.1 sQ);refine⟨h1.1,h1.2,fun q hq hqx h=>?_⟩;rcases mZ.1 (hp.mem_iff.2 (bQ.2 ⟨hq,hqx⟩))with rfl|h2
  .exact yF _ h
  .have h3:=(wR.1 hs).1 q h2;unfold Wd at h3;simp[h]at h3
theorem VJ {x1 x2:Int} {l k:List Pt} {s r:Option Pt} (h1:F4 x1 x2 l s) (h2:F4 x1 x2 k r):F4 x1 x2 (l++k) (lowMin s r):=by
 cases r with
 |none=>
  cases s with
  |none=>exact fun p hp=>(df.1 hp).elim (h1 p) (h2 p)
  |some q=>exact⟨df.2 (.inl h1.1),h1.2.1,fun p hp hx=>(df.1 hp).elim (fun h=>h1.2.2 p h hx) (fun h=>absurd hx (by rw[h2 p h];simp))⟩
 |some p=>
  cases s with
  |none=>exact⟨df.2 (.inr h2.1),h2.2.1,fun q hq hx=>(df.1 hq).elim (fun h=>absurd hx (by rw[h1 q h];simp)) (fun h=>h2.2.2 q h hx)⟩
  |some q=>
   simp only[lowMin];by_cases ho:pO p q<0
   .rw[aR ho];rw[rF]at ho;refine⟨df.2 (.inr h2.1),h2.2.1,fun t ht hx=>(df.1 ht).elim (fun h h9=>h1.2.2 t h hx (uX h9 ho)) (fun h=>h2.2.2 t h hx)⟩
   .rw[aP ho];rw[rF]at ho;refine⟨df.2 (.inl h1.1),h1.2.1,fun t ht hx=>(df.1 ht).elim (fun h=>h1.2.2 t h hx) (fun h h9=>?_)⟩;have:=h2.2.2 t h hx;unfold vN at*;omega
theorem VK {x1 x2:Int} {l k:List Pt} (hp:k.Perm l) (hu:(ids l).Nodup) {s r:Option Pt} (h1:F4 x1 x2 l s) (h2:F4 x1 x2 k r):s=r:=by
 cases s with
 |none=>
  cases r with
  |none=>rfl
  |some p=>exact absurd h2.2.1 (by rw[h1 p (hp.mem_iff.1 h2.1)];simp)
 |some q=>
  cases r with
  |none=>exact absurd h1.2.1 (by rw[h2 q (hp.mem_iff.2 h1.1)];simp)
  |some p=>
   have e1:=h1.2.2 p (hp.mem_iff.1 h2.1) h2.2.1;have e2:=h2.2.2 q (hp.mem_iff.2 h1.1) h1.2.1;rw[ab7 hu h1.1 (hp.mem_iff.1 h2.1) (by unfold vN at*;omega)]
def VM (B:List (Nat×Nat×List Pt)) (x1 x2:Int):Nat->Option Pt
 |0=>none
 |i+1=>lowMin (VM B x1 x2 i) (vZ (fT B i) x1 x2)
theorem SQ (B:List (Nat×Nat×List Pt)) (x1 x2:Int):∀i,F4 x1 x2 ((List.range i).flatMap (fT B)) (VM B x1 x2 i)
 |0=>fun p hp=>by simp at hp
 |i+1=>by
  rw[Ai,lW];have e:[i].flatMap (fT B)=fT B i:=by simp
  rw[e];exact VJ (SQ B x1 x2 i) (SN _ _ _)
theorem NJ {B:List (Nat×Nat×List Pt)} {now:List Pt} (hp:(CK B).Perm now) (hu:(ids now).Nodup) (x1 x2:Int):VM B x1 x2 B.length=vZ now x1 x2:=by
 have h1:=SQ B x1 x2 B.length;rw[show(List.range B.length).flatMap (fT B)=CK B from Ii B fun l=>l]at h1;exact(VK hp hu (SN now x1 x2) h1).symm
section
variable {w w1:World} {Pb m:Nat} {G GH:Nat->Prop} {now:List Pt} {A:List eX} {N wk jF:Int}
def ao2 (w:World) (Pb:Nat) (G:Nat->Prop) (m:Nat) (now:List Pt) (N wk jF:Int) (o:Option Pt) (e:Ending) (w':World):Prop:=
 ∃jX:Nat,e=.returned (.tuple #[ku (o.getD (0,0,0)).1 (o.getD (0,0,0)).2.1 (o.getD (0,0,0)).2.2,.bool o.isSome,ag jX])/\Ik N 0 jX/\aC (fun k=>k=Pb) w w'/\ji w' Pb G m now N wk (wrap64 (jF+jX))
def BK (w:World) (x1 x2:Int):World:=((((w.alloc (.cells #[ag x1] 2)).alloc (.cells #[ag x2] 2)).alloc (.cells #[ag 0,ag 0,aJ 0] 29)).alloc (.cells #[ag 0,ag 0,aJ 0] 29)).alloc (.cells #[.bool false] 4)
theorem Q0 (w:World) (x1 x2:Int):Below w.heap.size w (BK w x1 x2)/\(BK w x1 x2).heap.size=w.heap.size+5/\(BK w x1 x2).heap[w.heap.size]? =some (.cells #[ag x1] 2 (0,0))/\(BK w x1 x2).heap[w.heap.size+1]? =some (.cells #[ag x2] 2 (0,0))/\
  (BK w x1 x2).heap[w.heap.size+1+1]? =some (Cy (0,0,0))/\(BK w x1 x2).heap[w.heap.size+1+1+1]? =some (Cy (0,0,0))/\(BK w x1 x2).heap[w.heap.size+1+1+1+1]? =some (Kk none):=by
 obtain⟨w5,e5⟩:∃W,W=BK w x1 x2:=⟨_,rfl⟩;rw[<-e5];unfold BK at e5;have bw:Below w.heap.size w w5:=by
  rw[e5];exact(((((aM _ _).alloc (aG _) _).alloc (by simp) _).alloc (by simp<;>omega) _).alloc (by simp<;>omega) _).alloc (by simp<;>omega) _
 have sz:w5.heap.size=w.heap.size+5:=by rw[e5];simp
 have o0:w5.heap[w.heap.size]? =some (.cells #[ag x1] 2 (0,0)):=by
  rw[e5];exact(dB _ _ _ (by simp<;>omega)).trans ((dB _ _ _ (by simp<;>omega)).trans ((dB _ _ _ (by simp<;>omega)).trans ((dB _ _ _ (by simp)).trans (dE w _))))
 have o1:w5.heap[w.heap.size+1]? =some (.cells #[ag x2] 2 (0,0)):=by
  rw[e5];exact(dB _ _ _ (by simp<;>omega)).trans ((dB _ _ _ (by simp<;>omega)).trans ((dB _ _ _ (by simp)).trans (Jb w (.cells #[ag x1] 2) (.cells #[ag x2] 2))))
 have o2:w5.heap[w.heap.size+1+1]? =some (Cy (0,0,0)):=by
  rw[e5];exact(dB _ _ _ (by simp<;>omega)).trans ((dB _ _ _ (by simp)).trans (by have:=dE ((w.alloc (.cells #[ag x1] 2)).alloc (.cells #[ag x2] 2)) (.cells #[ag 0,ag 0,aJ 0] 29);rwa [show((w.alloc (.cells #[ag x1] 2)).alloc (.cells #[ag x2] 2)).heap.size=w.heap.size+1+1 by simp]at this))
 have o3:w5.heap[w.heap.size+1+1+1]? =some (Cy (0,0,0)):=by
  rw[e5];exact(dB _ _ _ (by simp)).trans (by have:=dE (((w.alloc (.cells #[ag x1] 2)).alloc (.cells #[ag x2] 2)).alloc (.cells #[ag 0,ag 0,aJ 0] 29)) (.cells #[ag 0,ag 0,aJ 0] 29);rwa [show(((w.alloc (.cells #[ag x1] 2)).alloc (.cells #[ag x2] 2)).alloc (.cells #[ag 0,ag 0,aJ 0] 29)).heap.size=w.heap.size+1+1+1 by simp]at this)
 have o4:w5.heap[w.heap.size+1+1+1+1]? =some (Kk none):=by
  rw[e5];have:=dE ((((w.alloc (.cells #[ag x1] 2)).alloc (.cells #[ag x2] 2)).alloc (.cells #[ag 0,ag 0,aJ 0] 29)).alloc (.cells #[ag 0,ag 0,aJ 0] 29)) (.cells #[.bool false] 4);rwa [show((((w.alloc (.cells #[ag x1] 2)).alloc (.cells #[ag x2] 2)).alloc (.cells #[ag 0,ag 0,aJ 0] 29)).alloc (.cells #[ag 0,ag 0,aJ 0] 29)).heap.size=w.heap.size+1+1+1+1 by simp]at this
 exact⟨bw,sz,o0,o1,o2,o3,o4⟩
theorem aak {w:World} {v:Value} (x1 x2:Int) (Q:Option Pt->Nat->World->Prop)
  (hc:aO 69 #[v,.func (.func 70) #[] #[ay w.heap.size,ay (w.heap.size+1),ay (w.heap.size+1+1+1+1),ay (w.heap.size+1+1+1)]] (BK w x1 x2) fun e w9=>∃(r:Option Pt) (jX:Nat),e=.returned (ag jX)/\w9.heap[w.heap.size+1+1+1+1]? =some (Kk r)/\w9.heap[w.heap.size+1+1+1]? =some (Cy (r.getD (0,0,0)))/\w9.heap[w.heap.size+1+1]? =some (Cy (0,0,0))/\Q r jX w9):
  aO 20 #[v,ag x1,ag x2] w fun e w'=>∃(r:Option Pt) (jX:Nat) (u:World),e=.returned (.tuple #[ku (r.getD (0,0,0)).1 (r.getD (0,0,0)).2.1 (r.getD (0,0,0)).2.2,.bool r.isSome,ag jX])/\Q r jX u/\w'=u.drew.setRow (w.heap.size+1+1) #[ag (r.getD (0,0,0)).1,ag (r.getD (0,0,0)).2.1,aJ (r.getD (0,0,0)).2.2]:=by
 have CE:=ae hc;have E5:Hid (((((w.alloc (.cells #[ag x1] 2)).alloc (.cells #[ag x2] 2)).alloc (.cells #[ag 0,ag 0,aJ 0] 29)).alloc (.cells #[ag 0,ag 0,aJ 0] 29)).alloc (.cells #[.bool false] 4)=BK w x1 x2):=rfl;clear hc;go_enter Tryz.func20,Tryz.ntmps20
 go_upto_region 3 with fail
 rw[E5.out];clear E5
 go_wp2_with fail
 refine CE.out.mono ?_;rintro e w9 ⟨r,jX,rfl,hf,hp,hg,hQ⟩;have HF:=ae hf;have HP:=ae hp;have HO:=ae hg;have HQ:=ae hQ;clear hf hp hg hQ CE
 go_upto_region 4 with fail
 generalize vS:w.heap.size+1+1+1+1=fb at*;generalize Ky:w.heap.size+1+1+1=pb at*;generalize hgb:w.heap.size+1+1=gb at*;have HW:=ae (show gb<pb/\pb<fb from by omega);have HGB:=ae hgb;clear vS Ky hgb;have gP:∀p:kC (fun W:World=>W.heap[fb]? =some (Kk r)/\W.heap[pb]? =some (Cy (r.getD (0,0,0)))),p.W.cell? (ah pb 0)=some (ag (r.getD (0,0,0)).1):=fun p=>(jq p.h.2).1;have gQ:∀p:kC (fun W:World=>W.heap[fb]? =some (Kk r)/\W.heap[pb]? =some (Cy (r.getD (0,0,0)))),p.W.cell? (ah pb 1)=some (ag (r.getD (0,0,0)).2.1):=fun p=>(jq p.h.2).2.1;have gR:∀p:kC (fun W:World=>W.heap[fb]? =some (Kk r)/\W.heap[pb]? =some (Cy (r.getD (0,0,0)))),p.W.cell? (ah pb 2)=some (aJ (r.getD (0,0,0)).2.2):=fun p=>(jq p.h.2).2.2;have gF:∀p:kC (fun W:World=>W.heap[fb]? =some (Kk r)/\W.heap[pb]? =some (Cy (r.getD (0,0,0)))),p.W.cell? (ah fb 0)=some (.bool r.isSome):=fun p=>by simp[World.cell?,p.h.1,Kk]
 refine aF (fun W=>∃p:kC (fun W:World=>W.heap[fb]? =some (Kk r)/\W.heap[pb]? =some (Cy (r.getD (0,0,0)))),W=p.W) [4,5] [(0,true),(1,true),(2,false)] (by kernel_rfl) (by kernel_rfl) (fun _ _ d _ _ h=>by cases d<;>exact h) ⟨⟨w9.drew,⟨HF.out,HP.out⟩⟩,rfl⟩ 3 rfl (by kernel_rfl) ?_;simp only[bG,bz,bA,bu,aS,aT,aU]
 repeat(refine aI (fun K hK=>?_);go_simp;first|(refine hK _ ?_;clear hK K)|(apply Exists.intro;refine⟨fun _=>?_,hK _ ?_⟩;rfl;clear hK K))
 refine aQ ?_;clear gP gQ gR gF;have XG:w9.drew.heap[gb]? =some (Cy (0,0,0)):=HO.out;refine az [3] (by kernel_rfl) (by simp) ?_;refine ak.cons rfl (fun K hK=>?_) ak.nil;rw[aR (by simp[Region.wanted])];refine wp_store_row 29 (.tmp 6) (.tmp 15) rfl gb #[ag (r.getD (0,0,0)).1,ag (r.getD (0,0,0)).2.1,aJ (r.getD (0,0,0)).2.2] rfl rfl _ _ XG (by kernel_rfl) rfl (by simp[Value.oneCell']) ?_;have hw9:=HW.out;refine hK _ _ (fun _ _=>⟨⟨w9.drew.setRow gb #[ag (r.getD (0,0,0)).1,ag (r.getD (0,0,0)).2.1,aJ (r.getD (0,0,0)).2.2],(setRow_other w9.drew gb fb _ (by omega)).trans HF.out,(setRow_other w9.drew gb pb _ (by omega)).trans HP.out⟩,rfl⟩) ?_;clear hK K;have Wt:=ae (xy w9.drew gb _ #[ag (r.getD (0,0,0)).1,ag (r.getD (0,0,0)).2.1,aJ (r.getD (0,0,0)).2.2] _ _ XG);refine aK [4,5] _ _ _ (by kernel_rfl) ?_;simp only[pick,bz,bA,bu,aS,aT];clear XG hw9
 go_wp2_with fail
 refine ng (pX rfl _ _ gb _ _ _ _ (.bool r.isSome) (.int .i64 (jX:Nat)) rfl rfl rfl Wt.out wU rfl (by kernel_rfl)) rfl ?_;exact⟨r,jX,w9,rfl,HQ.out,by rw[HGB.out]⟩
theorem aal (h:ji w Pb G m now N wk jF) (x1 x2:Int):aO 20 #[ay Pb,ag x1,ag x2] w (ao2 w Pb G m now N wk jF (vZ now x1 x2)):=by
 obtain⟨bw,sz,o0,o1,o2,o3,o4⟩:=Q0 w x1 x2;obtain⟨Hb,Ab,base,av,GH,SD,A,D,ALL,h0,rfl,h3⟩:=h;have h1:=h0.kept (S:=fun _=>False) ((aC.refl _ _).below bw) fun _ _ h=>h;have hf:=h1.half.facts;have hPw:Pb<w.heap.size:=(bn.1 h0.blk).1;have CE:=(SF (fn:=70) (Sx:=fun k=>k=w.heap.size+1+1+1+1\/k=w.heap.size+1+1+1) (cs:=#[ay w.heap.size,ay (w.heap.size+1),ay (w.heap.size+1+1+1+1),ay (w.heap.size+1+1+1)]) (Q:=fun B jX u=>u.heap[w.heap.size+1+1+1+1]? =some (Kk (vZ (A.map (·.1)) x1 x2))/\u.heap[w.heap.size+1+1+1]? =some (Cy ((vZ (A.map (·.1)) x1 x2).getD (0,0,0)))/\Ik N 0 jX) aaj h1.blk h1.half (fun k hk=>by omega) (fun w1 B F hb hW Ck Vz vE h13=>by
  have T:Kb (BK w x1 x2) w1 GH A N B F:=⟨hb,hW,Ck,Vz,vE,h13⟩;have hs1:=hb.size;have a4:=(bI hb o4).trans o4;have a3:=(bI hb o3).trans o3;have a1:=(bI hb o1).trans o1;have a0:=(bI hb o0).trans o0;have zA:∀i t,(t<=wL (j5 B i)/\j5 B i<=20000)->t<=1000000:=fun i t ht=>by
   have h5:Lib.bitLen (j5 B i)<=15:=bitLen_le (tq ht.2 (by decide)) ht.2;have h6:=ht.1;unfold wL at h6;omega
  refine⟨fun i n u=>SumB (fun i t=>t<=wL (j5 B i)/\j5 B i<=20000) i n/\u.heap[w.heap.size+1+1+1+1]? =some (Kk (VM B x1 x2 i))/\u.heap[w.heap.size+1+1+1]? =some (Cy ((VM B x1 x2 i).getD (0,0,0)))/\aC (fun k=>k=w.heap.size+1+1+1+1\/k=w.heap.size+1+1+1) w1 u,⟨rfl,a4,a3,aC.refl _ _⟩,fun i n u hI=>hI.2.2.2,fun i n u hI=>hI.1.le zA,fun i n hi u hI=>?_,fun n u hI=>?_⟩
  .obtain⟨aad,Yt,hp3,hK⟩:=hI;have b0:=bL hK a0 (by omega);have b1:=bL hK a1 (by omega);refine(ai8 ((hW.kept hK fun k hk e=>by have:=(h0.uS.1 k hk).2.2.2;omega).at hi) x1 x2 (VM B x1 x2 i) (by simp only[World.cell?,b0];rfl) (by simp only[World.cell?,b1];rfl) Yt hp3 (by omega)).mono ?_;rintro e u' ⟨t,rfl,ht,hf',KU,hK'⟩;refine⟨t,rfl,⟨n,t,aad,⟨ht,?_⟩,rfl⟩,hf',KU,hK.trans hK'⟩;unfold j5;rw[dD hi];exact(T.built _ (bW hi)).2
  .refine⟨by rw[<-NJ Ck hf.2.2.2.1];exact hI.2.1,by rw[<-NJ Ck hf.2.2.2.1];exact hI.2.2.1,?_⟩;have h4:=T.cost (r:=fun _=>0) (fun i t ht=>⟨bC _,by have:=ht.1;unfold wL at this;omega⟩) hI.1;have h5:((List.range B.length).map fun _=>0).sum=0:=by have:=SG (r:=fun _=>0) (b:=0) (fun _=>aG _) B.length;omega
   rwa [h5]at h4))
 have Jy:∀k,GH k\/SD k\/k=Pb\/av.ownBlock=some k->k<w.heap.size:=fun k hk=>by
  rcases hk with hk|hk|hk|hk
  .exact(h0.uS.1 k hk).2.2.2
  .exact(h0.uS.2.1 k hk).2.2
  .omega
  .exact(h0.row.lt k hk).2
 have KW:aC (fun k=>k=Pb) w (BK w x1 x2):=(aC.refl _ _).below bw;refine(aak x1 x2 (fun r jX u=>r=vZ (A.map (·.1)) x1 x2/\Ik N 0 jX/\aC (fun k=>k=Pb) w u/\NG u Pb Hb Ab base av GH SD m A D ALL N wk (wrap64 (jF+(jX:Int)))) (CE.mono ?_)).mono ?_
 .rintro e w9 ⟨B,jX,u,rfl,⟨Yt,hp3,hc⟩,hK,rfl⟩;have hTu:=bL hK h1.blk (by omega);have hT9:(u.setCell (ah Pb 3) (.int .i64 (wrap64 (jF+(jX:Int))))).heap[Pb]? =some (Obj.cells #[ay Hb,ay Ab,av,ag (wrap64 (jF+(jX:Int)))] F3 (0,0)):=by
   rw[dH u Pb 3 _ _ _ hTu];rfl
  exact⟨_,jX,rfl,(aH (a:=(ah Pb 3)) (fun e:Pb=w.heap.size+1+1+1+1=>by omega)).trans Yt,(aH (a:=(ah Pb 3)) (fun e:Pb=w.heap.size+1+1+1=>by omega)).trans hp3,(aH (a:=(ah Pb 3)) (fun e:Pb=w.heap.size+1+1=>by omega)).trans (bL hK o2 (by omega)),rfl,hc,
   aC.strip (((KW.mono fun k h=>.inl h).trans (hK.mono fun k h=>.inr (by omega))).set (a:=(ah Pb 3)) (.int .i64 (wrap64 (jF+(jX:Int)))) (.inl (.inl rfl))),
   (h1.kept hK fun k hk=>by have h0:=Jy k hk;omega).afL ((aC.refl (fun k=>k=Pb) u).set (a:=(ah Pb 3)) (.int .i64 (wrap64 (jF+(jX:Int)))) (.inl rfl)) hT9⟩
 .rintro e w' ⟨r,jX,u,rfl,⟨rfl,hc,hK,hP⟩,rfl⟩;exact⟨jX,rfl,hc,aC.strip (((hK.drew).mono fun k h=>.inl h).Kj (g:=w.heap.size+1+1) (.inr (by omega)) _),Hb,Ab,base,av,GH,SD,A,D,ALL,hP.kept (((aC.refl (fun k=>k=w.heap.size+1+1) u).drew).Kj (g:=w.heap.size+1+1) rfl _) (fun k hk=>by have:=Jy k hk;omega),rfl,h3⟩
end
theorem VN:∀args w,(callFunc 55 args).run Tryz.prog w=.ok (.enter 55 args) w:=dF Tryz.func55 (by kernel_rfl) rfl
theorem aam:∀args w,(callFunc 56 args).run Tryz.prog w=.ok (.enter 56 args) w:=dF Tryz.func56 (by kernel_rfl) rfl
theorem aan:∀args w,(callFunc 57 args).run Tryz.prog w=.ok (.enter 57 args) w:=dF Tryz.func57 (by kernel_rfl) rfl
theorem VO:∀args w,(callFunc 59 args).run Tryz.prog w=.ok (.enter 59 args) w:=dF Tryz.func59 (by kernel_rfl) rfl
section
variable {w w':World} {Pb Hb Ab base m:Nat} {av:Value} {G GH SD S:Nat->Prop} {A:List eX} {D:List (Int×Int)} {ALL now:List Pt} {N wk jF aev:Int}
def ao3 (w:World) (Pb:Nat) (G:Nat->Prop) (m:Nat) (now:List Pt) (N wk jF:Int) (p:Pt) (e:Ending) (w':World):Prop:=
 ∃n:Nat,AdC N n/\e=.returned (.tuple #[ag n,.bool true])/\ji w' Pb (fun k=>G k\/w.heap.size<=k/\k<w'.heap.size) (m+1) (now++[p]) (N+1) (wk+n) jF/\aC G w w'
theorem Im (h:ji w Pb G m now N wk jF) (hm5:m<5000) (x y d:Int) (yo:KM (x,y,d)) (hno:d∉ids now):
  aO 12 #[ay Pb,ku x y d] w (ao3 w Pb G m now N wk jF (x,y,d)):=by
 obtain⟨Hb,Ab,base,av,GH,SD,A,D,ALL,hR,rfl,hG⟩:=h;have awm:∀q,(d,q)∉D:=fun q hq=>by
  obtain⟨k,c,-,hc,-,e⟩:=hR.fwd d q hq;exact hno (dY.2 ⟨c.1,dY.2 ⟨c,hc,rfl⟩,e⟩)
 have TY:=ae hno;have Q3:=ae hG;clear hno hG;have hall:=hR.few;have P1:=ae (dE w (.cells #[ag x,ag y,aJ d] 29));have B1:Below w.heap.size w (w.alloc (.cells #[ag x,ag y,aJ d] 29)):=(aM _ _).alloc (aG _) _;have H1:=ae (hR.kept (S:=fun _=>False) ((aC.refl _ _).below B1) fun _ _ h=>h);have fK:=ae B1;have CN:=ae (zI H1.out.blk);obtain⟨aa,ac,rfl,-,-,-⟩:=dU.aL cZ (by decide) hR.row;have HR:=ae hR;clear hR B1;go_enter Tryz.func12,Tryz.ntmps12
 go_wp2_with fail
 generalize w.alloc (.cells #[ag x,ag y,aJ d] 29)=w1 at*;have c0:w1.cell? (ah w.heap.size 0)=some (ag x):=by simp only[World.cell?,P1.out];rfl
 have c1:w1.cell? (ah w.heap.size 1)=some (ag y):=by simp only[World.cell?,P1.out];rfl
 have c2:w1.cell? (ah w.heap.size 2)=some (aJ d):=by simp only[World.cell?,P1.out];rfl
 have d1:w1.cell? (ah Pb 1)=some (ay Ab):=by simp[World.cell?,H1.out.blk]
 have d2:w1.cell? (ah Pb 2)=some (.slice aa ALL.length ac):=by simp[World.cell?,H1.out.blk]
 have g2:=aj c2;have g3:=aj d1;have g4:=aj d2;have H2:=ae (H1.out.kept (w':=w1.drew) (S:=fun _=>False) ((aC.refl _ _).drew) fun _ _ h=>h);have CN2:=ae (zI H2.out.blk);refine aF (fun W=>∃p:bg w1,W=p.W) [14,15,16] [(0,false)] (by kernel_rfl) (by kernel_rfl) (fun _ _ d _ _ h=>by cases d<;>exact h) ⟨⟨_,(aM _ _).drew⟩,rfl⟩ 16 rfl (by kernel_rfl) ?_;simp only[bG,bz,bA,bu,aS,aT,aU]
 repeat(refine aI (fun K hK=>?_);go_simp;first|(refine hK _ ?_;clear hK K)|(apply Exists.intro;refine⟨fun _=>?_,hK _ ?_⟩;rfl;clear hK K))
 refine aQ ?_;refine az [1] (by kernel_rfl) (by simp) ?_;refine ak.cons rfl (fun K hK=>?_) ak.nil;refine bD VN rfl _ _ rfl (vals:=#[ay Pb]) rfl CN2.out ?_;rintro e w2 ⟨rfl,ew⟩;subst ew;refine⟨_,rfl,?_⟩;refine hK _ _ (fun h _=>h) ?_;clear hK K;refine cK [(2,false),(3,false),(4,false),(5,false),(6,true),(7,false),(8,true),(9,false),(10,false),(11,false),(12,true),(13,false)] (by kernel_rfl) (fun _ _ d _ _ h=>by cases d<;>exact h) ⟨⟨_,(aM _ _).drew⟩,rfl⟩ (by kernel_rfl) (by kernel_rfl) rfl ?_;simp only[bG,bz,bA,bu,aS,aT,aU]
 repeat(refine aI (fun K hK=>?_);go_simp;first|(refine hK _ ?_;clear hK K)|(apply Exists.intro;refine⟨fun _=>?_,hK _ ?_⟩;rfl;clear hK K))
 refine aQ ?_;have CP:=ae (aah H2.out.dir H2.out.hb hm5 d (ALL.length:Int) awm);refine az [14] (by kernel_rfl) (by simp) ?_;refine ak.cons rfl (fun K hK=>?_) ak.nil;refine OW aam rfl _ _ rfl (vals:=#[ay Ab,aJ d,ag ALL.length]) rfl CP.out ?_;rintro e w3 ⟨rfl,hD3,hw3⟩;refine⟨_,rfl,?_⟩;refine hK _ _ (fun _ h=>absurd (by decide) h) ?_;clear hK K g2 g3 g4 c0 c1 c2 d1 d2 CP;have K3:aC SD w1 w3:=((aC.refl _ w1).drew).trans hw3.kps;have hs1:=fK.out.size;have hs3:=K3.size;have HD3:=ae hD3.clip;have HH3:=ae (H1.out.half.kept K3 fun k hk=>(H1.out.uS.1 k hk).1);have hb3:=bL K3 H1.out.blk (fun h9=>(H1.out.uS.2.1 Pb h9).1 rfl);have hr3:=aY H1.out.row K3 (fun gb e h9=>(H1.out.uS.2.1 gb h9).2.1 e);have hpl:=(bn.1 P1.out).1;have P3:=ae (bL K3 P1.out (fun h9=>by have:=(HR.out.uS.2.1 _ h9).2.2;omega));have jm:=ae hb3;have yz:=ae hr3;have Gh:=ae K3;clear hD3 hw3 K3 hb3 hr3;refine aK [15,16] _ _ _ (by kernel_rfl) ?_;simp only[pick,bz,bA,bu,aS,aT]
 go_wp2_with fail
 have c0:w3.cell? (ah w.heap.size 0)=some (ag x):=by simp only[World.cell?,P3.out];rfl
 have c1:w3.cell? (ah w.heap.size 1)=some (ag y):=by simp only[World.cell?,P3.out];rfl
 have c2:w3.cell? (ah w.heap.size 2)=some (aJ d):=by simp only[World.cell?,P3.out];rfl
 have d2:w3.cell? (ah Pb 2)=some (.slice aa ALL.length ac):=by simp[World.cell?,jm.out]
 have g0:=aj c0;have g1:=aj c1;have g2:=aj c2;have g4:=aj d2;refine aF (fun W=>∃p:bg w3,W=p.W) [7,8,9,10] [(0,false),(1,false),(2,false),(3,false),(4,true),(5,true)] (by kernel_rfl) (by kernel_rfl) (fun _ _ d _ _ h=>by cases d<;>exact h) ⟨⟨_,(aM _ _).drew⟩,rfl⟩ 5 rfl (by kernel_rfl) ?_;simp only[bG,bz,bA,bu,aS,aT,aU]
 repeat(refine aI (fun K hK=>?_);go_simp;first|(refine hK _ ?_;clear hK K)|(apply Exists.intro;refine⟨fun _=>?_,hK _ ?_⟩;rfl;clear hK K))
 refine aQ ?_;clear g0 g1 g2 g4 c0 c1 c2 d2;refine az [6] (by kernel_rfl) (by simp) ?_;refine ak.cons rfl (fun K hK=>?_) ak.nil;go_simp;refine hK _ _ (fun _ _=>⟨⟨_,((aM _ w3).alloc (aG _) _).drew⟩,rfl⟩) ?_;clear hK K;refine az [7] (by kernel_rfl) (by simp) ?_;refine ak.cons rfl (fun K hK=>?_) ak.nil;refine bM YU 0 (aY (S:=fun _=>False) yz.out (((aC.refl _ _).alloc _).drew) (fun _ _ h=>h)) [.int .i64 x,.int .i64 y,.int .u32 d] rfl (by simp[Value.oneCell']) rfl (.tmp 27) (.tmp 29) rfl rfl _ rfl (lX _ _) (by unfold maxLen;omega) (by omega) (bC _) ?_;intro ga ca w4 hA hg qK hlt;refine hK _ _ (fun _ h=>absurd (by decide) h) ?_;clear hK K;have TS:Value.ownBlock (.slice aa ALL.length ac)=some ga\/w3.heap.size<=ga:=qK.imp id fun e=>by rw[e];simp
 have K4:aC (fun k=>Value.ownBlock (.slice aa ALL.length ac)=some k) w3 w4:=((((aC.refl _ w3).alloc _).drew)).grown hg fun k e=>.inl e;have Rt:=K4.size;have aFl:=(bn.1 jm.out).1;have hb4:=bL K4 jm.out H1.out.uS.2.2;have P4:=ae (bL K4 P3.out (fun e=>by have:=(HR.out.row.lt _ e).2;omega));have z4:w4.cell? (ah Pb 2)=some (.slice aa ALL.length ac):=by simp[World.cell?,hb4]
 have f4:w4.frozen? (ah Pb 2)=false:=by simp[World.frozen?,hb4]
 have awp:ga≠Pb:=fun e=>TS.elim (fun h=>H1.out.uS.2.2 (by rw[h,e])) fun h=>by omega
 have hT5:(w4.setCell (ah Pb 2) (aD ga (ALL.length+1) ca)).heap[Pb]? =some (Obj.cells #[ay Hb,ay Ab,aD ga (ALL.length+1) ca,ag jF] F3 (0,0)):=by
  rw[dH w4 Pb 2 _ _ _ hb4];rfl
 have K5:aC (fun k=>Value.ownBlock (.slice aa ALL.length ac)=some k\/k=Pb) w3 (w4.setCell (ah Pb 2) (aD ga (ALL.length+1) ca)):=(K4.mono fun k h=>.inl h).set _ (.inl (.inr rfl));have R5:=aY hA ((aC.refl (fun k=>k=Pb) w4).set (a:=(ah Pb 2)) (aD ga (ALL.length+1) ca) (.inl rfl)) (fun gb e h=>awp (by have e3:ga=gb:=(by injection e);rw[e3];exact h));have P5:(w4.setCell (ah Pb 2) (aD ga (ALL.length+1) ca)).heap[w.heap.size]? =_:=(aH (a:=(ah Pb 2)) (fun e:Pb=w.heap.size=>by have:=(bn.1 HR.out.blk).1;omega)).trans P4.out;have s5:(w4.setCell (ah Pb 2) (aD ga (ALL.length+1) ca)).heap.size=w4.heap.size:=by simp
 have Ce:=ae hT5;have mo:=ae K5;have Gc:=ae R5;have SS:=ae P5;have HS5:=ae s5;have HGA:=ae TS;have Jy:=ae hlt;clear hT5 K5 R5 P5 s5 hA hg qK P4 TS hlt K4 hb4;refine aK [8,9,10] _ _ _ (by kernel_rfl) ?_;simp only[pick,bz,bA,bu,aS,aT]
 go_wp2_with fail
 generalize w4.setCell (ah Pb 2) (aD ga (ALL.length+1) ca)=w5 at*;clear z4 f4;have HH5:=ae (HH3.out.kept mo.out fun k hk h9=>by
  have h1:=H1.out.uS.1 k hk;rcases h9 with h9|h9
  .exact h1.2.2.1 h9
  .exact h1.2.1 h9)
 have c0:w5.cell? (ah w.heap.size 0)=some (ag x):=by simp only[World.cell?,SS.out];rfl
 have c1:w5.cell? (ah w.heap.size 1)=some (ag y):=by simp only[World.cell?,SS.out];rfl
 have c2:w5.cell? (ah w.heap.size 2)=some (aJ d):=by simp only[World.cell?,SS.out];rfl
 have d0:w5.cell? (ah Pb 0)=some (ay Hb):=by simp[World.cell?,Ce.out]
 have g0:=aj c0;have g1:=aj c1;have g2:=aj c2;have g4:=aj d0;have CA:=ae (aiY (w:=w5.drew) (HH5.out.kept (S:=fun _=>False) ((aC.refl _ w5).drew) fun _ _ h=>h) hm5 x y d yo TY.out);refine aF (fun W=>∃p:bg w5,W=p.W) [5,6,7,8,9] [(0,false),(1,false),(2,false),(3,true),(4,true)] (by kernel_rfl) (by kernel_rfl) (fun _ _ d _ _ h=>by cases d<;>exact h) ⟨⟨_,(aM _ _).drew⟩,rfl⟩ 5 rfl (by kernel_rfl) ?_;simp only[bG,bz,bA,bu,aS,aT,aU]
 repeat(refine aI (fun K hK=>?_);go_simp;first|(refine hK _ ?_;clear hK K)|(apply Exists.intro;refine⟨fun _=>?_,hK _ ?_⟩;rfl;clear hK K))
 refine aQ ?_;clear g0 g1 g2 g4 c0 c1 c2 d0;refine az [5] (by kernel_rfl) (by simp) ?_;refine ak.cons rfl (fun K hK=>?_) ak.nil;refine bD aan rfl _ _ rfl (vals:=#[ay Hb,ku x y d]) rfl CA.out ?_;rintro e w6 ⟨n,q,sM,rfl,hH6,NY⟩;refine⟨_,rfl,?_⟩;refine hK _ _ (fun _ h=>absurd (by decide) h) ?_;clear hK K;have HH6:=ae hH6.clip;have lD:Hid (aC GH w5 w6):=((aC.refl _ w5).drew).trans NY;clear hH6 NY CA;refine je (fun _=>True) [8,9] (by kernel_rfl) ?_;refine cK [(6,false),(7,false)] (by kernel_rfl) (fun _ _ d _ _ h=>by cases d<;>exact h) trivial (by kernel_rfl) (by kernel_rfl) rfl ?_;simp only[bG,bz,bA,bu,aS,aT,aU]
 repeat(refine aI (fun K hK=>?_);go_simp;first|(refine hK _ ?_;clear hK K)|(apply Exists.intro;refine⟨fun _=>?_,hK _ ?_⟩;rfl;clear hK K))
 refine aQ ?_;refine aK [8,9] _ _ _ (by kernel_rfl) ?_;simp only[pick,bz,bA,bu,aS,aT];go_wp2;go_ret2;have hs5:=mo.out.size;have Xh:=lD.out.size;have hl5:=HS5.out;have D1:=H1.out.uS;have ao4:=(bn.1 H1.out.blk).1;have aao:∀k,Value.ownBlock (.slice aa ALL.length ac)=some k->k<w1.heap.size:=fun k e=>(H1.out.row.lt k e).2;have aap:∀k,Value.ownBlock (aD ga (ALL.length+1) ca)=some k->(Value.ownBlock (.slice aa ALL.length ac)=some k\/w3.heap.size<=k)/\k<w4.heap.size:=fun k e=>by
  have e3:ga=k:=by injection e
  subst e3;exact⟨HGA.out,Jy.out⟩
 have hd1:w1.drew.heap.size=w1.heap.size:=rfl;have hd5:w5.drew.heap.size=w5.heap.size:=rfl;have K36:aC (fun k=>(Value.ownBlock (.slice aa ALL.length ac)=some k\/k=Pb)\/GH k) w3 w6:=(mo.out.mono fun k h=>.inl h).trans (lD.out.mono fun k h=>.inr h);have ao5:∀k,Value.ownBlock (aD ga (ALL.length+1) ca)=some k->¬GH k:=fun k e h=>by
  rcases(aap k e).1 with h9|h9
  .exact(D1.1 k h).2.2.1 h9
  .have:=(D1.1 k h).2.2.2;omega
 refine⟨n,sM,rfl,⟨Hb,Ab,base,_,_,_,_,D++[(d,(ALL.length:Int))],ALL++[(x,y,d)],⟨bL lD.out Ce.out (fun h=>(D1.1 Pb h).2.1 rfl),?_,HH6.out,HD3.out.kept K36 ?_,bO HR.out.hb (by omega),by simp;omega,?_,?_,⟨fun k hk=>?_,fun k hk=>?_,?_⟩⟩,by simp,fun k hk=>?_⟩,?_⟩
 .have h1:=aY Gc.out lD.out (fun gb e=>ao5 gb e);rw[bF,lW];exact h1
 .rintro k ⟨hk,hk3⟩ h9;rcases hk with hk|hk
  .rcases h9 with(h9|h9)|h9
   .exact(D1.2.1 k hk).2.1 h9
   .exact(D1.2.1 k hk).1 h9
   .exact(D1.1 k h9).1 hk
  .rcases h9 with(h9|h9)|h9
   .have:=aao k h9;omega
   .omega
   .have:=(D1.1 k h9).2.2.2;omega
 .intro id q' hq;rcases df.1 hq with hq|hq
  .obtain⟨k,c,e1,hc,e2,e3⟩:=HR.out.fwd id q' hq;exact⟨k,c,e1,List.mem_append_left _ hc,by rw[mP (gD.1 e2).1];exact e2,e3⟩
  .obtain⟨rfl,rfl⟩:id=d/\q'=(ALL.length:Int):=by simpa using hq
   exact⟨ALL.length,((x,y,id),q),rfl,by simp,by simp,rfl⟩
 .intro c hc;rcases df.1 hc with hc|hc
  .obtain⟨q',hq⟩:=HR.out.bwd c hc;exact⟨q',List.mem_append_left _ hq⟩
  .obtain rfl:c=((x,y,d),q):=by simpa using hc
   exact⟨_,List.mem_append_right _ sQ⟩
 .refine⟨?_,?_,fun e=>?_,hk.2⟩
  .rintro⟨h9,h8⟩;rcases hk.1 with ru|ru
   .rcases h9 with h9|h9
    .exact(D1.1 k ru).1 h9
    .have:=(D1.1 k ru).2.2.2;omega
   .omega
  .rintro rfl;rcases hk.1 with ru|ru
   .exact(D1.1 k ru).2.1 rfl
   .omega
  .rcases hk.1 with ru|ru
   .exact ao5 k e ru
   .have:=(aap k e).2;omega
 .refine⟨?_,fun e=>?_,by have:=hk.2;omega⟩
  .rintro rfl;rcases hk.1 with ru|ru
   .exact(D1.2.1 k ru).1 rfl
   .omega
  .have h2:=hk.2;rcases(aap k e).1 with h9|h9
   .rcases hk.1 with ru|ru
    .exact(D1.2.1 k ru).2.1 h9
    .have:=aao k h9;omega
   .omega
 .intro e;rcases(aap Pb e).1 with h9|h9
  .exact D1.2.2 h9
  .omega
 .rcases hk with⟨hk,h2⟩|⟨hk,h2⟩|rfl|hk
  .rcases hk with hk|hk
   .exact .inl (Q3.out k (.inl hk))
   .exact .inr ⟨by omega,h2⟩
  .rcases hk with hk|hk
   .exact .inl (Q3.out k (.inr (.inl hk)))
   .exact .inr ⟨by omega,by omega⟩
  .exact .inl (Q3.out k (.inr (.inr (.inl rfl))))
  .have h2:=aap k hk;rcases h2.1 with h9|h9
   .exact .inl (Q3.out k (.inr (.inr (.inr h9))))
   .exact .inr ⟨by omega,by omega⟩
 .refine((((aC.refl G w).below fK.out).trans (Gh.out.mono fun k h=>Q3.out k (.inr (.inl h)))).trans (mo.out.mono fun k h=>?_)).trans (lD.out.mono fun k h=>Q3.out k (.inl h));rcases h with h|h
  .exact Q3.out k (.inr (.inr (.inr h)))
  .exact Q3.out k (.inr (.inr (.inl h)))
end
section
variable {w w':World} {Pb Hb Ab base m:Nat} {av:Value} {G GH SD S:Nat->Prop} {A:List eX} {D:List (Int×Int)} {ALL now:List Pt} {N wk jF aev:Int}
def ao6 (w:World) (Pb:Nat) (G:Nat->Prop) (m:Nat) (now:List Pt) (N wk jF:Int) (p:Pt) (e:Ending) (w':World):Prop:=
 ∃(n:Nat) (N':Int),e=.returned (.tuple #[ag n,.bool true])/\ji w' Pb (fun k=>G k\/w.heap.size<=k/\k<w'.heap.size) (m+1) (now.filter fun q=>decide (q≠p)) N' (wk+n) jF/\aC G w w'/\DrC (now.filter fun q=>decide (q≠p)).length N N' n
theorem Q4 (h:ji w Pb G m now N wk jF) (hm5:m<5000) (x y d:Int) (iC:(x,y,d)∈now):
  aO 13 #[ay Pb,aJ d] w (ao6 w Pb G m now N wk jF (x,y,d)):=by
 obtain⟨Hb,Ab,base,av,GH,SD,A,D,ALL,hR,rfl,hG⟩:=h;obtain⟨c,hc,SE⟩:=dY.1 iC;have ME:=hR.half.facts.2.2.2.1;have YR:∀c'∈A,c'.1.2.2=d->c'.1=(x,y,d):=fun c' hc' e=>by
  have h3:(A.map (·.1)).Pairwise fun p q=>p.2.2≠q.2.2:=dG.1 ME;rcases gW h3 (IJ hc') iC with h1|h1|h1
  .exact h1
  .exact absurd e h1
  .exact absurd e.symm h1
 obtain⟨q,hq⟩:=hR.bwd c hc;rw[SE]at hq;obtain⟨k,c',rfl,hc',hk,hid⟩:=hR.fwd d q hq;rw[YR c' hc' hid]at hk;have hlen:=(gD.1 hk).1;have awr:=ae YR;have HC:=ae hc;have HCX:=ae SE;have HK:=ae hk;have Q3:=ae hG;have CN:=ae (zI hR.blk);have CD:=ae (VI hR.dir hR.hb d (k:Int) hq);have d1:w.cell? (ah Pb 1)=some (ay Ab):=by simp[World.cell?,hR.blk]
 have HR:=ae hR;have hall:=hR.few;clear hR YR hc SE hk hc' hid hG iC ME hq;go_enter Tryz.func13,Tryz.ntmps13
 go_wp2_with (go_at_call 55;refine CN.out.mono ?_;rintro e w1 ⟨rfl,ew⟩;have kI:=ew.symm;clear ew;subst kI)
 refine CD.out.mono ?_;rintro e w3 ⟨rfl,hD3,hw3⟩;have K3:=hw3.kps;have HD3:=ae hD3.clip;have HH3:=ae (HR.out.half.kept K3 fun k hk=>(HR.out.uS.1 k hk).1);have hb3:=bL K3 HR.out.blk (fun h9=>(HR.out.uS.2.1 Pb h9).1 rfl);have hr3:=aY HR.out.row K3 (fun gb e h9=>(HR.out.uS.2.1 gb h9).2.1 e);have hs3:=K3.size;have jm:=ae hb3;have yz:=ae hr3;have Gh:=ae K3;clear hD3 hw3 K3 d1 CD CN
 go_wp2_with fail
 obtain⟨aa,ac,eav,-,-,jE⟩:=dU.aL cZ (by decide) hr3;obtain⟨ab,ao,ea,hbl,hcs⟩:=jE.get (by omega);have x0:=hcs k hlen 0 (by omega);have x1:=hcs k hlen 1 (by omega);have x2:=hcs k hlen 2 (by omega);obtain⟨alV,hkv⟩:=gD.1 HK.out;rw[hkv]at x0 x1 x2;simp only[fH,aT,aS,eG]at x0 x1 x2;have d0:w3.cell? (ah Pb 0)=some (ay Hb):=by simp[World.cell?,hb3]
 have d2:w3.cell? (ah Pb 2)=some av:=by simp[World.cell?,hb3]
 rw[eav,ea]at d2;have gU:(k:Int)<(ALL.length:Int):=by omega
 have g0:=aj d0;have g2:=aj d2;have g3:=aj x0;have g4:=aj x1;have g5:=aj x2;have CA:=ae (aek (w:=w3.drew) (HH3.out.kept (S:=fun _=>False) ((aC.refl _ w3).drew) fun _ _ h=>h) hm5 c HC.out x y d HCX.out);clear hcs jE hbl hkv hb3 hr3 ea eav;refine aF (fun W=>∃p:bg w3,W=p.W) [11,12,13,14,15] [(0,false),(1,false),(2,false),(3,true),(4,false),(5,false),(6,false),(7,true),(8,false),(9,false),(10,true)] (by kernel_rfl) (by kernel_rfl) (fun _ _ d _ _ h=>by cases d<;>exact h) ⟨⟨_,(aM _ _).drew⟩,rfl⟩ 5 rfl (by kernel_rfl) ?_;simp only[bG,bz,bA,bu,aS,aT,aU]
 repeat(refine aI (fun K hK=>?_);go_simp;first|(refine hK _ ?_;clear hK K)|(apply Exists.intro;refine⟨fun _=>?_,hK _ ?_⟩;rfl;clear hK K))
 refine aQ ?_;clear g0 g2 g3 g4 g5 d0 d2 x0 x1 x2;refine az [11] (by kernel_rfl) (by simp) ?_;refine ak.cons rfl (fun K hK=>?_) ak.nil;refine bD VO rfl _ _ rfl (vals:=#[ay Hb,ku x y d]) rfl CA.out ?_;rintro e w6 ⟨n,N',rfl,hH6,NY,hdc⟩;have HDC:=ae hdc;clear hdc;refine⟨_,rfl,?_⟩;refine hK _ _ (fun _ h=>absurd (by decide) h) ?_;clear hK K;have HH6:=ae hH6.clip;have lD:Hid (aC GH w3 w6):=((aC.refl _ w3).drew).trans NY;clear hH6 NY CA;refine je (fun _=>True) [14,15] (by kernel_rfl) ?_;refine cK [(12,false),(13,false)] (by kernel_rfl) (fun _ _ d _ _ h=>by cases d<;>exact h) trivial (by kernel_rfl) (by kernel_rfl) rfl ?_;simp only[bG,bz,bA,bu,aS,aT,aU]
 repeat(refine aI (fun K hK=>?_);go_simp;first|(refine hK _ ?_;clear hK K)|(apply Exists.intro;refine⟨fun _=>?_,hK _ ?_⟩;rfl;clear hK K))
 refine aQ ?_;refine aK [14,15] _ _ _ (by kernel_rfl) ?_;simp only[pick,bz,bA,bu,aS,aT];go_wp2;go_ret2;have Xh:=lD.out.size;have D1:=HR.out.uS;have hd3:w3.drew.heap.size=w3.heap.size:=rfl;have ao4:=(bn.1 HR.out.blk).1;have aao:∀k,av.ownBlock=some k->k<w.heap.size:=fun k e=>(HR.out.row.lt k e).2;refine⟨n,N',rfl,⟨Hb,Ab,base,av,_,_,_,D.filter fun z=>decide (z.1≠d),ALL,⟨bL lD.out jm.out (fun h=>(D1.1 Pb h).2.1 rfl),aY yz.out lD.out (fun gb e h=>(D1.1 gb h).2.2.1 e),HH6.out,(HD3.out.mono (fun k h=>h) (Nat.le_succ _)).kept lD.out ?_,bO HR.out.hb (by omega),by omega,?_,?_,⟨fun k hk=>?_,fun k hk=>?_,D1.2.2⟩⟩,?_,fun k hk=>?_⟩,?_,?_⟩
 .rintro k ⟨hk,hk3⟩ h9;rcases hk with hk|hk
  .exact(D1.1 k h9).1 hk
  .have:=(D1.1 k h9).2.2.2;omega
 .intro id q' hq;obtain⟨hq,hne⟩:=bQ.1 hq;obtain⟨k,c',e1,hc,e2,e3⟩:=HR.out.fwd id q' hq;refine⟨k,c',e1,bQ.2 ⟨hc,?_⟩,e2,e3⟩;simp only[bZ]at hne |-;intro e;rw[e]at e3;exact hne e3.symm
 .intro c' hc';obtain⟨hc',hne⟩:=bQ.1 hc';obtain⟨q',hq⟩:=HR.out.bwd c' hc';refine⟨q',bQ.2 ⟨hq,?_⟩⟩;simp only[bZ]at hne |-;exact fun e=>hne (awr.out c' hc' e)
 .refine⟨?_,?_,fun e=>?_,hk.2⟩
  .rintro⟨h9,h8⟩;rcases hk.1 with ru|ru
   .rcases h9 with h9|h9
    .exact(D1.1 k ru).1 h9
    .have:=(D1.1 k ru).2.2.2;omega
   .omega
  .rintro rfl;rcases hk.1 with ru|ru
   .exact(D1.1 k ru).2.1 rfl
   .omega
  .rcases hk.1 with ru|ru
   .exact(D1.1 k ru).2.2.1 e
   .have:=aao k e;omega
 .refine⟨?_,fun e=>?_,by have:=hk.2;omega⟩
  .rintro rfl;rcases hk.1 with ru|ru
   .exact(D1.2.1 k ru).1 rfl
   .omega
  .rcases hk.1 with ru|ru
   .exact(D1.2.1 k ru).2.1 e
   .have:=aao k e;omega
 .rw[Ah];rfl
 .rcases hk with⟨hk,h2⟩|⟨hk,h2⟩|rfl|hk
  .rcases hk with hk|hk
   .exact .inl (Q3.out k (.inl hk))
   .exact .inr ⟨by omega,h2⟩
  .rcases hk with hk|hk
   .exact .inl (Q3.out k (.inr (.inl hk)))
   .exact .inr ⟨by omega,by omega⟩
  .exact .inl (Q3.out k (.inr (.inr (.inl rfl))))
  .exact .inl (Q3.out k (.inr (.inr (.inr hk))))
 .exact(Gh.out.mono fun k h=>Q3.out k (.inr (.inl h))).trans (lD.out.mono fun k h=>Q3.out k (.inl h))
 .rw[Ah,cu];exact HDC.out
end
theorem Q5 (l l':List Int) (k:Nat) (h:l.take k=l'.take k) (h1:k<l.length) (h2:k<l'.length) (he:l[k]=l'[k]):l.take (k+1)=l'.take (k+1):=by
 rw[fG h1,fG h2,h,he]
theorem zK (a a':Option Addr) (l l':List Int) (n n' c c':Nat) (w:World) (hn:l.length=n) (VU:l'.length=n') (h:Rd (.int .u32) w a l) (h':Rd (.int .u32) w a' l') (hl:n<=1000000) (hl':n'<=1000000):
  aO 43 #[.slice a n c,.slice a' n' c'] w (iX w (.bool (decide (l=l')))):=by
 subst hn VU;have HR:=ae h;have HR':=ae h';clear h h';generalize hr:decide (l=l')=r;have Co:=ae hr;clear hr;by_cases Mi:l.length=l'.length
 .have dl:((l.length:Int)!=(l'.length:Int))=false:=by simp[Mi]
  have HLN:=ae Mi;clear Mi;go_enter Tryz.func43,Tryz.ntmps43;go_wp2
  go_loopw [13] (fun iv wr=>∃k:Nat,iv=.int .i64 k/\k<=l.length/\Below w.heap.size w wr/\Hid (l.take k=l'.take k)) (fun iv _=>l.length-(intOf iv).toNat)
  case atStart=>exact⟨0,rfl,bC _,aM _ _,rfl⟩
  case round=>
   obtain⟨k,rfl,hk,hb,INV⟩:=hrel;by_cases hlt:k<l.length
   .have ao7:k<l'.length:=by have:=HLN.out;omega
    obtain⟨b,off,ea,hbl,hcs⟩:=(HR.out.below hb).get (by omega);obtain⟨b',akX,ea',auW,ao8⟩:=(HR'.out.below hb).get (by omega);have x0:=hcs k hlt;have y0:=ao8 k ao7;have gU:(k:Int)<(l.length:Int):=by omega
    have aFq:(k:Int)<(l'.length:Int):=by omega
    have vP:l[k]≠l'[k]->r=false:=fun hne=>by
     rw[<-Co.out];simp only[iE];intro e;subst e;exact hne rfl
    have HYE:l[k]=l'[k]->Hid (l.take (k+1)=l'.take (k+1)):=fun he=>Q5 l l' k INV.out hlt ao7 he;have EA:=ae ea;have EA':=ae ea';clear hcs ao8 ea ea';generalize l[k]=px at*;generalize l'[k]=qx at*;obtain rfl:=EA.out;obtain rfl:=EA'.out;clear EA EA';by_cases h0:px=qx
    .have d0:(px !=qx)=false:=by simp[h0]
     have I2:=HYE h0;clear h0 vP HYE INV;go_wp2;go_region
     all_goals
      go_wp2;go_roundw
      case rel=>exact⟨k+1,by go_num,by omega,hb.drew,I2⟩
      case measure=>simp[intOf];omega
    .have d0:(px !=qx)=true:=by simp[h0]
     have hr:=vP h0;subst hr;clear h0 vP HYE Co INV;go_wp2;go_region
     all_goals
      go_wp2;go_ret;exact⟨rfl,hb.drew⟩
   .obtain rfl:k=l.length:=by omega
    have e1:r=true:=by
     rw[<-Co.out,bZ];have:=INV.out;rw[mW,HLN.out,mW]at this;exact this
    subst e1;clear INV Co;go_wp2;go_ret;exact⟨rfl,hb⟩
 .have dl:((l.length:Int)!=(l'.length:Int))=true:=by simp;omega
  have e1:r=false:=by
   rw[<-Co.out,iE];rintro rfl;exact Mi rfl
  subst e1;clear Co Mi;go_enter Tryz.func43,Tryz.ntmps43;go_wp2;go_ret;exact⟨rfl,aM _ _⟩
theorem aaq (d:Int):gu [d]=[d]:=by simp[gu]
theorem VP (w:World):aO 44 #[] w (iX w (.bool true)):=by
 have CN:=ae (afM w);go_enter Tryz.func44,Tryz.ntmps44
 go_wp2_with fail
 refine CN.out.mono ?_;rintro e w1 ⟨Pb,rfl,hP,hb1⟩;have hPb:=ae hP.facts.2.2.2.2.2.2.2.1;have fK:=ae hb1;have CA:=ae (Im hP (by omega) 3 4 5 ⟨by decide,by decide,by decide⟩ jC);clear CN hP hb1
 go_wp2_with fail
 refine CA.out.mono ?_;rintro e w2 ⟨n,sM,rfl,hP,hK⟩;have sM:=sM.pos;have zL:=hP.facts.2.2.2.2.2.2.1 1 (by decide);obtain rfl:n=1:=by omega
 have fP:=ae (fK.out.trans (hK.toBelow fK.out.size (fun k h=>h.1)));have CR:=ae (NH hP 0 9 0 9 0);have e1:gu (ids (([]++[((3:Int),(4:Int),(5:Int))]).filter (Px 0 9 0 9)))=[5]:=by
  have:([]++[((3:Int),(4:Int),(5:Int))]).filter (Px 0 9 0 9)=[(3,4,5)]:=by decide
  rw[this];exact aaq 5
 rw[e1]at CR;clear CA hP hK zL sM e1
 go_wp2_with fail
 refine CR.out.mono ?_;rintro e w3 ⟨v,jX,rfl,hown,-,hK,-⟩;have hs2:=fP.out.size;obtain⟨a3,c3,rfl,-,-,hr3⟩:=Rd.aL hown;have jm:=ae (fP.out.trans (hK.toBelow fP.out.size (fun k h=>by have:=hPb.out;omega)));have HR:=ae hr3;clear hr3 hown hK CR hs2
 go_wp2_with fail
 have q:Below w3.heap.size w3 (w3.alloc (.cells #[aJ 5] 27)):=(aM _ _).alloc (aG _) _;have c:=zK a3 (some (ah w3.heap.size 0)) [5] [5] 1 1 c3 1 _ rfl rfl (HR.out.below q) (Rd.lit (enc:=Value.int .u32) w3 27 [5] _ rfl) (by decide) (by decide);rw[show decide (([5]:List Int)=[5])=true from rfl]at c;have HQ:=ae q;clear q;refine c.mono ?_;rintro e w4 ⟨rfl,hb⟩;have kJ:=ae (jm.out.trans (((HQ.out).trans (hb.mono HQ.out.size)).mono jm.out.size));clear c hb;go_wp2;go_ret;exact⟨rfl,kJ.out⟩
abbrev Mv:=Bool×Pt
def eMv (m:Mv):List Value:=[.bool m.1,.int .i64 m.2.1,.int .i64 m.2.2.1,.int .u32 m.2.2.2]
theorem aws:eQ Tryz.prog 77 79 4 32:=.mk' (z:=.agg #[.bool false,ag 0,ag 0,aJ 0]) Tryz.underlying77 (by kernel_rfl) rfl (by decide)
def ai9 (m:Mv):Obj:=.cells #[.bool m.1,ag m.2.1,ag m.2.2.1,aJ m.2.2.2] 79 (0,0)
theorem rW {W:World} {b:Nat} {m:Mv} (h:W.heap[b]? =some (ai9 m)):W.cell? (ah b 0)=some (.bool m.1)/\W.cell? (ah b 1)=some (ag m.2.1)/\W.cell? (ah b 2)=some (ag m.2.2.1)/\W.cell? (ah b 3)=some (aJ m.2.2.2):=by simp[World.cell?,h,ai9]
def atF (L:List Pt) (d:Int):Nat->Int
 |0=>-1
 |j+1=>if(L[j]?.map fun p=>p.2.2)=some d then j else atF L d j
theorem NK {L:List Pt} {d:Int} {j:Nat} (hj:j<L.length):atF L d (j+1)=if L[j].2.2=d then(j:Int)else atF L d j:=by
 simp only[atF,dD hj,aU,jB]
theorem aar {L:List Pt} {d:Int}:∀{j:Nat},j<=L.length->(atF L d j=-1/\∀k (hk:k<L.length),k<j->L[k].2.2≠d)\/∃k,∃hk:k<L.length,k<j/\atF L d j=(k:Int)/\L[k].2.2=d
 |0,_=>.inl ⟨rfl,fun _ _ h=>absurd h (ll _)⟩
 |j+1,hj=>by
  rw[NK (show j<L.length by omega)];by_cases e:L[j].2.2=d
  .rw[aR e];exact .inr ⟨j,by omega,by omega,rfl,e⟩
  .rw[aP e];rcases aar (L:=L) (d:=d) (j:=j) (by omega)with⟨h1,h2⟩|⟨k,hk,h1,h2,h3⟩
   .refine .inl ⟨h1,fun k hk hkj=>?_⟩;by_cases h:k=j
    .subst h;exact e
    .exact h2 k hk (by omega)
   .exact .inr ⟨k,hk,by omega,h2,h3⟩
theorem NM {A B:List Pt} {p:Pt} (h:(A++p::B).Nodup):A++B=(A++p::B).filter fun q=>decide (q≠p):=by
 obtain⟨h2,h3,h4⟩:=tC.1 h;rw[mX]at h3;rw[mU,mV,aP (by simp),qc.2 fun q hq=>by simpa using h4 q hq p sQ,qc.2 fun q hq=>by
  simp only[bZ,ne_eq];rintro rfl;exact h3.1 hq]
theorem Q6 {L:List Pt} (hu:(ids L).Nodup) {k:Nat} (hk:k<L.length):L.take k++L.drop (k+1)=L.filter fun q=>decide (q≠L[k]):=by
 have e:L.take k++L[k]::L.drop (k+1)=L:=by rw[<-nP hk,lg]
 have h:=NM (A:=L.take k) (p:=L[k]) (B:=L.drop (k+1)) (by rw[e];exact Fb hu);rwa [e]at h
theorem Q7 (a:Option Addr) (l:List Mv) (n c:Nat) (x1 x2 y1 y2 bi way:Int) (w:World) (hn:l.length=n) (h:dU eMv 4 w a l) (hf:∀m∈l,KM m.2) (hc:n<=c) (xO:0<=way):
  aO 9 #[.slice a n c,.agg #[ag x1,ag x2,ag y1,ag y2,aJ bi],.int .u8 way] w (iX w (.bool true)):=by
 subst hn;obtain⟨m,hm,G7,Wi⟩:∃m:Nat,min (l.length:Int) 120=(m:Int)/\m<=l.length/\m<=120:=⟨min l.length 120,by omega,by omega,by omega⟩;have HM:=ae hm;have HR:=ae h;have HF:=ae hf;obtain⟨w1,fJ⟩:∃w1,w1=w.alloc (.cells #[ag x1,ag x2,ag y1,ag y2,aJ bi] 38):=⟨_,rfl⟩;have b1:Below w.heap.size w w1:=by rw[fJ];exact(aM _ _).alloc (aG _) _
 have X1:w1.heap[w.heap.size]? =some (RQ (x1,x2,y1,y2,bi)):=by rw[fJ];exact dE w _
 have CN:=ae (afM w1);have fK:=ae b1;have Jt:=ae X1;have EW:=ae fJ;clear hm h hf b1 X1 fJ;go_enter Tryz.func9,Tryz.ntmps9
 go_upto_region 1 with fail
 rw[<-EW.out];clear EW
 go_wp2_with fail
 refine CN.out.mono ?_;rintro e w2 ⟨Pb,rfl,hP,hb2⟩;have Y5:=(bn.1 Jt.out).1;have fP:=ae (fK.out.trans (hb2.mono fK.out.size));have Gg:=ae ((hb2.block _ Y5).trans Jt.out);have V5:=ae hP;have apa:=hb2.size;clear CN hP hb2 fK Jt;have hm:min (l.length:Int) 120=(m:Int):=HM.out
 go_wp2_with (refine xM aws (HR.out.below fP.out) hc 0 m (bC _) G7 rfl _ _ _ rfl rfl rfl rfl ?_;intro Ep hr;simp only[Nat.sub_zero,lI]at hr |-)
 have hPl:(l.take m).length=m:=by simp;omega
 have HFT:Hid (∀q∈l.take m,KM q.2):=fun q hq=>HF.out q (List.mem_of_mem_take hq);have HPR:Hid (∀W,Below w.heap.size w W->dU eMv 4 W Ep (l.take m)):=fun W hb=>hr W (HR.out.below hb);clear hr hm HM HR HF G7 hc;generalize l.take m=P at*;subst hPl
 go_loopw [8,47] (fun lv iv wr=>∃(i:Nat) (L:List Pt) (la:Option Addr) (lc:Nat) (G:Nat->Prop) (mm:Nat) (N wk:Int),iv=.int .i64 i/\lv=.slice la L.length lc/\i<=P.length/\w2.heap.size<=wr.heap.size/\Hid (L.length<=i/\mm<=i)/\Hid (wr.ownsRow w2.heap.size 29 3 (.slice la L.length lc) L.length (L.flatMap fH))/\Hid (ji wr Pb G mm L N wk 0)/\Hid (∀k,G k->w1.heap.size<=k/\k<wr.heap.size/\(Value.slice la L.length lc).ownBlock≠some k)/\Hid (Below w.heap.size w wr)/\Hid (wr.heap[w.heap.size]? =some (RQ (x1,x2,y1,y2,bi)))) (fun _ iv _=>P.length-(intOf iv).toNat)
 case atStart=>exact⟨0,[],none,0,_,0,0,0,rfl,rfl,bC _,aG _,⟨aG _,aG _⟩,dL _ _ _ _,V5,fun k hk=>⟨hk.1,hk.2,by simp[Value.ownBlock]⟩,fP,Gg⟩
 case round=>
  obtain⟨i,L,la,lc,G,mm,N,wk,rfl,rfl,hi,h2o,VG,HOW,HPT,HGD,HBR,GD⟩:=hrel;by_cases KN:i<P.length
  .obtain⟨wo,e⟩:∃wo:World,wo=wr:=⟨_,rfl⟩;subst e;obtain⟨b',akX,ea,hbl,hcs⟩:=(HPR.out _ HBR.out).get (by omega);have x0:=hcs i KN 0 (by omega);have z1:=hcs i KN 1 (by omega);have z2:=hcs i KN 2 (by omega);have z3:=hcs i KN 3 (by omega);simp only[eMv,aT,aS,eG]at x0 z1 z2 z3;have WF:=ae (HFT.out P[i] (bW KN));have EA:=ae ea;clear hcs ea;generalize P[i]=q at*;obtain⟨g,px,py,pd⟩:=q;simp only at x0 z1 z2 z3;have aFr:(i:Int)<(P.length:Int):=by omega
   have aAb:L.length<=120:=by have:=VG.out.1;omega
   have hlo:=ae (bn.1 GD.out).1;obtain rfl:=EA.out;clear EA;obtain⟨w3,jQ⟩:∃w3,w3=wo.alloc (.cells #[.bool g,ag px,ag py,aJ pd] 79):=⟨_,rfl⟩;have b3:Below wo.heap.size wo w3:=by rw[jQ];exact(aM _ _).alloc (aG _) _
   have X3:w3.heap[wo.heap.size]? =some (ai9 (g,px,py,pd)):=by rw[jQ];exact dE wo _
   have EX:=jQ.symm;have jm:=ae b3;have Ph:=ae X3;clear jQ b3 X3
   go_wp2_with fail
   (try rw[EX])
   clear EX x0 z1 z2 z3;have Pj:=(bn.1 Ph.out).1
   go_loopw [11,53] (fun av jv wr=>∃j:Nat,av=.int .i64 (atF L pd j)/\jv=.int .i64 j/\j<=L.length/\Hid (Below w3.heap.size w3 wr)) (fun _ jv _=>L.length-(intOf jv).toNat)
   case atStart=>exact⟨0,rfl,rfl,bC _,ae (aM _ _)⟩
   case round=>
    obtain⟨j,rfl,rfl,hj,YD⟩:=hrel;by_cases jl:j<L.length
    .have LJ:(j:Int)<(L.length:Int):=by omega
     have Qa:=jm.out.trans (YD.out.mono jm.out.size);obtain⟨la',lc',ev,-,-,hRL⟩:=dU.aL cZ (by decide) HOW.out;injection ev with ev _ ev2;subst ev ev2;obtain⟨b9,Gn,ea,hbl,hcs⟩:=(hRL.below Qa).get (by omega);have k1:=hcs j jl 0 (by omega);have k2:=hcs j jl 1 (by omega);have k3:=hcs j jl 2 (by omega);simp only[fH,aT,aS,eG]at k1 k2 k3;have HAS:=ae (NK (d:=pd) jl);have EA:=ae ea;clear hcs ea hRL;obtain⟨q,hq⟩:∃q,q=L[j]:=⟨_,rfl⟩;rw[<-hq]at k1 k2 k3 HAS;clear hq;obtain⟨qx,qy,qd⟩:=q;simp only at k1 k2 k3 HAS;have y3:wr.cell? (ah wo.heap.size 3)=some (aJ pd):=(rW ((YD.out.block _ Pj).trans Ph.out)).2.2.2;obtain rfl:=EA.out;clear EA;obtain⟨w4,Rs⟩:∃w4,w4=wr.alloc (.cells #[ag qx,ag qy,aJ qd] 29):=⟨_,rfl⟩;have b4:Below wr.heap.size wr w4:=by rw[Rs];exact(aM _ _).alloc (aG _) _
     have X4:w4.heap[wr.heap.size]? =some (Cy (qx,qy,qd)):=by rw[Rs];exact dE wr _
     have EX:=Rs.symm;obtain⟨t1,t2,t3⟩:=jq X4;have t4:w4.cell? (ah wo.heap.size 3)=some (aJ pd):=(dX (a:=(ah wo.heap.size 3)) (b4.block wo.heap.size (by have:=YD.out.size;omega))).trans y3;have kJ:=ae (YD.out.trans (b4.mono YD.out.size));clear Rs b4 X4 Qa;by_cases he:qd=pd
     .have d0:(qd==pd)=true:=by simp[he]
      have d1:decide (qd=pd)=true:=by simp[he]
      rw[aR he]at HAS;clear he;go_wp2;go_roundw
      case rel=>exact⟨j+1,by rw[HAS.out],by go_num,by omega,kJ⟩
      case measure=>simp[intOf];omega
     .have d0:(qd==pd)=false:=by simp[he]
      have d1:decide (qd=pd)=false:=by simp[he]
      rw[aP he]at HAS;clear he;go_wp2;go_roundw
      case rel=>exact⟨j+1,by rw[HAS.out],by go_num,by omega,kJ⟩
      case measure=>simp[intOf];omega
    .obtain rfl:j=L.length:=by omega
     have Qa:=jm.out.trans (YD.out.mono jm.out.size);have X5:=(YD.out.block _ Pj).trans Ph.out;have AT:=aar (L:=L) (d:=pd) (aG L.length);obtain⟨av,hat⟩:∃av,av=atF L pd L.length:=⟨_,rfl⟩;rw[<-hat]at AT |-;clear hat;obtain⟨w5,e⟩:∃w5:World,w5=wr:=⟨_,rfl⟩;subst e;have om:=ae (HBR.out.trans (Qa.mono HBR.out.size));have uJ:=ae ((Qa.block _ hlo.out).trans GD.out);have HO5:=ae (au HOW.out Qa);have SS:=ae (HPT.out.below Qa);have hs5:=Qa.size;have VQ:Hid (∀k,G k->w1.heap.size<=k/\k<w5.heap.size/\(Value.slice la L.length lc).ownBlock≠some k):=fun k hk=>⟨(HGD.out k hk).1,bJ (HGD.out k hk).2.1 hs5,(HGD.out k hk).2.2⟩;obtain⟨y0,y1,y2,y3⟩:=rW X5;simp only at y0 y1 y2 y3;have HX:=ae X5;have HOB:Hid (∀k,(Value.slice la L.length lc).ownBlock=some k->w2.heap.size<=k/\k<wo.heap.size):=fun k hk=>HOW.out.lt k hk;have aFs:w1.heap.size<=w2.heap.size:=apa;have XR:mm<5000:=by have:=VG.out.2;omega
     have hl5:=(bn.1 X5).1;have V6:=uJ.out;have Cm:w.heap.size<w1.heap.size:=Y5;clear X5 Qa YD HPT HGD HOW GD HBR HPR HFT V6;rcases AT with⟨rfl,hno⟩|⟨k,hk,-,rfl,hkd⟩
     .cases g with
      |true=>
       go_wp2;go_roundw
       case rel=>exact⟨i+1,L,la,lc,G,mm,N,wk,by go_num,rfl,by omega,by omega,⟨by have:=VG.out.1;omega,by have:=VG.out.2;omega⟩,HO5,SS,VQ,om,uJ⟩
       case measure=>simp[intOf];omega
      |false=>
       have apb:pd∉ids L:=fun h9=>by
        obtain⟨q,hq,e⟩:=dY.1 h9;obtain⟨k,hk,rfl⟩:=jA hq;exact hno k hk (by omega) e
       have TY:=ae apb;clear hno apb
       go_upto_region 17 with fail
       go_wp2_with (at_builtin;go_loud (refine cz uT w2.heap.size HO5.out [.int .i64 px,.int .i64 py,.int .u32 pd] rfl (by simp[Value.oneCell']) rfl _ _ rfl rfl _ rfl (by unfold maxLen;omega) (by omega) (by omega) ?_;intro v' w6 hown' hg hblk;obtain⟨g6,c6,rfl,aci,acj,ack,acm⟩:=bf hown' (by omega);have K6:aC (fun k=>(Value.slice la L.length lc).ownBlock=some k) w5 w6:=((aC.refl _ w5).grown hg fun k e=>.inl e);have y6:=bL K6 HX.out (fun e=>by have:=HOB.out _ e;omega);obtain⟨y0,y1,y2,y3⟩:=rW y6;simp only at y0 y1 y2 y3;have lD:=ae K6;have NP:=ae hown';have uZ:=ae hblk;clear K6 hown' hg hblk y6))
       have HP6:=SS.out.kept lD.out (fun k hk e=>(VQ.out k hk).2.2 e);have CA:=ae (Im HP6 XR px py pd WF.out TY.out);have hsv:w5.heap.size<=w6.heap.size:=lD.out.size;have HNG:Hid (¬G g6):=fun h9=>by
        have h1:=VQ.out g6 h9;rcases gm uZ.out with e|⟨b,e,hb⟩
        .exact h1.2.2 (e.symm.trans rfl)
        .have:g6=b:=by injection e
         omega
       clear HP6
       go_wp2_with fail
       refine CA.out.mono ?_;rintro e w7 ⟨n,sM,rfl,hP7,Ng⟩;have hs7:=Ng.size;have HO7:=ae (aY NP.out Ng (fun gb e h9=>HNG.out (by obtain rfl:g6=gb:=(by injection e);exact h9)));have Cf:=ae ((om.out.trans (lD.out.toBelow om.out.size (fun k e=>by have:=HOB.out k e;omega))).trans (Ng.toBelow (by have:=om.out.size;omega) (fun k h9=>by have:=VQ.out k h9;omega)));have HX7:=ae (bL Ng (bL lD.out uJ.out (fun e=>by have:=HOB.out _ e;omega)) (fun h9=>by have:=VQ.out _ h9;omega));have HP7:=ae hP7;have HG7:Hid (∀k,(G k\/w6.heap.size<=k/\k<w7.heap.size)->w1.heap.size<=k/\k<w7.heap.size/\(aD g6 (L++[(px,py,pd)]).length c6).ownBlock≠some k):=by
        rintro k (hk|hk)
        .have h1:=VQ.out k hk;exact⟨h1.1,by omega,fun e=>HNG.out (by obtain rfl:g6=k:=(by injection e);exact hk)⟩
        .exact⟨by omega,hk.2,fun e=>by obtain rfl:g6=k:=(by injection e);omega⟩
       have HO8:Hid (w7.ownsRow w2.heap.size 29 3 (aD g6 (L++[(px,py,pd)]).length c6) (L++[(px,py,pd)]).length ((L++[(px,py,pd)]).flatMap fH)):=by
        rw[lW,bF];exact HO7.out
       clear hP7 Ng CA HO7 NP lD uZ SS VQ HO5 uJ om HX;go_wp2;go_roundw
       case rel=>exact⟨i+1,L++[(px,py,pd)],some (ah g6 0),c6,_,mm+1,N+1,wk+n,by go_num,by rw[bF];rfl,by omega,by omega,⟨by have:=VG.out.1;rw[bF];simp;omega,by have:=VG.out.2;omega⟩,HO8,HP7,HG7,Cf,HX7⟩
       case measure=>simp[intOf];omega
     .have BP:decide ((k:Int)>=0)=true:=by simp
      have ru:decide ((k:Int)<0)=false:=by simp
      cases g with
      |false=>
       go_wp2;go_roundw
       case rel=>exact⟨i+1,L,la,lc,G,mm,N,wk,by go_num,rfl,by omega,by omega,⟨by have:=VG.out.1;omega,by have:=VG.out.2;omega⟩,HO5,SS,VQ,om,uJ⟩
       case measure=>simp[intOf];omega
      |true=>
       have hlk:k<=L.length:=by omega
       have ajc:Hid (L.length<=lc):=by
        obtain⟨_,_,e9,-,h9,-⟩:=dU.aL cZ (by decide) HO5.out;injection e9 with _ _ e9;show L.length<=lc;omega
       have Bf:Hid (dU fH 3 w5 la L):=by
        obtain⟨_,_,e9,-,-,h9⟩:=dU.aL cZ (by decide) HO5.out;injection e9 with e9 _ _;rw[e9];exact h9
       have xI:=SS.out.facts.2.2.2.1;have HCF:=ae (Q6 xI hk);have hme:L[k]∈L:=bW hk;generalize L[k]=q at*;obtain⟨qx,qy,qd⟩:=q;simp only at hkd;subst hkd;have CD:=ae (fun W (hW:ji W Pb G mm L N wk 0)=>Q4 hW XR qx qy qd hme);have ZQ:(L.filter fun r=>decide (r≠(qx,qy,qd))).length<=L.length:=gG _ _;clear xI hme;have hw9:IntKind.i64.wrap ((k:Int)+1)=((k+1:Nat):Int):=by rw[DZ _ (by omega)];omega
       go_upto_region 14 with fail
       refine aF (fun W=>True) [0,4,9,10] [(1,false),(2,false),(3,false),(5,false),(6,false),(7,false),(8,false)] (by kernel_rfl) (by kernel_rfl) (fun _ _ d _ _ h=>by cases d<;>exact h) trivial 4 rfl (by kernel_rfl) ?_;simp only[bG,bz,bA,bu,aS,aT,aU]
       iterate 2 (refine aI (fun K hK=>?_);go_simp;first|(refine hK _ ?_;clear hK K)|(apply Exists.intro;refine⟨fun _=>?_,hK _ ?_⟩;rfl;clear hK K))
       refine aI (fun K hK=>?_);refine wF (enc:=fH) uT la L lc 0 k ajc.out (bC _) hlk rfl (.tmp 74) none (some (.tmp 75)) rfl rfl rfl rfl ?_;intro ad1 hr1;refine hK _ ?_;clear hK K
       iterate 3 (refine aI (fun K hK=>?_);go_simp;first|(refine hK _ ?_;clear hK K)|(apply Exists.intro;refine⟨fun _=>?_,hK _ ?_⟩;rfl;clear hK K))
       refine aI (fun K hK=>?_);refine wF (enc:=fH) uT la L lc (k+1) L.length ajc.out (by omega) (aG _) rfl (.tmp 78) (some (.tmp 80)) none rfl rfl rfl rfl ?_;intro ad2 hr2;refine hK _ ?_;clear hK K;refine aQ ?_;refine aK [0,4,9,10] _ _ _ (by kernel_rfl) ?_;simp only[pick,bz,bA,bu,aS,aT];have Bd:Below w5.heap.size w5 w5.drew:=(aM _ _).drew;have AA:w5.heap.size=w5.drew.heap.size:=rfl;generalize w5.drew=wd at*;have hown:=zU (e:=29) (size:=3) wd #[] 0 (aG _) (bC _) rfl;have b3:Below wd.heap.size wd (wd.alloc (.cells #[] 29)):=(aM _ _).alloc (aG _) _;have hA:=hr1 _ (Bf.out.below (Bd.trans (b3.mono (by omega))));rw[lI]at hA;have Y5:(L.take k).length=k:=by rw[eF];omega
       have hl2:((L.take L.length).drop (k+1)).length=L.length-(k+1):=by rw[qg,eF];omega
       have Pj:(L.take k++(L.take L.length).drop (k+1)).length<=L.length:=by rw[bF,Y5,hl2];omega
       refine Au rfl fun K hK=>?_;go_simp;refine hK _ _ ?_;clear hK K;refine jc uT cZ yL wd.heap.size hown hA rfl (.tmp 73) (.tmp 76) rfl rfl lc (by rw[Y5];rfl) (by unfold maxLen;omega) (by omega) (by simp) ?_;intro v4 w4 pq hg4;have b4:=eH b3 hown hg4 (by simp) (aG _);have hA4:=hr2 _ (Bf.out.below (Bd.trans (b4.mono (by omega))));refine jc uT cZ yL wd.heap.size pq hA4 rfl (.tmp 77) (.tmp 81) rfl rfl (lc-(k+1)) (by rw[hl2];rfl) (by unfold maxLen;omega) (by omega) (by exact b4.size) ?_;intro v5 w6 Ie hg5;have b5:=eH b4 pq hg5 b4.size (aG _);have Ig:w6.ownsRow wd.heap.size 29 3 v5 (L.filter fun r=>decide (r≠(qx,qy,qd))).length ((L.filter fun r=>decide (r≠(qx,qy,qd))).flatMap fH):=by
        rw[<-HCF.out,lW,bF];rw[mW]at Ie;simpa using Ie
       have b6:=Bd.trans (b5.mono (by omega));obtain⟨L',hL'⟩:∃L',L'=L.filter fun r=>decide (r≠(qx,qy,qd)):=⟨_,rfl⟩;rw[<-hL']at Ig ZQ;have HL':=ae hL';clear hL';have NP:=ae Ig;have EC:=ae b6;obtain⟨y0,y1,y2,y3⟩:=rW ((b6.block wo.heap.size (by omega)).trans HX.out);simp only at y0 y1 y2 y3;obtain⟨sa,sc,rfl,-,-,-⟩:=dU.aL cZ (by decide) Ig;have HP6:=ae (SS.out.below b6);have Xh:=b6.size;clear Ig b6 Ie hg5 b5 hA4 b4 pq hg4 hA b3 hown Bd hr1 hr2 Bf ajc Y5 hl2 Pj SS HO5 HX
       go_wp2_with fail
       refine(CD.out w6 HP6.out).mono ?_;rintro e w7 ⟨n,N',rfl,hP7,Ng,-⟩;rw[<-HL'.out]at hP7;have hs7:=Ng.size;have hGw:∀k,G k->k<w5.heap.size:=fun k hk=>(VQ.out k hk).2.1;have HO7:=ae (kR (aY NP.out Ng (fun gb e h9=>by have h1:=(NP.out.lt gb e).1;have:=hGw gb h9;omega)) (show w2.heap.size<=wd.heap.size by omega));have Cf:=ae ((om.out.trans (EC.out.mono om.out.size)).trans (Ng.toBelow (by have:=om.out.size;omega) (fun k h9=>by have:=VQ.out k h9;omega)));have HX7:=ae (bL Ng ((EC.out.block w.heap.size (by omega)).trans uJ.out) (fun h9=>by have:=VQ.out _ h9;omega));have HP7:=ae hP7;have HG7:Hid (∀k,(G k\/w6.heap.size<=k/\k<w7.heap.size)->w1.heap.size<=k/\k<w7.heap.size/\(Value.slice sa L'.length sc).ownBlock≠some k):=by
        rintro k (hk|hk)
        .have h1:=VQ.out k hk;exact⟨h1.1,by omega,fun e=>by have:=(NP.out.lt k e).1;omega⟩
        .exact⟨by omega,hk.2,fun e=>by have:=(NP.out.lt k e).2;omega⟩
       clear hP7 Ng CD NP HP6 VQ uJ om EC;go_wp2;go_roundw
       case rel=>exact⟨i+1,L',sa,sc,_,mm+1,N',wk+n,by go_num,rfl,by omega,by omega,⟨by have:=VG.out.1;omega,by have:=VG.out.2;omega⟩,HO7,HP7,HG7,Cf,HX7⟩
       case measure=>simp[intOf];omega
  .obtain rfl:i=P.length:=by omega
   obtain⟨w3,e⟩:∃w3:World,w3=wr:=⟨_,rfl⟩;subst e;have hf:=HPT.out.facts;have hu:Eg L=true:=by unfold Eg;exact Aj hf.2.2.2.1
   have hwl:wfL L:=fun p hp=>hf.2.2.2.2.1 p hp;have hwn:Mm L:=fun p hp=>(hf.2.2.2.2.1 p hp).2.2;have hPb:=HGD.out Pb hf.2.2.2.2.2.2.2;have ao4:=hPb.1;have aFx:=hPb.2.1;have aAf:L.length<=120:=by have:=VG.out.1;omega
   have aFy:w.heap.size<w3.heap.size:=(bn.1 GD.out).1;have hRL:dU fH 3 w3 la L:=by
    obtain⟨_,_,e9,-,-,h9⟩:=dU.aL cZ (by decide) HOW.out;injection e9 with e9 _ _;rw[e9];exact h9
   have Bf:Hid (∀W,Below w3.heap.size w3 W->dU fH 3 W la L):=fun W hW=>hRL.below hW;have aFz:w.heap.size<w1.heap.size:=Y5;clear hf hPb HGD HOW VG HFT HPR V5 Gg fP;have qJ:Below w3.heap.size w3 w3:=aM _ _;have c:=Qg la lc L w3 (Bf.out _ qJ) (by omega) hwn hu;obtain⟨y0,y1,y2,y3,y4⟩:=eP GD.out;simp only at y0 y1 y2 y3 y4;have kg:=ae c;clear c
   go_wp2_with fail
   refine kg.out.mono ?_;rintro e w4 ⟨cb,rfl,hT,hb⟩;clear y0 y1 y2 y3 y4 kg;have Rt:w3.heap.size<=w4.heap.size:=hb.size;have kJ:=ae (HBR.out.trans (hb.mono HBR.out.size));have Xk:=ae ((hb.block w.heap.size (by omega)).trans GD.out);have HP4:=ae (HPT.out.below hb);have ajd:=ae hT;have HW4:=ae (qJ.trans (hb.mono qJ.size));clear qJ;have HW:=HW4;clear HW4;clear hb hT HBR GD HPT;have qJ:Below w3.heap.size w3 w4:=HW.out;have c:=RU la lc L w4 (Bf.out _ qJ) (by omega) hwn hu;obtain⟨y0,y1,y2,y3,y4⟩:=eP Xk.out;simp only at y0 y1 y2 y3 y4;have kg:=ae c;clear c
   go_wp2_with fail
   refine kg.out.mono ?_;rintro e w5 ⟨kb,rfl,hT,hb⟩;clear y0 y1 y2 y3 y4 kg;have hs5:w4.heap.size<=w5.heap.size:=hb.size;have om:=ae (kJ.out.trans (hb.mono kJ.out.size));have uJ:=ae ((hb.block w.heap.size (by omega)).trans Xk.out);have SS:=ae (HP4.out.below hb);have aje:=ae (ajd.out.below hb ajd.out.gZ);have ajf:=ae hT;have HW5:=ae (qJ.trans (hb.mono qJ.size));clear qJ HW;have HW:=HW5;clear HW5;clear hb hT kJ Xk HP4 ajd;have qJ:Below w3.heap.size w3 w5:=HW.out;have c:=ZA la lc L w5 (Bf.out _ qJ) (by omega) hwn hu;obtain⟨y0,y1,y2,y3,y4⟩:=eP uJ.out;simp only at y0 y1 y2 y3 y4;have kg:=ae c;clear c
   go_wp2_with fail
   refine kg.out.mono ?_;rintro e w6 ⟨hb,rfl,hT,hb⟩;clear y0 y1 y2 y3 y4 kg;have Xh:w5.heap.size<=w6.heap.size:=hb.size;have EC:=ae (om.out.trans (hb.mono om.out.size));have RN:=ae ((hb.block w.heap.size (by omega)).trans uJ.out);have HP6:=ae (SS.out.below hb);have ajg:=ae (aje.out.below hb aje.out.gZ);have ajh:=ae (ajf.out.below hb ajf.out.gZ);have aji:=ae hT;have HW6:=ae (qJ.trans (hb.mono qJ.size));clear qJ HW;have HW:=HW6;clear HW6;clear hb hT om uJ SS aje ajf;have qJ:Below w3.heap.size w3 w6:=HW.out;have c:=ZM la lc L w6 (Bf.out _ qJ) (by omega) hwn hu;obtain⟨y0,y1,y2,y3,y4⟩:=eP RN.out;simp only at y0 y1 y2 y3 y4;have kg:=ae c;clear c
   go_wp2_with fail
   refine kg.out.mono ?_;rintro e w7 ⟨db,rfl,hT,hb⟩;clear y0 y1 y2 y3 y4 kg;have hs7:w6.heap.size<=w7.heap.size:=hb.size;have Cf:=ae (EC.out.trans (hb.mono EC.out.size));have HX7:=ae ((hb.block w.heap.size (by omega)).trans RN.out);have HP7:=ae (HP6.out.below hb);have apc:=ae (ajg.out.below hb ajg.out.gZ);have apd:=ae (ajh.out.below hb ajh.out.gZ);have ape:=ae (aji.out.below hb aji.out.gZ);have apf:=ae hT;have HW7:=ae (qJ.trans (hb.mono qJ.size));clear qJ HW;have HW:=HW7;clear HW7;clear hb hT EC RN HP6 ajg ajh aji;clear Bf HW;have c:=ao1 HP7.out;have kg:=ae c;clear c;have hlN:¬((L.length:Int)≠(L.length:Int)):=fun h=>h rfl
   go_wp2_with fail
   refine kg.out.mono ?_;rintro e w9 ⟨rfl,ew⟩;have kI:=ew.symm;clear ew kg;subst kI;obtain⟨A1,hA1⟩:∃A1,A1=hasB L x1 x2 y1 y2:=⟨_,rfl⟩;obtain⟨A2,hA2⟩:∃A2,A2=GG L x1 y1 way:=⟨_,rfl⟩;obtain⟨A3,hA3⟩:∃A3,A3=vX L x1 x2 y2:=⟨_,rfl⟩;obtain⟨o4,hA4⟩:∃o4,o4=vZ L x1 x2:=⟨_,rfl⟩;have sM:A1.length<=120:=by rw[hA1,YQ];exact bO (gG _ _) (by omega)
   have zL:A2.length<=120:=by rw[hA2,Ki,jK];unfold ids;rw[cu];exact bO (gG _ _) (by omega)
   have hn3:A3.length<=120:=by rw[hA3,MV];exact bO (gG _ _) (by omega)
   have HA1:=ae hA1;have HA2:=ae hA2;have HA3:=ae hA3;have HA4:=ae hA4;clear hA1 hA2 hA3 hA4 hlN;have c:=NH HP7.out x1 x2 y1 y2 bi;change Calls _ _ _ _ (Il _ _ _ _ _ _ _ _ (hasB L x1 x2 y1 y2))at c;rw[<-HA1.out]at c;obtain⟨y0,y1,y2,y3,y4⟩:=eP HX7.out;simp only at y0 y1 y2 y3 y4;have kg:=ae c;clear c
   go_wp2_with fail
   refine kg.out.mono ?_;rintro e w8 ⟨v8,t8,rfl,ho,-,hK,hP⟩;clear y0 y1 y2 y3 y4 kg;have hs8:w7.heap.size<=w8.heap.size:=hK.size;have MF:=ae (Cf.out.trans (hK.toBelow Cf.out.size (fun k e=>by subst e;omega)));have YA:=ae (bL hK HX7.out (by omega));have aey:=ae (apc.out.kept hK (fun k h1 h2 e=>by omega));have ajj:=ae (apd.out.kept hK (fun k h1 h2 e=>by omega));have ajk:=ae (ape.out.kept hK (fun k h1 h2 e=>by omega));have ajl:=ae (apf.out.kept hK (fun k h1 h2 e=>by omega));have HP8:=ae hP;have afO:=ae ho;clear hK hP ho Cf HX7 HP7 apc apd ape apf;have c:=JX aey.out x1 x2 y1 y2 bi;rw[<-HA1.out]at c;obtain⟨y0,y1,y2,y3,y4⟩:=eP YA.out;simp only at y0 y1 y2 y3 y4;have kg:=ae c;clear c
   go_wp2_with fail
   refine kg.out.mono ?_;rintro e w9 ⟨v9,t9,rfl,-,ho,hb⟩;clear y0 y1 y2 y3 y4 kg;have Zw:w8.heap.size<=w9.heap.size:=hb.size;have Gs:=ae (MF.out.trans (hb.mono MF.out.size));have Oa:=ae ((hb.block w.heap.size (by omega)).trans YA.out);have HP9:=ae (HP8.out.below hb);have apg:=ae (aey.out.below hb aey.out.gZ);have aph:=ae (ajj.out.below hb ajj.out.gZ);have api:=ae (ajk.out.below hb ajk.out.gZ);have apj:=ae (ajl.out.below hb ajl.out.gZ);have aas:=ae (au afO.out hb);have aat:=ae ho;clear hb ho MF YA HP8 aey ajj ajk ajl afO;have c:=aai HP9.out x1 y1 way xO;rw[<-Ki,<-HA2.out]at c;obtain⟨y0,y1,y2,y3,y4⟩:=eP Oa.out;simp only at y0 y1 y2 y3 y4;have kg:=ae c;clear c
   go_wp2_with fail
   refine kg.out.mono ?_;rintro e sH ⟨v10,t10,rfl,ho,-,hK,hP⟩;clear y0 y1 y2 y3 y4 kg;have avF:w9.heap.size<=sH.heap.size:=hK.size;have Z8:=ae (Gs.out.trans (hK.toBelow Gs.out.size (fun k e=>by subst e;omega)));have ajm:=ae (bL hK Oa.out (by omega));have aau:=ae (apg.out.kept hK (fun k h1 h2 e=>by omega));have SV:=ae (aph.out.kept hK (fun k h1 h2 e=>by omega));have aav:=ae (api.out.kept hK (fun k h1 h2 e=>by omega));have aaw:=ae (apj.out.kept hK (fun k h1 h2 e=>by omega));have aax:=ae (aY aas.out hK (fun gb e h9=>by have:=(aas.out.lt gb e).1;omega));have aay:=ae (aY aat.out hK (fun gb e h9=>by have:=(aat.out.lt gb e).1;omega));have apk:=ae hP;have SX:=ae ho;clear hK hP ho Gs Oa HP9 apg aph api apj aas aat;have c:=afH SV.out hwl x1 y1 way xO;rw[<-HA2.out]at c;obtain⟨y0,y1,y2,y3,y4⟩:=eP ajm.out;simp only at y0 y1 y2 y3 y4;have kg:=ae c;clear c
   go_wp2_with fail
   refine kg.out.mono ?_;rintro e w11 ⟨v11,t11,rfl,-,ho,hb⟩;clear y0 y1 y2 y3 y4 kg;have aFB:sH.heap.size<=w11.heap.size:=hb.size;have ajn:=ae (Z8.out.trans (hb.mono Z8.out.size));have ajo:=ae ((hb.block w.heap.size (by omega)).trans ajm.out);have apl:=ae (apk.out.below hb);have afP:=ae (aau.out.below hb aau.out.gZ);have afQ:=ae (SV.out.below hb SV.out.gZ);have afR:=ae (aav.out.below hb aav.out.gZ);have afS:=ae (aaw.out.below hb aaw.out.gZ);have Q8:=ae (au aax.out hb);have Q9:=ae (au aay.out hb);have Kl:=ae (au SX.out hb);have Km:=ae ho;clear hb ho Z8 ajm apk aau SV aav aaw aax aay SX;have c:=aex apl.out x1 x2 y2;change Calls _ _ _ _ (Il _ _ _ _ _ _ _ _ (vX L x1 x2 y2))at c;rw[<-HA3.out]at c;obtain⟨y0,y1,y2,y3,y4⟩:=eP ajo.out;simp only at y0 y1 y2 y3 y4;have kg:=ae c;clear c
   go_wp2_with fail
   refine kg.out.mono ?_;rintro e w12 ⟨v12,t12,rfl,ho,-,hK,hP⟩;clear y0 y1 y2 y3 y4 kg;have apa:w11.heap.size<=w12.heap.size:=hK.size;have ajp:=ae (ajn.out.trans (hK.toBelow ajn.out.size (fun k e=>by subst e;omega)));have ajq:=ae (bL hK ajo.out (by omega));have aaz:=ae (afP.out.kept hK (fun k h1 h2 e=>by omega));have aaA:=ae (afQ.out.kept hK (fun k h1 h2 e=>by omega));have SY:=ae (afR.out.kept hK (fun k h1 h2 e=>by omega));have aaB:=ae (afS.out.kept hK (fun k h1 h2 e=>by omega));have aaC:=ae (aY Q8.out hK (fun gb e h9=>by have:=(Q8.out.lt gb e).1;omega));have aaD:=ae (aY Q9.out hK (fun gb e h9=>by have:=(Q9.out.lt gb e).1;omega));have S9:=ae (aY Kl.out hK (fun gb e h9=>by have:=(Kl.out.lt gb e).1;omega));have Ta:=ae (aY Km.out hK (fun gb e h9=>by have:=(Km.out.lt gb e).1;omega));have apm:=ae hP;have Tc:=ae ho;clear hK hP ho ajn ajo apl afP afQ afR afS Q8 Q9 Kl Km;have c:=ZB SY.out x1 x2 y2;rw[<-HA3.out]at c;obtain⟨y0,y1,y2,y3,y4⟩:=eP ajq.out;simp only at y0 y1 y2 y3 y4;have kg:=ae c;clear c
   go_wp2_with fail
   refine kg.out.mono ?_;rintro e w13 ⟨v13,t13,rfl,-,ho,hb⟩;clear y0 y1 y2 y3 y4 kg;have aFC:w12.heap.size<=w13.heap.size:=hb.size;have ajr:=ae (ajp.out.trans (hb.mono ajp.out.size));have ajs:=ae ((hb.block w.heap.size (by omega)).trans ajq.out);have apn:=ae (apm.out.below hb);have afT:=ae (aaz.out.below hb aaz.out.gZ);have afU:=ae (aaA.out.below hb aaA.out.gZ);have afV:=ae (SY.out.below hb SY.out.gZ);have afW:=ae (aaB.out.below hb aaB.out.gZ);have Rb:=ae (au aaC.out hb);have Rc:=ae (au aaD.out hb);have Kn:=ae (au S9.out hb);have Ko:=ae (au Ta.out hb);have Kq:=ae (au Tc.out hb);have Kr:=ae ho;clear hb ho ajp ajq apm aaz aaA SY aaB aaC aaD S9 Ta Tc;have c:=aal apn.out x1 x2;rw[<-HA4.out]at c;obtain⟨y0,y1,y2,y3,y4⟩:=eP ajs.out;simp only at y0 y1 y2 y3 y4;have kg:=ae c;clear c
   go_wp2_with fail
   refine kg.out.mono ?_;rintro e w14 ⟨t14,rfl,-,hK,hP⟩;clear y0 y1 y2 y3 y4 kg;have aFD:w13.heap.size<=w14.heap.size:=hK.size;have ajt:=ae (ajr.out.trans (hK.toBelow ajr.out.size (fun k e=>by subst e;omega)));have apo:=ae (bL hK ajs.out (by omega));have aaE:=ae (afT.out.kept hK (fun k h1 h2 e=>by omega));have aaF:=ae (afU.out.kept hK (fun k h1 h2 e=>by omega));have aaG:=ae (afV.out.kept hK (fun k h1 h2 e=>by omega));have aaH:=ae (afW.out.kept hK (fun k h1 h2 e=>by omega));have aaI:=ae (aY Rb.out hK (fun gb e h9=>by have:=(Rb.out.lt gb e).1;omega));have aaJ:=ae (aY Rc.out hK (fun gb e h9=>by have:=(Rc.out.lt gb e).1;omega));have Td:=ae (aY Kn.out hK (fun gb e h9=>by have:=(Kn.out.lt gb e).1;omega));have Te:=ae (aY Ko.out hK (fun gb e h9=>by have:=(Ko.out.lt gb e).1;omega));have Tf:=ae (aY Kq.out hK (fun gb e h9=>by have:=(Kq.out.lt gb e).1;omega));have Tg:=ae (aY Kr.out hK (fun gb e h9=>by have:=(Kr.out.lt gb e).1;omega));have awx:=ae hP;clear hK hP ajr ajs apn afT afU afV afW Rb Rc Kn Ko Kq Kr;clear awx;obtain⟨w15,ew⟩:∃W,W=w14.alloc (.cells #[ag (o4.getD (0,0,0)).1,ag (o4.getD (0,0,0)).2.1,aJ (o4.getD (0,0,0)).2.2] 29):=⟨_,rfl⟩;have hb:Below w14.heap.size w14 w15:=by rw[ew];exact(aM _ _).alloc (aG _) _
   have hg:w15.heap[w14.heap.size]? =some (Cy (o4.getD (0,0,0))):=by rw[ew];exact dE _ _
   have EX:=ew.symm;clear ew;have aFE:w14.heap.size<=w15.heap.size:=hb.size;have aju:=ae (ajt.out.trans (hb.mono ajt.out.size));have ajv:=ae ((hb.block w.heap.size (by omega)).trans apo.out);have aaK:=ae (aaE.out.below hb aaE.out.gZ);have aaL:=ae (aaF.out.below hb aaF.out.gZ);have aaM:=ae (aaG.out.below hb aaG.out.gZ);have Ti:=ae (aaH.out.below hb aaH.out.gZ);have aaN:=ae (au aaI.out hb);have aaO:=ae (au aaJ.out hb);have Tj:=ae (au Td.out hb);have Tk:=ae (au Te.out hb);have Tm:=ae (au Tf.out hb);have Tn:=ae (au Tg.out hb);clear hb ajt apo aaE aaF aaG aaH aaI aaJ Td Te Tf Tg;have aaP:=ae hg;clear hg;have c:=Sy Ti.out x1 x2;rw[show(UX L x1 x2).head?=o4 from HA4.out.symm]at c;obtain⟨y0,y1,y2,y3,y4⟩:=eP ajv.out;simp only at y0 y1 y2 y3 y4;have kg:=ae c;clear c
   go_wp2_with fail
   (try rw[EX])
   refine kg.out.mono ?_;rintro e w16 ⟨⟨p,hp,t16,rfl,-⟩,hb⟩;subst hp;clear y0 y1 y2 y3 y4 kg EX;have aFF:w15.heap.size<=w16.heap.size:=hb.size;have ajw:=ae (aju.out.trans (hb.mono aju.out.size));have apq:=ae ((hb.block w.heap.size (by omega)).trans ajv.out);have aAm:=ae (aaK.out.below hb aaK.out.gZ);have aAn:=ae (aaL.out.below hb aaL.out.gZ);have aAo:=ae (aaM.out.below hb aaM.out.gZ);have aAp:=ae (Ti.out.below hb Ti.out.gZ);have aaQ:=ae (au aaN.out hb);have aaR:=ae (au aaO.out hb);have Tp:=ae (au Tj.out hb);have Tq:=ae (au Tk.out hb);have Tt:=ae (au Tm.out hb);have Tu:=ae (au Tn.out hb);have aaS:=ae ((hb.block _ (bn.1 aaP.out).1).trans aaP.out);clear hb aju ajv aaK aaL aaM Ti aaN aaO Tj Tk Tm Tn aaP;obtain⟨w17,ew⟩:∃W,W=w16.alloc (.cells #[ag (o4.getD (0,0,0)).1,ag (o4.getD (0,0,0)).2.1,aJ (o4.getD (0,0,0)).2.2] 29):=⟨_,rfl⟩;have hb:Below w16.heap.size w16 w17:=by rw[ew];exact(aM _ _).alloc (aG _) _
   have hg:w17.heap[w16.heap.size]? =some (Cy (o4.getD (0,0,0))):=by rw[ew];exact dE _ _
   have EX:=ew.symm;clear ew;have aFG:w16.heap.size<=w17.heap.size:=hb.size;have ajx:=ae (ajw.out.trans (hb.mono ajw.out.size));have aps:=ae ((hb.block w.heap.size (by omega)).trans apq.out);have aaT:=ae (au aaQ.out hb);have aaU:=ae (au aaR.out hb);have Kt:=ae (au Tp.out hb);have Ku:=ae (au Tq.out hb);have Kv:=ae (au Tt.out hb);have Kw:=ae (au Tu.out hb);have aaV:=ae ((hb.block _ (bn.1 aaS.out).1).trans aaS.out);clear hb ajw apq aaQ aaR Tp Tq Tt Tu aaS;have aaW:=ae hg;clear hg;obtain⟨av8,cv8,rfl,-,-,-⟩:=Rd.aL aaT.out;obtain⟨av9,cv9,rfl,-,-,-⟩:=Rd.aL aaU.out;obtain⟨awy,awz,rfl,-,-,-⟩:=Rd.aL Kt.out;obtain⟨awC,awD,rfl,-,-,-⟩:=Rd.aL Ku.out;obtain⟨awE,awF,rfl,-,-,-⟩:=Rd.aL Kv.out;obtain⟨awG,awH,rfl,-,-,-⟩:=Rd.aL Kw.out;obtain⟨_,_,e9,-,-,h9⟩:=Rd.aL aaT.out;injection e9 with e9 q1 q2;rw[<-e9]at h9;clear e9 q1 q2;obtain⟨_,_,e9,-,-,h8⟩:=Rd.aL aaU.out;injection e9 with e9 q1 q2;rw[<-e9]at h8;clear e9 q1 q2;have c:=zK av8 av9 A1 A1 A1.length A1.length cv8 cv9 w17 rfl rfl h9 h8 (by omega) (by omega);rw[show decide (A1=A1)=true from Aj rfl]at c;have kg:=ae c;clear c h8 h9
   go_wp2_with fail
   (try rw[EX])
   refine kg.out.mono ?_;rintro e w18 ⟨rfl,hb⟩;clear kg EX;have aFL:w17.heap.size<=w18.heap.size:=hb.size;have ajy:=ae (ajx.out.trans (hb.mono ajx.out.size));have apt:=ae ((hb.block w.heap.size (by omega)).trans aps.out);have aez:=ae (au Kt.out hb);have aeA:=ae (au Ku.out hb);have Tv:=ae (au Kv.out hb);have Tw:=ae (au Kw.out hb);have aaX:=ae ((hb.block _ (bn.1 aaV.out).1).trans aaV.out);have aaY:=ae ((hb.block _ (bn.1 aaW.out).1).trans aaW.out);clear hb ajx aps Kt Ku Kv Kw aaV aaW;obtain⟨_,_,e9,-,-,h9⟩:=Rd.aL aez.out;injection e9 with e9 q1 q2;rw[<-e9]at h9;clear e9 q1 q2;obtain⟨_,_,e9,-,-,h8⟩:=Rd.aL aeA.out;injection e9 with e9 q1 q2;rw[<-e9]at h8;clear e9 q1 q2;have c:=zK awy awC A2 A2 A2.length A2.length awz awD w18 rfl rfl h9 h8 (by omega) (by omega);rw[show decide (A2=A2)=true from Aj rfl]at c;have kg:=ae c;clear c h8 h9
   go_wp2_with fail
   refine kg.out.mono ?_;rintro e w19 ⟨rfl,hb⟩;clear kg;have aFM:w18.heap.size<=w19.heap.size:=hb.size;have ajz:=ae (ajy.out.trans (hb.mono ajy.out.size));have apu:=ae ((hb.block w.heap.size (by omega)).trans apt.out);have aeB:=ae (au Tv.out hb);have aeC:=ae (au Tw.out hb);have aaZ:=ae ((hb.block _ (bn.1 aaX.out).1).trans aaX.out);have aa0:=ae ((hb.block _ (bn.1 aaY.out).1).trans aaY.out);clear hb ajy apt Tv Tw aaX aaY;obtain⟨_,_,e9,-,-,h9⟩:=Rd.aL aeB.out;injection e9 with e9 q1 q2;rw[<-e9]at h9;clear e9 q1 q2;obtain⟨_,_,e9,-,-,h8⟩:=Rd.aL aeC.out;injection e9 with e9 q1 q2;rw[<-e9]at h8;clear e9 q1 q2;have c:=zK awE awG A3 A3 A3.length A3.length awF awH w19 rfl rfl h9 h8 (by omega) (by omega);rw[show decide (A3=A3)=true from Aj rfl]at c;have kg:=ae c;clear c h8 h9
   go_wp2_with fail
   refine kg.out.mono ?_;rintro e w20 ⟨rfl,hb⟩;clear kg;have aFN:w19.heap.size<=w20.heap.size:=hb.size;have apv:=ae (ajz.out.trans (hb.mono ajz.out.size));have aFO:=ae ((hb.block w.heap.size (by omega)).trans apu.out);have apw:=ae ((hb.block _ (bn.1 aaZ.out).1).trans aaZ.out);have apx:=ae ((hb.block _ (bn.1 aa0.out).1).trans aa0.out);clear hb ajz apu aaZ aa0;obtain⟨z0,z1,z2⟩:=jq apw.out;obtain⟨z3,z4,z5⟩:=jq apx.out;have kg:=ae (VP w20)
   go_wp2_with fail
   refine kg.out.mono ?_;rintro e w99 ⟨rfl,hb⟩;have awK:=ae (apv.out.trans (hb.mono apv.out.size));clear hb z0 z1 z2 z3 z4 z5;go_wp2;go_ret;exact⟨rfl,awK.out⟩
end Go.Proofs.YtkjdbndekceffaaGreat
namespace Go.Proofs.YtkjdbndekceffaaGreat
open Go.RowKit Go.ChangeShapes Go.WideShapes Go.Deep
theorem Tx:Tryz.prog.cellsOf 79=4/\Tryz.prog.cellsOf 4=1/\Tryz.prog.cellsOf 29=3/\Tryz.prog.cellsOf 2=1/\Tryz.prog.cellsOf 27=1:=⟨by kernel_rfl,by kernel_rfl,by kernel_rfl,by kernel_rfl,by kernel_rfl⟩
theorem aa1 {H:Type} {enc:TypeId×Value->H} {w:World} {base:Nat} {spare:Nat->Bool} {held:Bool} {fuel:Nat} {c1 c2 c3:Value} {x:DataW H×List MemPlace} (h:DataW.trod enc Tryz.prog w base spare held fuel 29 [c1,c2,c3]=some x):
  ∃p:Int×Int×Int,c1=.int .i64 p.1/\c2=.int .i64 p.2.1/\c3=.int .u32 p.2.2/\(Lit.int .i64 p.1).wf=true/\(Lit.int .i64 p.2.1).wf=true/\(Lit.int .u32 p.2.2).wf=true:=by
 obtain⟨-,-,-,m1,m2⟩:=Tx;obtain⟨y0,y1,y2,n,-,-,t0,t1,t2⟩:=trod_struct3 wU h;simp only[m1,m2,lI,List.drop_succ_cons,List.take_succ_cons,xg]at t0 t1 t2;obtain⟨q0,e0,_,g0⟩:=tT tN t0;obtain⟨q1,e1,_,g1⟩:=tT tN t1;obtain⟨q2,e2,_,g2⟩:=tT lh t2;simp only[List.cons.injEq,and_true]at e0 e1 e2;exact⟨(q0,q1,q2),e0,e1,e2,g0,g1,g2⟩
theorem Re {H:Type} {enc:TypeId×Value->H} {w:World} {base:Nat} {spare:Nat->Bool} {held:Bool} {fuel:Nat} {a:Option Addr} {len cap:Nat} {x:DataW H×List MemPlace} (h:DataW.trod enc Tryz.prog w base spare held fuel 77 [.slice a len cap]=some x):
  ∃l:List Mv,l.length=len/\dU eMv 4 w a l/\len<=cap/\cap<=maxLen/\∀x∈l,(Lit.int .i64 x.2.1).wf=true/\(Lit.int .i64 x.2.2.1).wf=true/\(Lit.int .u32 x.2.2.2).wf=true:=by
 obtain⟨mC,m0,m3,-,-⟩:=Tx;rcases open_slice Tryz.underlying77 h with⟨hcs,_⟩|⟨ad,len',cap',m,n,D,Pl,hcs,_,hl,hm,XR,_,hi⟩
 .simp at hcs;obtain⟨rfl,rfl,rfl⟩:=hcs;exact⟨[],rfl,.nil,aG _,bC _,by simp⟩
 .simp at hcs;obtain⟨rfl,rfl,rfl⟩:=hcs;have hlm:len<=m:=by rw[XR];split<;>omega
  obtain⟨l,uy,hp⟩:=adz len (fun i (p:Mv)=>w.cell? (ad.add (i*4+0))=some (.bool p.1)/\w.cell? (ad.add (i*4+1))=some (ag p.2.1)/\w.cell? (ad.add (i*4+2))=some (ag p.2.2.1)/\w.cell? (ad.add (i*4+3))=some (aJ p.2.2.2)/\(Lit.int .i64 p.2.1).wf=true/\(Lit.int .i64 p.2.2.1).wf=true/\(Lit.int .u32 p.2.2.2).wf=true) (fun i kE=>by
   obtain⟨cs',hc,ht⟩:=hi i (by omega);rw[mC]at hc;obtain⟨_,qL,hat⟩:=World.cells?_some hc
   match cs',qL with
   |[c0,c1,c2,c3],_=>
    obtain⟨y0,y1,n1,-,-,t0,t1⟩:=trod_struct2 Tryz.underlying79 ht;simp only[m0,m3,lI,List.drop_succ_cons,List.take_succ_cons,xg]at t0 t1;obtain⟨b,e0,-⟩:=DataW.trod_bool qP t0;simp only[List.cons.injEq,and_true]at e0;obtain⟨p,e1,e2,e3,g1,g2,g3⟩:=aa1 t1;subst e0 e1 e2 e3;exact⟨(b,p),by simpa[Addr.add_add]using hat 0 (by decide),by simpa[Addr.add_add]using hat 1 (by decide),by simpa[Addr.add_add]using hat 2 (by decide),by simpa[Addr.add_add]using hat 3 (by decide),g1,g2,g3⟩)
  refine⟨l,uy,?_,hl,hm,fun x hx=>?_⟩
  .by_cases h0:l=[]
   .exact .inl h0
   .obtain⟨b,off,spot⟩:=ad;have Ee:0<l.length:=Dw.2 h0;have h1:=(hp 0 Ee).1;have hs:spot=none:=by simpa[Addr.add]using World.cell?_spot h1
    subst hs;have j6:∀i,((ah b off):Addr).add i=(ah b (off+i)):=fun i=>by unfold Addr.add;split<;>simp_all
    refine .inr ⟨b,off,rfl,?_,fun i hi j hj=>?_⟩
    .have:=iD w _ h1;rw[j6]at this;exact this
    .have h2:=hp i hi;simp only[j6]at h2;rw[Al]
     match j,hj with
     |0,_=>exact h2.1
     |1,_=>exact h2.2.1
     |2,_=>exact h2.2.2.1
     |3,_=>exact h2.2.2.2.1
  .obtain⟨i,hi,rfl⟩:=jA hx;exact(hp i hi).2.2.2.2
end Go.Proofs.YtkjdbndekceffaaGreat
