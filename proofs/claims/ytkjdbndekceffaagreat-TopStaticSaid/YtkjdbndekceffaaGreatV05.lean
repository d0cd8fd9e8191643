/- A part of the proof; its text was made small by a program (no remarks, short names). -/
import Derived.Test.YtkjdbndekceffaaGreatV00
import Derived.Test.YtkjdbndekceffaaGreatV03
import Derived.Test.YtkjdbndekceffaaGreatV01
set_option linter.unusedSimpArgs false
set_option linter.unusedVariables false
set_option maxRecDepth 100000
set_option maxHeartbeats 16000000
namespace Go.Proofs.YtkjdbndekceffaaGreat
open Go.RowKit Go.Shelf
attribute [local go_sem] Oper.semAt_some
abbrev alp (kid:List Bool):={q:Nat // q<kid.length/\kid[q]? =some false}
def agK (w0:World) (nd:Array Value) (kv:Value) (base:Nat) (kid:List Bool) (pre:List (alp kid)) (W:World):Prop:=
 W.heap[w0.heap.size]? =some (.cells nd 163 (0,0))/\W.heap[w0.heap.size+1]? =some (.cells #[kv] 95 (0,0))/\W.heap[w0.heap.size+2]? =some (.cells #[.bool false] 4 (0,0))/\W.heap[w0.heap.size+3]? =some (.cells #[ag pre.length] 3 (0,0))/\W.ownsRow base 4 1 kv kid.length (kid.map Value.bool)/\Below w0.heap.size w0 W
theorem Xd {w0:World} {B base:Nat} {nd:Array Value} {kv:Value} {kid:List Bool} (hB:w0.heap.size<=B):OwnFrom B (agK w0 nd kv base kid):=by
 rintro s W W' row ⟨h0,h1,h2,h3,h4,h5⟩ hg hr;have hne:∀(b:Nat) cs t fr,W.heap[b]? =some (.cells cs t fr)->W'.heap[b]? =W.heap[b]? :=fun b cs t fr hb=>hg.block b (bn.1 hb).1 fun e=>by
  obtain⟨-,o,ho,hc⟩:=hr b e.symm;rw[hb]at ho;injection ho with ho;subst ho;cases hc
 refine⟨(hne _ _ _ _ h0).trans h0,(hne _ _ _ _ h1).trans h1,(hne _ _ _ _ h2).trans h2,(hne _ _ _ _ h3).trans h3,bB h4 fun gb e=>?_,h5.grown hg h5.size fun k e=>bO hB (hr k e).1⟩;rcases h4.2 with⟨rfl,_⟩|⟨g9,cap,cur,rfl,_,hh,_⟩
 .cases e
 .simp only[Value.ownBlock,jB]at e;subst e;exact hne _ _ _ _ hh
theorem O3 (F:Fence) (n:Nat) (hF:F.fn 319) (hFk:F.fn 343) (El:F.fn 364) (hro:F.round=none) (hn:3<=n) (f t it:Int) (i j:Nat) (oV:i≠j) (g m cp base:Nat) (kid:List Bool) (w:World) (hk:kid.length=m) (hm:m<=100000) (hi:kid[i]? =some false) (hj:kid[j]? =some false)
  (hrow:w.ownsRow base 4 1 (aD g m cp) m (kid.map Value.bool)):
  CallsIn F n Tryz.prog 319 #[Ej 2 i j f t it,aD g m cp] w (iX w (.bool true)):=by
 have h1:1<=n:=by omega
 subst hk;have HR:=ae hrow;have hg:g<w.heap.size:=(hrow.lt g rfl).2;refine IA Tryz.func319 rfl hF ?_ hro;simp only[Tryz.ntmps319,tH,fU,iG,Nat.reduceAdd,Nat.reduceSub,sU,sV,tJ,sZ,iV,nT]
 gi_wp2_with (gi_at_call 343;refine(CZ F (n-1) hFk hro _ _ _ _ _ _ _).mono ?_;rintro e w' ⟨rfl,rfl⟩)
 obtain⟨wk,ni⟩:∃wk,wk=((((w.alloc (lY 2 i j f t it)).alloc (.cells #[aD g kid.length cp] 95)).alloc (.cells #[.bool false] 4)).alloc (.cells #[ag 0] 3)).alloc (lY 2 i j f t it):=⟨_,rfl⟩;have hB:Below w.heap.size w wk:=by rw[ni];exact(((((aM _ w).alloc (aG _) _).alloc (by simp) _).alloc (by simp;omega) _).alloc (by simp;omega) _).alloc (by simp;omega) _
 have hsz:wk.heap.size=w.heap.size+5:=by rw[ni];simp
 have hb0:wk.heap[w.heap.size]? =some (.cells #[.int .u8 2,ag i,ag j,ag f,ag t,ag 0,ag it] 163 (0,0)):=by
  rw[ni];exact(dB _ _ _ (by first|(simp;done)|(simp;omega))).trans ((dB _ _ _ (by first|(simp;done)|(simp;omega))).trans ((dB _ _ _ (by first|(simp;done)|(simp;omega))).trans (OM w _ _)))
 have hb1:wk.heap[w.heap.size+1]? =some (.cells #[aD g kid.length cp] 95 (0,0)):=by
  rw[ni];exact(dB _ _ _ (by simp)).trans ((dB _ _ _ (by simp)).trans ((dB _ _ _ (by simp)).trans (Jb w _ _)))
 have hb2:wk.heap[w.heap.size+2]? =some (.cells #[.bool false] 4 (0,0)):=by
  rw[ni];have h9:=dE ((w.alloc (lY 2 i j f t it)).alloc (.cells #[aD g kid.length cp] 95)) (.cells #[.bool false] 4);rw[show((w.alloc (lY 2 i j f t it)).alloc (.cells #[aD g kid.length cp] 95)).heap.size=w.heap.size+2 by simp]at h9;exact(dB _ _ _ (by simp)).trans ((dB _ _ _ (by simp)).trans h9)
 have hb3:wk.heap[w.heap.size+3]? =some (.cells #[ag 0] 3 (0,0)):=by
  rw[ni];have h9:=dE (((w.alloc (lY 2 i j f t it)).alloc (.cells #[aD g kid.length cp] 95)).alloc (.cells #[.bool false] 4)) (.cells #[ag 0] 3);rw[show(((w.alloc (lY 2 i j f t it)).alloc (.cells #[aD g kid.length cp] 95)).alloc (.cells #[.bool false] 4)).heap.size=w.heap.size+3 by simp]at h9;exact(dB _ _ _ (by simp)).trans h9
 have sM:wk.cell? (ah (w.heap.size+1+1+1+1) 1)=some (ag i):=by
  rw[ni,fw _ _ _ _ (by simp)];rfl
 have zL:wk.cell? (ah (w.heap.size+1+1+1+1) 2)=some (ag j):=by
  rw[ni,fw _ _ _ _ (by simp)];rfl
 rw[<-ni];have OV:Hid (agK w #[.int .u8 2,ag i,ag j,ag f,ag t,ag 0,ag it] (aD g kid.length cp) base kid [] wk):=⟨hb0,hb1,hb2,hb3,au HR.out hB,hB⟩;have HWK:=ae ni;have kE:=(gD.1 hi).1;have jl:=(gD.1 hj).1;clear ni hB hb0 hb1 hb2 hb3 hrow;refine IB hro h1 (gf:=364) (lb:=#[ay (w.heap.size+1+1+1+1)]) rfl El (dF Tryz.func364 (by kernel_rfl) rfl)
  (Lm (α:=alp kid) (fun x=>(x.1:Int)) ⟨i,kE,hi⟩ ⟨j,jl,hj⟩ F (n-1) El hro (by omega) (w.heap.size+1+1+1+1) wk (by omega) sM zL (by simp) (by simp)) WH.trans (fun W l o o' hl _ _ _=>Da (B:=wk.heap.size) (by omega) W l o o' hl) (aM _ _) (fun _=>rfl)
  (fun pre W=>agK w #[.int .u8 2,ag i,ag j,ag f,ag t,ag 0,ag it] (aD g kid.length cp) base kid pre W)
  (fun _ _ _=>False)
  (Xd (by omega))
  (fun _ _ _ _ _ hs _ _=>hs)
  OV.out
  (fun x=>{tmps:=#[Ej 2 i j f t it,aD g kid.length cp,ay w.heap.size,ay (w.heap.size+1),ay (w.heap.size+1+1),ay (w.heap.size+1+1+1),ag x.1,Ej 2 i j f t it,.func (.func 364) #[] #[ay (w.heap.size+1+1+1+1)],ag x.1,undef,undef,undef,undef,undef,undef,undef,undef,undef,undef,undef,undef,undef,undef,undef,undef,undef,undef,undef,undef,undef,undef,undef,undef,undef,undef,undef,undef,undef,undef,undef,undef,undef],defers:=[]}) ?assign ?body ?done ?stop
 case assign=>
  intro l x W K hK
  gi_wp2
  exact hK
 case body=>
  rintro l pre ⟨q,hq,hqf⟩ W ⟨hb0,hb1,hb2,hb3,hr,Ga⟩ hpl;have c1:W.cell? (ah (w.heap.size+1) 0)=some (aD g kid.length cp):=by simp[World.cell?,hb1]
  have c3:W.cell? (ah (w.heap.size+1+1+1) 0)=some (ag pre.length):=by simp[World.cell?,hb3]
  have f3:W.frozen? (ah (w.heap.size+1+1+1) 0)=false:=by simp[World.frozen?,hb3]
  have z:=hr.cellAt q (by omega);rw[iO,hqf]at z;simp only[aU]at z;have hq2:(q:Int)<(kid.length:Int):=by omega
  have dq:decide ((q:Int)<0)=false:=by simp
  have dq2:decide (kid.length<=q)=false:=by simp;omega
  have HB0:=ae hb0;have Ls:=ae hb1;have fP:=ae hb2;have jm:=ae hb3;have Co:=ae hr;have Pd:=ae Ga;clear hb0 hb1 hb2 hb3 hr Ga OV
  gi_wp2
  refine⟨IC _ _ _,fun o=>dX (aH (by first|(simp;done)|(simp;omega))),(aH (by first|(simp;done)|(simp;omega))).trans HB0.out,(aH (by first|(simp;done)|(simp;omega))).trans Ls.out,(aH (by first|(simp;done)|(simp;omega))).trans fP.out,?_,bB Co.out (fun gb e=>aH (by have h9:g=gb:=(by injection e);simp;omega)),Pd.out.setCell (p:=(ah (w.heap.size+1+1+1) 0)) (by simp;omega) _⟩;rw[dH W (w.heap.size+3) 0 _ _ _ jm.out];simp
 case done=>
  rintro D ys W hD rfl ⟨hb0,hb1,hb2,hb3,hr,Ga⟩ hK;have n0:W.cell? (ah w.heap.size 0)=some (.int .u8 2):=by simp[World.cell?,hb0]
  have n1:W.cell? (ah w.heap.size 1)=some (ag i):=by simp[World.cell?,hb0]
  have n2:W.cell? (ah w.heap.size 2)=some (ag j):=by simp[World.cell?,hb0]
  have c2:W.cell? (ah (w.heap.size+1+1) 0)=some (.bool false):=by simp[World.cell?,hb2]
  have f2:W.frozen? (ah (w.heap.size+1+1) 0)=false:=by simp[World.frozen?,hb2]
  have c3:W.cell? (ah (w.heap.size+1+1+1) 0)=some (ag 2):=by simp[World.cell?,hb3]
  have dij:((i:Int)!=(j:Int))=true:=by simp;omega
  have HK:=ae hK;have Pd:=ae Ga;clear hb0 hb1 hb2 hb3 hr Ga hK OV
  gi_wp2
  have hK':=(IC W (ah (w.heap.size+1+1) 0) (.bool true)).same D _ HK.out rfl;refine⟨by simp,.inl ⟨_,_,rfl,IZ hK',?_⟩⟩;have hc5:=cell_kept (World.cell?_setCell_same' W (ah (w.heap.size+1+1) 0) (.bool true) (by rw[c2];rfl)) (grownBy_putObj' _ D (.deferred none)) (fun r e=>by cases e;exact⟨_,hK',rfl⟩);refine⟨.bool true,?_,rfl,(Pd.out.setCell (p:=(ah (w.heap.size+1+1) 0)) (by first|(simp;done)|(simp;omega)) _).trans (belowK_b (w:=w) (aG _) _ D _ _ (by omega) hK' rfl rfl)⟩;simp[results,Tryz.f319,go_sem,hc5]
 case stop=>
  rintro D c pre W _ _ h _;exact h.elim
theorem acs (f t it:Int) (i j:Nat) (oV:i≠j) (g m cp base:Nat) (kid:List Bool) (w:World) (hk:kid.length=m) (hm:m<=100000) (hi:kid[i]? =some false) (hj:kid[j]? =some false)
  (hrow:w.ownsRow base 4 1 (aD g m cp) m (kid.map Value.bool)):
  aO 319 #[Ej 2 i j f t it,aD g m cp] w (iX w (.bool true)):=by
 refine(callsIn_wide (n:=3)).1 ?_;exact O3 _ 3 trivial trivial trivial rfl (by decide) f t it i j oV g m cp base kid w hk hm hi hj hrow
def agL (w0:World) (nd:Array Value) (pre:List (Fin 0)) (W:World):Prop:=
 W.heap[w0.heap.size]? =some (.cells nd 163 (0,0))/\W.heap[w0.heap.size+2]? =some (.cells #[.bool false] 4 (0,0))/\W.heap[w0.heap.size+3]? =some (.cells #[ag 0] 3 (0,0))/\Below w0.heap.size w0 W
theorem Xe {w0:World} {B:Nat} {nd:Array Value} (hB:w0.heap.size<=B):OwnFrom B (agL w0 nd):=by
 rintro s W W' row ⟨h0,h2,h3,h5⟩ hg hr;have hne:∀(b:Nat) cs t fr,W.heap[b]? =some (.cells cs t fr)->W'.heap[b]? =W.heap[b]? :=fun b cs t fr hb=>hg.block b (bn.1 hb).1 fun e=>by
  obtain⟨-,o,ho,hc⟩:=hr b e.symm;rw[hb]at ho;injection ho with ho;subst ho;cases hc
 exact⟨(hne _ _ _ _ h0).trans h0,(hne _ _ _ _ h2).trans h2,(hne _ _ _ _ h3).trans h3,h5.grown hg h5.size fun k e=>bO hB (hr k e).1⟩
theorem TR (F:Fence) (n:Nat) (hF:F.fn 319) (hFk:F.fn 343) (El:F.fn 364) (hro:F.round=none) (hn:3<=n) (f t it:Int) (kv:Value) (hkv:kv.oneCell'=true) (w:World):
  CallsIn F n Tryz.prog 319 #[Ej 1 (-1) (-1) f t it,kv] w (iX w (.bool true)):=by
 have h1:1<=n:=by omega
 refine IA Tryz.func319 rfl hF ?_ hro;simp only[Tryz.ntmps319,tH,fU,iG,Nat.reduceAdd,Nat.reduceSub,sU,sV,tJ,sZ,iV,nT]
 gi_wp2_with (gi_at_call 343;refine(CZ F (n-1) hFk hro _ _ _ _ _ _ _).mono ?_;rintro e w' ⟨rfl,rfl⟩)
 obtain⟨wk,ni⟩:∃wk,wk=((((w.alloc (lY 1 (-1) (-1) f t it)).alloc (.cells #[kv] 95)).alloc (.cells #[.bool false] 4)).alloc (.cells #[ag 0] 3)).alloc (lY 1 (-1) (-1) f t it):=⟨_,rfl⟩;have hB:Below w.heap.size w wk:=by rw[ni];exact(((((aM _ w).alloc (aG _) _).alloc (by simp) _).alloc (by simp;omega) _).alloc (by simp;omega) _).alloc (by simp;omega) _
 have hsz:wk.heap.size=w.heap.size+5:=by rw[ni];simp
 have hb0:wk.heap[w.heap.size]? =some (.cells #[.int .u8 1,ag (-1),ag (-1),ag f,ag t,ag 0,ag it] 163 (0,0)):=by
  rw[ni];exact(dB _ _ _ (by first|(simp;done)|(simp;omega))).trans ((dB _ _ _ (by first|(simp;done)|(simp;omega))).trans ((dB _ _ _ (by first|(simp;done)|(simp;omega))).trans ((dB _ _ _ (by first|(simp;done)|(simp;omega))).trans (dE w _))))
 have hb2:wk.heap[w.heap.size+2]? =some (.cells #[.bool false] 4 (0,0)):=by
  rw[ni];have h9:=dE ((w.alloc (lY 1 (-1) (-1) f t it)).alloc (.cells #[kv] 95)) (.cells #[.bool false] 4);rw[show((w.alloc (lY 1 (-1) (-1) f t it)).alloc (.cells #[kv] 95)).heap.size=w.heap.size+2 by simp]at h9;exact(dB _ _ _ (by simp)).trans ((dB _ _ _ (by simp)).trans h9)
 have hb3:wk.heap[w.heap.size+3]? =some (.cells #[ag 0] 3 (0,0)):=by
  rw[ni];have h9:=dE (((w.alloc (lY 1 (-1) (-1) f t it)).alloc (.cells #[kv] 95)).alloc (.cells #[.bool false] 4)) (.cells #[ag 0] 3);rw[show(((w.alloc (lY 1 (-1) (-1) f t it)).alloc (.cells #[kv] 95)).alloc (.cells #[.bool false] 4)).heap.size=w.heap.size+3 by simp]at h9;exact(dB _ _ _ (by simp)).trans h9
 have sM:wk.cell? (ah (w.heap.size+1+1+1+1) 1)=some (ag (-1)):=by
  rw[ni,fw _ _ _ _ (by simp)];rfl
 have zL:wk.cell? (ah (w.heap.size+1+1+1+1) 2)=some (ag (-1)):=by
  rw[ni,fw _ _ _ _ (by simp)];rfl
 rw[<-ni];have OV:Hid (agL w #[.int .u8 1,ag (-1),ag (-1),ag f,ag t,ag 0,ag it] [] wk):=⟨hb0,hb2,hb3,hB⟩;have HWK:=ae ni;clear ni hB hb0 hb2 hb3;refine IB hro h1 (gf:=364) (lb:=#[ay (w.heap.size+1+1+1+1)]) rfl El (dF Tryz.func364 (by kernel_rfl) rfl)
  (Rj (α:=Fin 0) (fun x=>(x.1:Int)) F (n-1) El hro (by omega) (w.heap.size+1+1+1+1) wk (by omega) sM zL) WH.trans (fun W l o o' hl _ _ _=>Da (B:=wk.heap.size) (by omega) W l o o' hl) (aM _ _) (fun _=>rfl)
  (fun pre W=>agL w #[.int .u8 1,ag (-1),ag (-1),ag f,ag t,ag 0,ag it] pre W)
  (fun _ _ _=>False)
  (Xe (by omega))
  (fun _ _ _ _ _ hs _ _=>hs)
  OV.out
  (fun x=>{tmps:=#[Ej 1 (-1) (-1) f t it,kv,ay w.heap.size,ay (w.heap.size+1),ay (w.heap.size+1+1),ay (w.heap.size+1+1+1),ag x.1,Ej 1 (-1) (-1) f t it,.func (.func 364) #[] #[ay (w.heap.size+1+1+1+1)],ag x.1,undef,undef,undef,undef,undef,undef,undef,undef,undef,undef,undef,undef,undef,undef,undef,undef,undef,undef,undef,undef,undef,undef,undef,undef,undef,undef,undef,undef,undef,undef,undef,undef,undef],defers:=[]}) ?assign ?body ?done ?stop
 case assign=>
  intro l x W K hK
  gi_wp2
  exact hK
 case body=>
  intro l pre x W _ h;exact absurd x.2 (ll _)
 case done=>
  rintro D ys W hD rfl ⟨hb0,hb2,hb3,Ga⟩ hK;have n0:W.cell? (ah w.heap.size 0)=some (.int .u8 1):=by simp[World.cell?,hb0]
  have n1:W.cell? (ah w.heap.size 1)=some (ag (-1)):=by simp[World.cell?,hb0]
  have n2:W.cell? (ah w.heap.size 2)=some (ag (-1)):=by simp[World.cell?,hb0]
  have c2:W.cell? (ah (w.heap.size+1+1) 0)=some (.bool false):=by simp[World.cell?,hb2]
  have f2:W.frozen? (ah (w.heap.size+1+1) 0)=false:=by simp[World.frozen?,hb2]
  have c3:W.cell? (ah (w.heap.size+1+1+1) 0)=some (ag 0):=by simp[World.cell?,hb3]
  have HK:=ae hK;have Pd:=ae Ga;clear hb0 hb2 hb3 Ga hK OV
  gi_wp2
  have hK':=(IC W (ah (w.heap.size+1+1) 0) (.bool true)).same D _ HK.out rfl;refine⟨by simp,.inl ⟨_,_,rfl,IZ hK',?_⟩⟩;have hc5:=cell_kept (World.cell?_setCell_same' W (ah (w.heap.size+1+1) 0) (.bool true) (by rw[c2];rfl)) (grownBy_putObj' _ D (.deferred none)) (fun r e=>by cases e;exact⟨_,hK',rfl⟩);refine⟨.bool true,?_,rfl,(Pd.out.setCell (p:=(ah (w.heap.size+1+1) 0)) (by first|(simp;done)|(simp;omega)) _).trans (belowK_b (w:=w) (aG _) _ D _ _ (by omega) hK' rfl rfl)⟩;simp[results,Tryz.f319,go_sem,hc5]
 case stop=>
  rintro D c pre W _ _ h _;exact h.elim
theorem agM (f t it:Int) (kv:Value) (hkv:kv.oneCell'=true) (w:World):
  aO 319 #[Ej 1 (-1) (-1) f t it,kv] w (iX w (.bool true)):=by
 refine(callsIn_wide (n:=3)).1 ?_;exact TR _ 3 trivial trivial trivial rfl (by decide) f t it kv hkv w
end Go.Proofs.YtkjdbndekceffaaGreat
namespace Go.Proofs.YtkjdbndekceffaaGreat
open Go.RowKit
def jH (x y:Int):Int:=if x<y then -1 else if y<x then 1 else 0
theorem acu (x y:Int) (w:World):aO 229 #[ag x,ag y] w fun e w'=>e=.returned (ag (jH x y))/\w'=w:=by
 unfold jH;rcases Int.lt_trichotomy x y with h|rfl|h
 .rw[aR h];go_enter Tryz.func229,Tryz.ntmps229;go_wp2;go_ret;exact⟨rfl,rfl⟩
 .rw[aP (D9 _),aP (D9 _)];go_enter Tryz.func229,Tryz.ntmps229;go_wp2;go_ret;exact⟨rfl,rfl⟩
 .rw[aP (by omega),aR h];have h2:y<=x:=by omega
  go_enter Tryz.func229,Tryz.ntmps229;go_wp2;go_ret;exact⟨rfl,rfl⟩
theorem Jr (x y:Int) (w:World):aO 202 #[aJ x,aJ y] w fun e w'=>e=.returned (ag (jH x y))/\w'=w:=by
 unfold jH;rcases Int.lt_trichotomy x y with h|rfl|h
 .rw[aR h];go_enter Tryz.func202,Tryz.ntmps202;go_wp2;go_ret;exact⟨rfl,rfl⟩
 .rw[aP (D9 _),aP (D9 _)];go_enter Tryz.func202,Tryz.ntmps202;go_wp2;go_ret;exact⟨rfl,rfl⟩
 .rw[aP (by omega),aR h];have h2:y<=x:=by omega
  go_enter Tryz.func202,Tryz.ntmps202;go_wp2;go_ret;exact⟨rfl,rfl⟩
def fH (p:Pt):List Value:=[.int .i64 p.1,.int .i64 p.2.1,.int .u32 p.2.2]
theorem cZ (p:Pt):(fH p).length=3:=rfl
theorem yL (p:Pt):∀u∈fH p,u.oneCell'=true:=by intro u hu;simp[fH]at hu;rcases hu with rfl|rfl|rfl<;>rfl
abbrev ku (x y i:Int):Value:=.agg #[ag x,ag y,aJ i]
def zN (w w':World):Prop:=∃q os,w'=Sort.grow (w.drewN q) os
theorem zN.refl (w:World):zN w w:=⟨0,#[],by rw[Sort.grow_empty];rfl⟩
theorem zN.alloc {w w':World} (h:zN w w') (o:Obj):zN w (w'.alloc o):=by
 obtain⟨q,os,rfl⟩:=h;exact⟨q,os.push o,by simp[Sort.grow,World.alloc,World.drewN]⟩
theorem zN.drew {w w':World} (h:zN w w'):zN w w'.drew:=by
 obtain⟨q,os,rfl⟩:=h;exact⟨q+1,os,rfl⟩
theorem zN.below {w w':World} (h:zN w w') {B:Nat} (hB:B<=w.heap.size):Below B w w':=by
 obtain⟨q,os,rfl⟩:=h;refine⟨rfl,rfl,rfl,by simp[Sort.grow,World.drewN],fun k hk=>?_⟩;show(w.heap++os)[k]? =_;rw[zQ (by omega)]
def kG (p q:Pt):Int:=if jH p.1 q.1=0 then jH p.2.2 q.2.2 else jH p.1 q.1
theorem yM (p q:Pt):kG p q<0↔sK p q:=by
 unfold kG sK jH
 repeat' split
 all_goals omega
theorem acv (p q:Pt):kG p q=0↔p.1=q.1/\p.2.2=q.2.2:=by
 unfold kG jH
 repeat' split
 all_goals omega
theorem agN (a b:Int) (w:World) (n:Nat) (h0:w.cell? (ah n 0)=some (ag a)) (h1:w.cell? (ah n 1)=some (ag b)):
  aO 228 #[aD n 2 2] w fun e w'=>e=.returned (ag (if a=0 then b else a))/\w'=w:=by
 by_cases ha:a=0
 .subst ha;rw[aR rfl];by_cases hb:b=0
  .subst hb;go_enter Tryz.func228,Tryz.ntmps228;go_wp2
   go_loopw [7] (fun i wr=>∃k:Nat,i=.int .i64 k/\k<=2/\wr=w) (fun i _=>2-(intOf i).toNat)
   case atStart=>exact⟨0,rfl,by omega,rfl⟩
   case round=>
    obtain⟨k,rfl,hk,rfl⟩:=hrel;by_cases h2:k<2
    .have hc:wr.cell? (ah n k)=some (ag 0):=by
      obtain rfl|rfl:k=0\/k=1:=by omega
      .exact h0
      .exact h1
     clear h0 h1;go_wp2;go_roundw
     case rel=>exact⟨k+1,by go_num,by omega,by first|rfl|trivial⟩
     case measure=>simp[intOf];omega
    .go_wp2;go_ret;exact⟨rfl,rfl⟩
  .have hd:(b !=0)=true:=by simp[hb]
   go_enter Tryz.func228,Tryz.ntmps228;go_wp2
   go_loopw [7] (fun i wr=>∃k:Nat,i=.int .i64 k/\k<=1/\wr=w) (fun i _=>2-(intOf i).toNat)
   case atStart=>exact⟨0,rfl,by omega,rfl⟩
   case round=>
    obtain⟨k,rfl,hk,rfl⟩:=hrel;by_cases h2:k<1
    .obtain rfl:k=0:=by omega
     clear h1;go_wp2;go_roundw
     case rel=>exact⟨1,by go_num,by omega,by first|rfl|trivial⟩
     case measure=>simp[intOf]
    .obtain rfl:k=1:=by omega
     go_wp2;go_ret;exact⟨rfl,rfl⟩
 .rw[aP ha];have hd:(a !=0)=true:=by simp[ha]
  go_enter Tryz.func228,Tryz.ntmps228;go_wp2
  go_loopw [7] (fun i wr=>i=.int .i64 0/\wr=w) (fun i _=>2-(intOf i).toNat)
  case atStart=>exact⟨rfl,rfl⟩
  case round=>
   obtain⟨rfl,rfl⟩:=hrel;go_wp2;go_ret;exact⟨rfl,rfl⟩
theorem iBy (a b x y:Int) (w:World):aO 152 #[ag a,ag b,aJ x,aJ y] w fun e w'=>e=.returned (ag (if jH a b=0 then jH x y else jH a b))/\zN w w':=by
 have C1:=ae (fun W=>acu a b W);have C2:=ae (fun W=>Jr x y W);generalize jH a b=p at*;generalize jH x y=q at*;go_enter Tryz.func152,Tryz.ntmps152
 go_wp2_with fail
 refine(C1.out _).mono ?_;rintro e w1 ⟨rfl,rfl⟩
 go_wp2_with fail
 refine(C2.out _).mono ?_;rintro e w1 ⟨rfl,rfl⟩
 go_wp2_with fail
 refine(agN p q _ _ (by rw[fw _ _ _ _ rfl];rfl) (by rw[fw _ _ _ _ rfl];rfl)).mono ?_;rintro e w1 ⟨rfl,rfl⟩;go_wp2
 all_goals
  go_ret;exact⟨rfl,(zN.refl _).alloc _⟩
theorem zN.trans {w w1 w2:World} (h:zN w w1) (h2:zN w1 w2):zN w w2:=by
 obtain⟨q,os,rfl⟩:=h;obtain⟨q2,os2,rfl⟩:=h2;refine⟨q+q2,os++os2,?_⟩;rw[<-Sort.grow_grow];show Sort.grow (Sort.grow ((w.drewN q).drewN q2) os) os2=_;rw[gH]
theorem als (p q:Pt) (w:World):aO 94 #[ku p.1 p.2.1 p.2.2,ku q.1 q.2.1 q.2.2] w fun e w'=>e=.returned (ag (kG p q))/\zN w w':=by
 have C1:=ae (fun W=>iBy p.1 q.1 p.2.2 q.2.2 W);unfold kG;generalize(if jH p.1 q.1=0 then jH p.2.2 q.2.2 else jH p.1 q.1)=r at*;go_enter Tryz.func94,Tryz.ntmps94
 go_wp2_with fail
 refine(C1.out _).mono ?_;rintro e w1 ⟨rfl,h⟩;go_wp2;go_ret;exact⟨rfl,(((zN.refl _).alloc _).alloc _).trans h⟩
theorem Pe:∀args w,(callFunc 94 args).run Tryz.prog w=.ok (.enter 94 args) w:=dF Tryz.func94 (by kernel_rfl) rfl
end Go.Proofs.YtkjdbndekceffaaGreat
namespace Go.Proofs.YtkjdbndekceffaaGreat
open Go.RowKit Go.Sort Go.Shelf Go.Lib
section
variable {α:Type} [Inhabited α] {enc:α->List Value} {k:Nat}
theorem yN (hk:∀x,(enc x).length=k) (BP:0<k) (l:List α):(flatK enc k l.toArray).toList=l.flatMap enc:=by
 apply zY;intro t;by_cases ht:t<l.length*k
 .have h1:t/k<l.length:=Nat.div_lt_of_lt_mul (by rw[Ea];exact ht);have h2:t%k<k:=tY _ BP;have h3:=flat_get hk l (t/k) h1 (t%k) h2;rw[Nat.div_add_mod' t k]at h3;rw[h3];have h4:=get_flatK enc k l.toArray t (by simpa using ht);have h5:t<(flatK enc k l.toArray).size:=by simpa using ht
  rw[Ow,Array.getElem?_eq_getElem h5];rw[tV _ t h5]at h4;rw[h4];have h6:t%k<(enc l[t/k]).length:=by rw[hk];exact h2
  rw[dD h6];simp[h1,h6]
 .rw[p9 (by simp;omega),p9 (by rw[iw hk];omega)]
theorem Cq (hk:∀x,(enc x).length=k) (BP:0<k) {w:World} {base g c n:Nat} {e:TypeId} {l:List α} (hn:l.length=n) (h:w.ownsRow base e k (aD g n c) n (l.flatMap enc)):HoldsK enc k w g 0 l.toArray:=by
 intro j hj;have hj':j<n*k:=by rw[<-hn];simpa using hj
 have h1:=h.cellAt j hj';have h2:=h.frozenAt j;rw[lu];refine⟨?_,h2⟩;rw[h1,<-yN hk BP,Ow,Array.getElem?_eq_getElem hj];rw[tV (flatK enc k l.toArray) j hj];rfl
theorem Gb (hk:∀x,(enc x).length=k) (BP:0<k) {w:World} {base g c n:Nat} {e:TypeId} {l l':List α} (hl:l'.length=n) (h:w.ownsRow base e k (aD g n c) n (l.flatMap enc)) (q:Nat) (os:Array Obj):
  (Sort.grow (putRowK enc k (Sort.ahead w q) g 0 l'.toArray) os).ownsRow base e k (aD g n c) n (l'.flatMap enc)/\w.grownBy (Sort.grow (putRowK enc k (Sort.ahead w q) g 0 l'.toArray) os) (some g):=by
 rcases h.2 with⟨h1,_⟩|⟨g',cap,cur,h1,hg,hh,hc,hm,hs,ht⟩
 .cases h1
 .injection h1 with e1 e2 e3;injection e1 with e1;injection e1 with e1 _ _;subst e1 e3;have hlt:g<w.heap.size:=(bn.1 hh).1;have key:(Sort.grow (putRowK enc k (Sort.ahead w q) g 0 l'.toArray) os).heap[g]? =some (.cells (Sort.putCells id 0 (flatK enc k l'.toArray) cur) e (0,0)):=by
   show((w.heap.modify g (Sort.onCells (Sort.putCells id 0 (flatK enc k l'.toArray))))++os)[g]? =_;rw[zQ (by simpa using hlt),zS,aR rfl,hh];rfl
  have hsz:(Sort.putCells id 0 (flatK enc k l'.toArray) cur).size=c*k:=by simp[Sort.putCells,hs]
  have hnk:n*k<=c*k:=qM _ hc;have htk:(Sort.putCells id 0 (flatK enc k l'.toArray) cur).toList.take (n*k)=l'.flatMap enc:=by
   rw[<-yN hk BP];have hfs:(flatK enc k l'.toArray).size=n*k:=by simp[hl]
   generalize flatK enc k l'.toArray=F at*;apply zY;intro j;rw[wP];by_cases hj:j<n*k
   .rw[aR hj];have OH:j<cur.size:=by omega
    simp[Sort.putCells,OH,hfs,hj]
   .rw[aP hj];exact(p9 (by simp;omega)).symm
  refine⟨⟨by rw[iw hk,hl],.inr ⟨g,c,_,rfl,hg,key,hc,hm,hsz,htk⟩⟩,?_⟩;refine⟨rfl,rfl,rfl,?_,fun b hb hne=>?_⟩
  .show w.heap.size<=((w.heap.modify g _)++os).size;simp
  .show((w.heap.modify g _)++os)[b]? =_;rw[zQ (by simpa using hb),zS,aP (fun e=>hne (by rw[e]))]
theorem uq {d d':Array α} (h:PermIn 0 d.size d d'):d'.toList.Perm d.toList:=by
 obtain⟨h1,_,h3⟩:=h;rw[show d.extract 0 d.size=d by simp,show d'.extract 0 d.size=d' by rw[<-h1];simp]at h3;exact h3
theorem og {P:Program} {ρ:Ren} (L:SlLaysF0.n6 P ρ) (hk:∀x,(enc x).length=k) (BP:0<k) (aE:∀w,(isAgg (ρ.t 24)).run P w=.ok true w) (zE:∀w,(Go.sizeOf (ρ.t 24)).run P w=.ok k w) (h1:∀x,∀v∈enc x,v.oneCell'=true)
  (cf:α->α->Int) (hO:SWO (ltOf cf)) (f:Nat) (cb:Array Value) (eg:∀args w,(callFunc f args).run P w=.ok (.enter f args) w)
  (agO:∀x y W,Calls P f (#[.agg (enc x).toArray,.agg (enc y).toArray]++cb) W fun e w'=>e=.returned (ag (cf x y))/\∃q os',w'=Sort.grow (W.drewN q) os')
  {w:World} {base g c n:Nat} {e:TypeId} {l:List α} (hn:l.length=n) (hsz:n<4611686018427387904) (h:w.ownsRow base e k (aD g n c) n (l.flatMap enc)):
  Calls P (ρ.f 6) #[aD g n c,.func (.func f) #[] cb] w fun en w'=>
   en=.returned (.tuple #[])/\∃l':List α,l'.Perm l/\l'.Pairwise (fun x y=>¬cf y x<0)/\w'.ownsRow base e k (aD g n c) n (l'.flatMap enc)/\w.grownBy w' (some g):=by
 have hlt:g<w.heap.size:=by
  rcases h.2 with⟨h1,_⟩|⟨g',cap,cur,h1,hg,hh,_⟩
  .cases h1
  .injection h1 with e1 e2 e3;injection e1 with e1;injection e1 with e1 _ _;subst e1;exact(bn.1 hh).1
 have hc:=AnyQ.slices_SortFunc L k aE zE enc hk h1 cf hO f cb g 0 c l.toArray w eg (fun m os dk _ x y=>agO x y _) (Cq hk BP hn h) hlt (by simpa[hn]using hsz);rw[show l.toArray.size=n by simpa using hn]at hc;refine hc.mono ?_;rintro en w' ⟨he,d',m,os,hp,hs,rfl⟩;rw[show n=l.toArray.size by simpa using hn.symm]at hp hs;have hpl:=uq hp;have hl':d'.toList.length=n:=by rw[hpl.length_eq];simpa using hn
 obtain⟨k1,k2⟩:=Gb hk BP hl' h m os;refine⟨he,d'.toList,hpl,?_,k1,k2⟩;rw[iq];intro i j hi hj oV;have hz:d'.size=n:=by simpa using hl'
 have h3:=hs i j (bC _) oV (by simp at hj |-;omega);simp at hi hj;rw[tV d' j (by omega),tV d' i (by omega)]at h3;unfold ltOf at h3;simpa using h3
end
instance:Inhabited Pt:=⟨(0,0,0)⟩
theorem AR {α:Type} {cf:α->α->Int} {R:α->α->Prop} (h:∀x y,cf x y<0↔R x y) (hi:∀x,¬R x x) (ht:∀x y z,R x y->R y z->R x z) (hn:∀x y z,¬R x y->¬R y z->¬R x z):SWO (ltOf cf) where
 irrefl x:=by unfold ltOf;rw[iE,h];exact hi x
 trans x y z h1 h2:=by unfold ltOf at*;rw[decide_eq_true_iff,h]at*;exact ht x y z h1 h2
 ntrans x y z h1 h2:=by unfold ltOf at*;rw[iE,h]at*;exact hn x y z h1 h2
theorem asc:SWO (ltOf kG):=AR yM yE (fun _ _ _=>AJ) (fun x y z=>by unfold sK;omega)
theorem uu (a:Option Addr) (l:List Pt) (n c:Nat) (w:World) (hn:l.length=n) (h:dU fH 3 w a l) (hl:n<=1000000):
  aO 91 #[.slice a n c] w fun e w'=>∃v,e=.returned v/\w'.ownsRow w.heap.size 29 3 v n (l.flatMap fH)/\Below w.heap.size w w':=by
 subst hn;have q22:∀(w:World) (a:Option Addr) (n c n' c':Nat),(binOp .eql 22 (.slice a n c) (.slice none n' c')).run Tryz.prog w=.ok (.bool a.isNone) w:=fun w a n c n' c'=>Iy w _ _ a n c n' c' DI;cases a with
 |none=>
  have e0:l=[]:=by
   rcases h with h|⟨b,off,h,_⟩
   .exact h
   .cases h
  subst e0;go_enter Tryz.func91,Tryz.ntmps91;go_wp2;go_ret;exact⟨_,rfl,dL _ _ _ _,aM _ _⟩
 |some ad=>
  have hown:=zU (e:=29) (size:=3) w #[] 0 (aG _) (bC _) rfl;have h':dU fH 3 (w.alloc (.cells #[] 29)) (some ad) l:=h.below ((aM _ _).alloc (aG _) _);clear h;go_enter Tryz.func91,Tryz.ntmps91
  go_wp2_with (at_builtin;refine jc uT cZ yL w.heap.size hown h' rfl _ _ rfl rfl c rfl (by unfold maxLen;omega) (by omega) (by simp) ?_;intro v' w' hown' hg)
  go_ret;rw[lu,iV]at hown';exact⟨_,rfl,hown',eH ((aM _ _).alloc (aG _) _) hown hg (by simp) (aG _)⟩
theorem LQ {l l':List Pt} (hu:(ids l).Nodup) (hp:l'.Perm l) (hs:l'.Pairwise fun x y=>¬kG y x<0):l'=gM l:=by
 refine ab8 hu ?_ fun p=>hp.mem_iff;have h2:(ids l').Nodup:=(hp.map _).nodup_iff.2 hu;have h3:l'.Pairwise fun p q=>p.2.2≠q.2.2:=dG.1 h2;refine(hs.and h3).imp fun{a b} hab=>?_;obtain⟨ha,hb⟩:=hab;rw[yM]at ha;unfold sK at*;omega
theorem acw {w:World} {base g c n:Nat} {l:List Pt} (hn:l.length=n) (hsz:n<4611686018427387904) (h:w.ownsRow base 29 3 (aD g n c) n (l.flatMap fH)) (hu:(ids l).Nodup):
  aO 93 #[aD g n c,.func (.func 94) #[] #[]] w fun e w'=>
   e=.returned (.tuple #[])/\w'.ownsRow base 29 3 (aD g n c) n ((gM l).flatMap fH)/\w.grownBy w' (some g):=by
 have hc:=og Tryz.OA cZ (by decide) Tryz.isAgg29 Tryz.sizeOf29 yL kG asc 94 #[] Pe (fun x y W=>als x y W) hn hsz h;change aO 93 _ _ _ at hc;refine hc.mono ?_;rintro e w' ⟨he,l',hp,hs,ho,hg⟩;rw[LQ hu hp hs]at ho;exact⟨he,ho,hg⟩
theorem yO (p:Option Addr) (cap:Nat) (fv:Value) (w:World):
  aO 93 #[.slice p 0 cap,fv] w fun e w'=>e=.returned (.tuple #[])/\w'=w:=Ol Tryz.OA p cap fv w
end Go.Proofs.YtkjdbndekceffaaGreat
namespace Go.Proofs.YtkjdbndekceffaaGreat
open Go.RowKit Go.Sort Go.Shelf Go.Lib Go.Maps
attribute [local go_sem] Oper.semAt_some
theorem Xf (most:Nat) (hm:most<=100000) (w:World):
  aO 231 #[ag most] w fun e w'=>e=.returned (.tuple #[ay w.heap.size,ag 0])/\w'=w.alloc (.cells #[ag most,aN,aN,.bool true] 372):=by
 have h0:decide ((most:Int)<0)=false:=by simp
 have h1:decide ((most:Int)>100000)=false:=by simp;omega
 refine calls_of_wp Tryz.func231 rfl ?_;simp only[Tryz.ntmps231,tH,fU,iG,Nat.reduceAdd,Nat.reduceSub,sU,sV,tJ,sZ,iV,nT];go_wp2;go_ret2;exact⟨rfl,rfl⟩
theorem acx (a:Option Addr) (l:List Nd) (n c:Nat) (w:World) (hn:l.length=n) (h:dU qo 7 w a l) (hl:n<=1000000):
  aO 292 #[.slice a n c] w fun e w'=>∃v,e=.returned v/\w'.ownsRow w.heap.size 163 7 v n (l.flatMap qo)/\Below w.heap.size w w':=by
 subst hn;have q22:∀(w:World) (a:Option Addr) (n c n' c':Nat),(binOp .eql 141 (.slice a n c) (.slice none n' c')).run Tryz.prog w=.ok (.bool a.isNone) w:=fun w a n c n' c'=>Iy w _ _ a n c n' c' Tryz.underlying141;cases a with
 |none=>
  have e0:l=[]:=by
   rcases h with h|⟨b,off,h,_⟩
   .exact h
   .cases h
  subst e0;go_enter Tryz.func292,Tryz.ntmps292;go_wp2;go_ret;exact⟨_,rfl,dL _ _ _ _,aM _ _⟩
 |some ad=>
  have hown:=zU (e:=163) (size:=7) w #[] 0 (aG _) (bC _) rfl;have h':dU qo 7 (w.alloc (.cells #[] 163)) (some ad) l:=h.below ((aM _ _).alloc (aG _) _);clear h;go_enter Tryz.func292,Tryz.ntmps292
  go_wp2_with (at_builtin;refine jc agi jO Rk w.heap.size hown h' rfl _ _ rfl rfl c rfl (by unfold maxLen;omega) (by omega) (by simp) ?_;intro v' w' hown' hg)
  go_ret;rw[lu,iV]at hown';exact⟨_,rfl,hown',eH ((aM _ _).alloc (aG _) _) hown hg (by simp) (aG _)⟩
theorem Pf (most:Nat) (b:Nat) (na:Option Addr) (nc:Nat) (kv:Value) (l:List Nd) (w:World) (hb:w.heap[b]? =some (.cells #[ag most,.slice na l.length nc,kv,.bool true] 372 (0,0))) (h:dU qo 7 w na l) (hl:l.length<=1000000):
  aO 233 #[ay b] w fun e w'=>∃v,e=.returned v/\w'.ownsRow w.heap.size 163 7 v l.length (l.flatMap qo)/\Below w.heap.size w w':=by
 have c1:w.cell? (ah b 1)=some (.slice na l.length nc):=by simp[World.cell?,hb]
 have hC:=acx na l l.length nc w rfl h hl;clear hb h;go_enter Tryz.func233,Tryz.ntmps233
 go_wp2_with (go_at_call 292;refine hC.mono ?_;rintro e w' ⟨v,rfl,ho,Ga⟩)
 go_ret;exact⟨_,rfl,ho,Ga⟩
end Go.Proofs.YtkjdbndekceffaaGreat
namespace Go.Proofs.YtkjdbndekceffaaGreat
open Go.RowKit Go.Sort Go.Shelf Go.Lib Go.Maps
attribute [local irreducible] wpQuiet
attribute [local go_sem] Oper.fM
structure ig (w:World) (b base most:Nat) (nv kv:Value) (l:List Nd) (kid:List Bool):Prop where
 blk:w.heap[b]? =some (.cells #[ag most,nv,kv,.bool true] 372 (0,0))
 jG:w.ownsRow base 163 7 nv l.length (l.flatMap qo)
 row:w.ownsRow base 4 1 kv l.length (kid.map Value.bool)
 len:kid.length=l.length
def lF (b:Nat) (nv kv:Value) (k:Nat):Prop:=k=b\/nv.ownBlock=some k\/kv.ownBlock=some k
def sj (w:World) (b base most:Nat) (nv kv:Value) (l:List Nd) (kid:List Bool) (w':World):Prop:=
 ∃nv' kv',ig w' b base most nv' kv' l kid/\(∀k,lF b nv' kv' k->lF b nv kv k\/w.heap.size<=k)/\aC (lF b nv kv) w w'
theorem ig.lt {w:World} {b base most:Nat} {nv kv:Value} {l:List Nd} {kid:List Bool} (h:ig w b base most nv kv l kid):∀k,lF b nv kv k->k<w.heap.size:=by
 rintro k (rfl|e|e)
 .exact(bn.1 h.blk).1
 .exact(h.jG.lt k e).2
 .exact(h.row.lt k e).2
theorem ig.kept {w w':World} {b base most:Nat} {nv kv:Value} {l:List Nd} {kid:List Bool} (h:ig w b base most nv kv l kid) {S:Nat->Prop} (K:aC S w w') (hS:∀k,lF b nv kv k->¬S k):ig w' b base most nv kv l kid:=
 ⟨bL K h.blk (hS b (.inl rfl)),aY h.jG K (fun gb e=>hS gb (.inr (.inl e))),aY h.row K (fun gb e=>hS gb (.inr (.inr e))),h.len⟩
theorem sj.trans {w w1 w2:World} {b base most:Nat} {nv kv nv1 kv1:Value} {l2:List Nd} {Pg:List Bool} (h1:∀k,lF b nv1 kv1 k->lF b nv kv k\/w.heap.size<=k) (K:aC (lF b nv kv) w w1) (h:sj w1 b base most nv1 kv1 l2 Pg w2):sj w b base most nv kv l2 Pg w2:=by
 obtain⟨nv2,kv2,A,hs,K2⟩:=h;refine⟨nv2,kv2,A,fun k hk=>?_,?_⟩
 .rcases hs k hk with h9|h9
  .exact h1 k h9
  .have:=K.size;exact .inr (by omega)
 .exact((K.mono (fun k h=>.inl h)).trans (K2.mono (fun k h9=>h1 k h9))).strip
theorem fI {w:World} {base:Nat} {e:TypeId} {sz:Nat} {v:Value} {n:Nat} {xs:List Value} (h:w.ownsRow base e sz v n xs):∃a c,v=.slice a n c:=by
 rcases h.2 with⟨rfl,rfl⟩|⟨g,cap,cur,rfl,_⟩<;>exact⟨_,_,rfl⟩
def Ex (b x:Nat) (nv kv:Value) (k L R f t it:Int) (W:World):Prop:=
 W.cell? (ah b 1)=some (nv)/\W.cell? (ah b 2)=some (kv)/\W.cell? (ah x 0)=some (.int .u8 k)/\W.cell? (ah x 1)=some (ag L)/\W.cell? (ah x 2)=some (ag R)/\W.cell? (ah x 3)=some (ag f)/\W.cell? (ah x 4)=some (ag t)/\W.cell? (ah x 5)=some (ag 0)/\W.cell? (ah x 6)=some (ag it)
theorem yP (k L R f t it:Int) (most b base m:Nat) (nv kv:Value) (kid agP:List Bool) (l:List Nd) (w:World) (hl:l.length=m) (hm:m<most) (oh:most<=100000) (hlk:agP.length=m)
  (h:ig w b base most nv kv l kid) (nJ:base<=w.heap.size)
  (HM:∀W,W.ownsRow base 4 1 kv m (kid.map Value.bool)->aO 319 #[Ej k L R f t it,kv] W (iX W (.bool true)))
  (HP:∀W,W.ownsRow base 4 1 kv m (kid.map Value.bool)->base<=W.heap.size->aO 320 #[Ej k L R f t it,kv] W (WJ W base m kv agP)):
  aO 291 #[ay b,Ej k L R f t it] w fun e w'=>e=.returned (.tuple #[ag m,ag 0])/\sj w b base most nv kv (l++[⟨k,L,R,f,t,it⟩]) (agP++[false]) w':=by
 obtain⟨hb,acy,hrow,gU⟩:=h;rw[hl]at acy hrow;have hbl:b<w.heap.size:=(bn.1 hb).1;obtain⟨na,nc,hnv,-,-,-⟩:=dU.aL jO (by decide) acy;rw[hl]at hnv;subst hnv;have c0:w.cell? (ah b 0)=some (ag most):=by simp[World.cell?,hb]
 have c1:w.cell? (ah b 1)=some (.slice na m nc):=by simp[World.cell?,hb]
 have c2:w.cell? (ah b 2)=some kv:=by simp[World.cell?,hb]
 have c3:w.cell? (ah b 3)=some (.bool true):=by simp[World.cell?,hb]
 have HB:=ae hb;have HR:=ae hrow;have HN:=ae acy;have Ey:=ae HM;have HPP:=ae HP;have HKL:=ae gU;have KE:=ae hl;have HLK:=ae hlk;have d1:decide ((m:Int)>=(most:Int))=false:=by simp;omega
 have d3:decide (most<=m)=false:=by simp;omega
 have d2:decide ((most:Int)<=(m:Int))=false:=by simp;omega
 clear hb hrow acy HM HP gU hl hlk;go_enter Tryz.func291,Tryz.ntmps291;go_wp2;obtain⟨wk,ni⟩:∃wk,wk=w.alloc (.cells #[.int .u8 k,ag L,ag R,ag f,ag t,ag 0,ag it] 163):=⟨_,rfl⟩;have yl:Hid (Below w.heap.size w wk):=by rw[ni];exact(aM _ w).alloc (aG _) _
 have HX:Hid (wk.heap[w.heap.size]? =some (.cells #[.int .u8 k,ag L,ag R,ag f,ag t,ag 0,ag it] 163 (0,0))):=by rw[ni];exact dE w _
 rw[<-ni];have hsk:w.heap.size<wk.heap.size:=by rw[ni];simp
 clear ni;have Ez:=ae (au HN.out yl.out);have EB:=ae (au HR.out yl.out);have fK:Hid (wk.heap[b]? =some (.cells #[ag most,.slice na m nc,kv,.bool true] 372 (0,0))):=(yl.out.block b hbl).trans HB.out;have e0:=(yl.out.cell (p:=(ah b 0)) hbl).trans c0;have e1:=(yl.out.cell (p:=(ah b 1)) hbl).trans c1;have e2:=(yl.out.cell (p:=(ah b 2)) hbl).trans c2;have hx:=HX.out;have x0:wk.cell? (ah w.heap.size 0)=some (.int .u8 k):=by simp[World.cell?,hx]
 have x1:wk.cell? (ah w.heap.size 1)=some (ag L):=by simp[World.cell?,hx]
 have x2:wk.cell? (ah w.heap.size 2)=some (ag R):=by simp[World.cell?,hx]
 have x3:wk.cell? (ah w.heap.size 3)=some (ag f):=by simp[World.cell?,hx]
 have x4:wk.cell? (ah w.heap.size 4)=some (ag t):=by simp[World.cell?,hx]
 have x5:wk.cell? (ah w.heap.size 5)=some (ag 0):=by simp[World.cell?,hx]
 have x6:wk.cell? (ah w.heap.size 6)=some (ag it):=by simp[World.cell?,hx]
 clear hx c0 c1 c2 c3;have ky2:=aj e2;have kx0:=aj x0;have kx1:=aj x1;have kx2:=aj x2;have kx3:=aj x3;have kx4:=aj x4;have kx5:=aj x5;have kx6:=aj x6;have HC:Hid (∀p:bg wk,aO 319 #[Ej k L R f t it,kv] p.W fun e w'=>e=.returned (.bool true)/\Below p.W.heap.size p.W w'):=fun p=>Ey.out _ (au EB.out p.h);refine cO (by kernel_rfl) (by kernel_rfl) ?_
 repeat(quiet_step ((go_at_call 319;exact eO (HC.out _))))
 refine mG ?_;intro w5 hw';have o7:Below wk.heap.size wk w5:=by obtain⟨p,rfl⟩:=hw';exact p.h
 clear hw' ky2 kx0 kx1 kx2 kx3 kx4 kx5 kx6 HC;have HN5:=ae (au Ez.out o7);have Gc:=ae (au EB.out o7);have qK:b<wk.heap.size:=by omega
 have om:Hid (w5.heap[b]? =some (.cells #[ag most,.slice na m nc,kv,.bool true] 372 (0,0))):=(o7.block b qK).trans fK.out;have z0:=(o7.cell (p:=(ah b 0)) qK).trans e0;have z1:=(o7.cell (p:=(ah b 1)) qK).trans e1;have z2:=(o7.cell (p:=(ah b 2)) qK).trans e2;have y0:=(o7.cell (p:=(ah w.heap.size 0)) hsk).trans x0;have y1:=(o7.cell (p:=(ah w.heap.size 1)) hsk).trans x1;have y2:=(o7.cell (p:=(ah w.heap.size 2)) hsk).trans x2;have y3:=(o7.cell (p:=(ah w.heap.size 3)) hsk).trans x3;have y4:=(o7.cell (p:=(ah w.heap.size 4)) hsk).trans x4;have y5:=(o7.cell (p:=(ah w.heap.size 5)) hsk).trans x5;have y6:=(o7.cell (p:=(ah w.heap.size 6)) hsk).trans x6;clear e0 e1 e2 x0 x1 x2 x3 x4 x5 x6;go_wp2
 go_quiet (fail)
 go_wp2;have q5:w5.heap.size<=(w5.drewN nq).heap.size:=aG _;have HN6:Hid ((w5.drewN nq).ownsRow base 163 7 (.slice na m nc) m (l.flatMap qo)):=HN5.out;have HR6:Hid ((w5.drewN nq).ownsRow base 4 1 kv m (kid.map Value.bool)):=Gc.out;have EC:Hid ((w5.drewN nq).heap[b]? =some (.cells #[ag most,.slice na m nc,kv,.bool true] 372 (0,0))):=om.out;have hKw:Hid (Below w.heap.size w (w5.drewN nq)):=(yl.out.trans (o7.mono (by omega))).trans (Below.bP _ _);have LU:w.heap.size<(w5.drewN nq).heap.size:=bJ hsk o7.size;clear q5 o7 HN5 Gc om Ez EB fK yl HX HB;have z1':(w5.drewN nq).cell? (ah b 1)=some (.slice na m nc):=z1;have z2':(w5.drewN nq).cell? (ah b 2)=some kv:=z2;have y0':(w5.drewN nq).cell? (ah w.heap.size 0)=some (.int .u8 k):=y0;have y1':(w5.drewN nq).cell? (ah w.heap.size 1)=some (ag L):=y1;have y2':(w5.drewN nq).cell? (ah w.heap.size 2)=some (ag R):=y2;have y3':(w5.drewN nq).cell? (ah w.heap.size 3)=some (ag f):=y3;have y4':(w5.drewN nq).cell? (ah w.heap.size 4)=some (ag t):=y4;have y5':(w5.drewN nq).cell? (ah w.heap.size 5)=some (ag 0):=y5;have y6':(w5.drewN nq).cell? (ah w.heap.size 6)=some (ag it):=y6;clear z0 z1 z2 y0 y1 y2 y3 y4 y5 y6;generalize w5.drewN nq=w6 at*;have hnL:∀gb,(Value.slice na m nc).ownBlock=some gb->gb<w6.heap.size/\gb≠b/\gb≠w.heap.size:=fun gb e=>⟨(HN6.out.lt gb e).2,fun e9=>bH HN6.out EC.out (by decide) gb e e9.symm,fun e9=>by have:=(HN.out.lt gb e).2;omega⟩;have hkL:∀gb,kv.ownBlock=some gb->gb<w6.heap.size/\gb≠b/\gb≠w.heap.size:=fun gb e=>⟨(HR6.out.lt gb e).2,fun e9=>bH HR6.out EC.out (by decide) gb e e9.symm,fun e9=>by have:=(HR.out.lt gb e).2;omega⟩;have hnk:∀gb,(Value.slice na m nc).ownBlock=some gb->kv.ownBlock≠some gb:=bK HN6.out HR6.out (by decide);have HNL:=ae hnL;have acA:=ae hkL;have HNK:=ae hnk;have jR:b<w6.heap.size:=by omega
 have asn:base<=w6.heap.size:=by omega
 clear hnL hkL hnk;have fz:∀o,w6.frozen? (ah b o)=false:=fun o=>by have h9:=EC.out;simp[World.frozen?,h9]
 have HF0:Hid (Ex b w.heap.size (.slice na m nc) kv k L R f t it w6.drew):=⟨z1',z2',y0',y1',y2',y3',y4',y5',y6'⟩;have g0:∀p:kC (Ex b w.heap.size (.slice na m nc) kv k L R f t it),p.W.cell? (ah b 1)=some (.slice na m nc):=fun p=>p.h.1;have g1:∀p:kC (Ex b w.heap.size (.slice na m nc) kv k L R f t it),p.W.cell? (ah b 2)=some (kv):=fun p=>p.h.2.1;have g2:∀p:kC (Ex b w.heap.size (.slice na m nc) kv k L R f t it),p.W.cell? (ah w.heap.size 0)=some (.int .u8 k):=fun p=>p.h.2.2.1;have g3:∀p:kC (Ex b w.heap.size (.slice na m nc) kv k L R f t it),p.W.cell? (ah w.heap.size 1)=some (ag L):=fun p=>p.h.2.2.2.1;have g4:∀p:kC (Ex b w.heap.size (.slice na m nc) kv k L R f t it),p.W.cell? (ah w.heap.size 2)=some (ag R):=fun p=>p.h.2.2.2.2.1;have g5:∀p:kC (Ex b w.heap.size (.slice na m nc) kv k L R f t it),p.W.cell? (ah w.heap.size 3)=some (ag f):=fun p=>p.h.2.2.2.2.2.1;have g6:∀p:kC (Ex b w.heap.size (.slice na m nc) kv k L R f t it),p.W.cell? (ah w.heap.size 4)=some (ag t):=fun p=>p.h.2.2.2.2.2.2.1;have g7:∀p:kC (Ex b w.heap.size (.slice na m nc) kv k L R f t it),p.W.cell? (ah w.heap.size 5)=some (ag 0):=fun p=>p.h.2.2.2.2.2.2.2.1;have g8:∀p:kC (Ex b w.heap.size (.slice na m nc) kv k L R f t it),p.W.cell? (ah w.heap.size 6)=some (ag it):=fun p=>p.h.2.2.2.2.2.2.2.2;refine aF (fun W=>∃p:kC (Ex b w.heap.size (.slice na m nc) kv k L R f t it),W=p.W) [14,15,16,17,18,19,20] [(0,false),(1,false),(2,false),(3,false),(4,false),(5,true),(6,true),(9,true),(10,false),(11,false),(12,false),(13,true)] (by kernel_rfl) (by kernel_rfl) (fun _ _ d _ _ h=>by cases d<;>exact h) ⟨⟨_,HF0.out⟩,rfl⟩ 9 rfl (by kernel_rfl) ?_;simp only[bG,bz,bA,bu,aS,aT,aU]
 repeat(refine aI (fun K hK=>?_);go_simp;first|(refine hK _ ?_;clear hK K)|(apply Exists.intro;refine⟨fun _=>?_,hK _ ?_⟩;rfl;clear hK K))
 refine aQ ?_;refine az [7] (by kernel_rfl) (by simp) ?_;refine ak.cons rfl (fun K hK=>?_) ak.nil;go_simp;have KA0:aC (fun _=>False) w6 (w6.alloc (.cells #[.int .u8 k,ag L,ag R,ag f,ag t,ag 0,ag it] 163)).drew:=((aC.refl _ _).alloc _).drew;obtain⟨qb,-⟩:=di KA0 jR (fun h=>h);obtain⟨qx,-⟩:=di KA0 LU (fun h=>h);refine hK _ _ (fun _ _=>⟨⟨_,(qb 1).trans z1',(qb 2).trans z2',(qx 0).trans y0',(qx 1).trans y1',(qx 2).trans y2',(qx 3).trans y3',(qx 4).trans y4',(qx 5).trans y5',(qx 6).trans y6'⟩,rfl⟩) ?_;clear hK K;refine az [8] (by kernel_rfl) (by simp) ?_;refine ak.cons rfl (fun K hK=>?_) ak.nil;refine bM agi base (aY (S:=fun _=>False) HN6.out KA0 (fun _ _ h=>h)) [.int .u8 k,.int .i64 L,.int .i64 R,.int .i64 f,.int .i64 t,.int .i64 0,.int .i64 it] rfl (by simp[Value.oneCell']) rfl (.tmp 40) (.tmp 42) rfl rfl w6.heap.size rfl (lX _ _) (by unfold maxLen;omega) (by omega) (by simp;omega) ?_;intro ga gz wa Xg hAg LV aso;have KA:aC (fun k=>(Value.slice na m nc).ownBlock=some k) w6 wa:=(KA0.mono (fun _ h=>h.elim)).grown hAg (fun k hk=>.inl hk);obtain⟨ab,af⟩:=di KA jR (fun e=>(HNL.out _ e).2.1 rfl);obtain⟨ax,-⟩:=di KA LU (fun e=>(HNL.out _ e).2.2 rfl);refine hK _ _ (fun _ _=>⟨⟨_,(ab 1).trans z1',(ab 2).trans z2',(ax 0).trans y0',(ax 1).trans y1',(ax 2).trans y2',(ax 3).trans y3',(ax 4).trans y4',(ax 5).trans y5',(ax 6).trans y6'⟩,rfl⟩) ?_;clear hK K;have HA0:=aY (S:=fun k=>(Value.slice na m nc).ownBlock=some k) HR6.out KA (fun gb e e2=>HNK.out gb e2 e);have hba:base<=wa.heap.size:=by have:=KA.size;omega
 have aly:b<wa.heap.size:=by have:=KA.size;omega
 have fza:∀o,wa.frozen? (ah b o)=false:=fun o=>(af o).trans (fz o);refine aK [14,15,16,17,18,19,20] _ _ _ (by kernel_rfl) ?_;simp only[pick,bz,bA,bu,aS,aT];have PP:=HPP.out _ HA0 hba;have a1:=(ab 1).trans z1';have a2:=(ab 2).trans z2';clear ab af qb qx ax Ey HPP
 go_wp2_with (go_at_call 320;refine PP.mono ?_;rintro e wp ⟨v',rfl,LW,LX,hKP⟩;obtain⟨ka',kc',rfl⟩:=fI LW;obtain⟨pb,pf⟩:=di hKP aly (fun e=>(acA.out _ e).2.1 rfl);have p1:=(pb 1).trans a1;have p2:=(pb 2).trans a2;have f1:=(pf 1).trans (fza 1);have f2:=(pf 2).trans (fza 2);clear pb pf)
 have aBg:=LW;have KB:aC (lF b (.slice na m nc) kv) w6 wp:=(KA.mono (fun k h=>.inr (.inl h))).trans (hKP.mono (fun k h=>.inr (.inr h)));have KW:aC (lF b (.slice na m nc) kv) w ((wp.setCell (ah b 1) (aD ga (m+1) gz)).setCell (ah b 2) (.slice ka' (m+1) kc')):=
  ((((aC.refl (lF b (.slice na m nc) kv) w).below hKw.out).trans KB).set (a:=(ah b 1)) _ (.inl (.inl rfl))).set (a:=(ah b 2)) _ (.inl (.inl rfl))
 have TS:ga≠b/\kv.ownBlock≠some ga:=by
  rcases LV with h9|h9
  .exact⟨(HNL.out _ h9).2.1,fun e=>HNK.out _ h9 e⟩
  .simp at h9;exact⟨by omega,fun e=>by have:=(acA.out _ e).1;omega⟩
 have hgk:∀gb,(Value.slice ka' (m+1) kc').ownBlock=some gb->gb≠b:=fun gb e=>by
  rcases LX with h9|⟨b9,h9,h8⟩
  .exact(acA.out _ (h9.symm.trans e)).2.1
  .have:b9=gb:=by rw[h9]at e;injection e
   omega
 have hsw:=hKw.out.size;have Xh:=KA.size;go_ret2;refine⟨rfl,aD ga (m+1) gz,.slice ka' (m+1) kc',⟨?_,?_,?_,?_⟩,?_,KW⟩
 .have hbp:wp.heap[b]? =some (.cells #[ag most,.slice na m nc,kv,.bool true] 372 (0,0)):=(hKP.block b aly (fun e=>(acA.out _ e).2.1 rfl)).trans ((KA.block b jR (fun e=>(HNL.out _ e).2.1 rfl)).trans EC.out);have s1:=dH wp b 1 _ _ (aD ga (m+1) gz) hbp;have s2:=dH _ b 2 _ _ (.slice ka' (m+1) kc') s1;exact s2
 .have h1:=aY (S:=fun k=>kv.ownBlock=some k) Xg hKP (fun gb e e2=>by injection e with e;subst e;exact TS.2 e2);have h2:=aY (S:=fun k=>k=b) h1 (((aC.refl (fun k=>k=b) wp).set (a:=(ah b 1)) (aD ga (m+1) gz) (.inl rfl)).set (a:=(ah b 2)) (.slice ka' (m+1) kc') (.inl rfl)) (fun gb e e2=>by injection e with e;subst e;exact TS.1 e2);rw[bF,lW,KE.out];exact h2
 .have h2:=aY (S:=fun k=>k=b) LW (((aC.refl (fun k=>k=b) wp).set (a:=(ah b 1)) (aD ga (m+1) gz) (.inl rfl)).set (a:=(ah b 2)) (.slice ka' (m+1) kc') (.inl rfl)) hgk;rw[bF,KE.out];exact h2
 .simp[KE.out,HLK.out]
 .rintro q (rfl|e|e)
  .exact .inl (.inl rfl)
  .have e:ga=q:=by injection e
   subst e;rcases LV with h9|h9
   .exact .inl (.inr (.inl h9))
   .simp at h9;exact .inr (by omega)
  .rcases LX with h9|⟨b9,h9,h8⟩
   .exact .inl (.inr (.inr (h9.symm.trans e)))
   .have:b9=q:=by rw[h9]at e;injection e
    exact .inr (by omega)
end Go.Proofs.YtkjdbndekceffaaGreat
namespace Go.Proofs.YtkjdbndekceffaaGreat
open Go.RowKit Go.Sort Go.Shelf Go.Lib Go.Maps
theorem Gd (f t it:Int) (most b base:Nat) (nv kv:Value) (kid:List Bool) (l:List Nd) (w:World) (hm:l.length<most) (oh:most<=100000) (h:ig w b base most nv kv l kid) (nJ:base<=w.heap.size):
  aO 291 #[ay b,Ej 1 (-1) (-1) f t it] w fun e w'=>e=.returned (.tuple #[ag l.length,ag 0])/\sj w b base most nv kv (l++[⟨1,-1,-1,f,t,it⟩]) (kid++[false]) w':=by
 obtain⟨ka,kc,rfl⟩:=fI h.row;exact yP 1 (-1) (-1) f t it most b base l.length nv _ kid kid l w rfl hm oh h.len h nJ (fun W _=>agM f t it _ rfl W) (fun W hr qJ=>agm 1 f t it ka l.length kc base kid W h.len (by omega) hr qJ)
theorem Gf (f t it:Int) (i j:Nat) (oV:i≠j) (most b base:Nat) (nv kv:Value) (kid:List Bool) (l:List Nd) (w:World) (hm:l.length<most) (oh:most<=100000) (hi:kid[i]? =some false) (hj:kid[j]? =some false) (h:ig w b base most nv kv l kid) (nJ:base<=w.heap.size):
  aO 291 #[ay b,Ej 2 i j f t it] w fun e w'=>e=.returned (.tuple #[ag l.length,ag 0])/\sj w b base most nv kv (l++[⟨2,i,j,f,t,it⟩]) ((kid.set i true).set j true++[false]) w':=by
 have kE:=(gD.1 hi).1;have jl:=(gD.1 hj).1;have gU:=h.len;obtain⟨g,c,rfl,_,_,_,_⟩:=bf h.row (by omega);exact yP 2 i j f t it most b base l.length nv _ kid ((kid.set i true).set j true) l w rfl hm oh (by simp[gU]) h nJ (fun W hr=>acs f t it i j oV g l.length c base kid W gU (by omega) hi hj hr) (fun W hr qJ=>ab9 2 f t it i j g l.length c base kid W gU (by omega) (by omega) (by omega) hr qJ)
def Js (n:Nat):List Bool:=List.replicate (2*n-2) true++[false]
theorem Xi (kid:List Bool) (n1 n2:Nat) (h1:0<n1) (h2:0<n2):
  (((kid++Js n1)++Js n2).set (kid.length+(2*n1-2)) true).set (kid.length+(2*n1-1)+(2*n2-2)) true++[false]=kid++Js (n1+n2):=by
 unfold Js;have e1:∀(A:List Bool) (k:Nat),(A++(List.replicate k true++[false])).set (A.length+k) true=A++List.replicate (k+1) true:=fun A k=>by
  rw[<-ek,wu _ _ (by simp),bF,iN,jS,ek,sW];rfl
 have e2:=e1 (kid++List.replicate (2*n1-2+1) true) (2*n2-2);rw[show(kid++List.replicate (2*n1-2+1) true).length+(2*n2-2)=kid.length+(2*n1-1)+(2*n2-2) by simp;omega]at e2;rw[List.set_append_left _ _ (by simp),e1 kid (2*n1-2),e2,ek,ek];congr 1;rw[<-ek,List.replicate_append_replicate];congr 2;omega
theorem Xj (kid:List Bool) (n1 n2:Nat) (h1:0<n1):((kid++Js n1)++Js n2)[kid.length+(2*n1-2)]? =some false:=by
 unfold Js;rw[mP (by simp),oO (by simp),oO (by simp)];simp
theorem TT (kid:List Bool) (n1 n2:Nat) (h1:0<n1) (h2:0<n2):((kid++Js n1)++Js n2)[kid.length+(2*n1-1)+(2*n2-2)]? =some false:=by
 unfold Js;rw[oO (by simp;omega),oO (by simp;omega)];rw[show kid.length+(2*n1-1)+(2*n2-2)-(kid++(List.replicate (2*n1-2) true++[false])).length-(List.replicate (2*n2-2) true).length=0 by simp;omega];rfl
theorem TU (n:Nat):∀(a c most b base:Nat) (nv kv:Value) (l:List Nd) (kid:List Bool) (w:World),c=a+n->0<n->l.length+(2*n-1)<=most->most<=100000->c<=50000->ig w b base most nv kv l kid->base<=w.heap.size->
  aO 232 #[ay b,ag a,ag c] w fun e w'=>e=.returned (ag ((l.length+(2*n-2):Nat):Int))/\sj w b base most nv kv (l++(dO a n).nodes l.length) (kid++Js n) w':=by
 induction n using Nat.strongRecOn with
 |ind n ih=>
 intro a c most b base nv kv l kid w hc hn hmo oh hc5 hP nJ;have hbl:=hP.lt b (.inl rfl);by_cases h1:n=1
 .subst h1;subst hc;have CP:=ae (fun W (h:ig W b base most nv kv l kid) (hb:base<=W.heap.size)=>Gd (a:Int) ((a+1:Nat):Int) (a:Int) most b base nv kv kid l W (by omega) oh h hb);have HP:=ae hP;have d1:decide (((a+1:Nat):Int)-(a:Int)>1)=false:=by simp;omega
  have d2:decide ((1:Int)<((a+1:Nat):Int)-(a:Int))=false:=by simp;omega
  have e1:(dO a 1).nodes l.length=[⟨1,-1,-1,a,((a+1:Nat):Int),a⟩]:=by rw[CW a 1 (by omega)];simp[FT.nodes]
  rw[e1];clear e1 hP ih hmo;generalize hcc:a+1=c at*;have qL:c<=50000/\a<c:=by omega
  clear hcc;go_enter Tryz.func232,Tryz.ntmps232
  go_wp2_with fail
  refine(CP.out _ (HP.out.kept ((aC.refl (fun _=>False) w).alloc _) (fun _ _ h=>h)) (by simp;omega)).mono ?_;rintro e w1 ⟨rfl,hQ⟩;have HQ:=ae hQ;clear hQ;go_wp2;go_ret;refine⟨rfl,?_⟩;exact sj.trans (fun k h=>.inl h) ((aC.refl _ w).alloc _) HQ.out
 .obtain⟨n1,sM⟩:∃n1,n1=n-n/2:=⟨_,rfl⟩;obtain⟨n2,zL⟩:∃n2,n2=n/2:=⟨_,rfl⟩;obtain⟨m,hm⟩:∃m,m=a+n1:=⟨_,rfl⟩;have e1:(dO a n).nodes l.length=(dO a n1).nodes l.length++(dO m n2).nodes (l.length+(2*n1-1))++[⟨2,((l.length+(2*n1-2):Nat):Int),((l.length+(2*n1-1)+(2*n2-2):Nat):Int),a,c,0⟩]:=by
   rw[Jd a n (by omega),FT.nodes,<-sM,<-zL,<-hm,fB a n1 (by omega),fB m n2 (by omega),(bT a n1 (by omega)).2.1,(bT m n2 (by omega)).2.2];congr 3
   .omega
   .omega
   .omega
  rw[e1,show n=n1+n2 by omega];clear e1;obtain⟨I,hI⟩:∃I,I=l.length+(2*n1-2):=⟨_,rfl⟩;obtain⟨J,hJ⟩:∃J,J=l.length+(2*n1-1)+(2*n2-2):=⟨_,rfl⟩;have HL:Hid (∀W,ig W b base most nv kv l kid->base<=W.heap.size->aO 232 #[ay b,ag a,ag m] W fun e w'=>e=.returned (ag I)/\sj W b base most nv kv (l++(dO a n1).nodes l.length) (kid++Js n1) w'):=
   fun W h hb=>(ih n1 (by omega) a m most b base nv kv l kid W hm (by omega) (by omega) oh (by omega) h hb).mono fun e w' ⟨he,hq⟩=>⟨by rw[he,hI],hq⟩
  have HR:Hid (∀W nv kv l2 Pg,l2.length=l.length+(2*n1-1)->ig W b base most nv kv l2 Pg->base<=W.heap.size->aO 232 #[ay b,ag m,ag c] W fun e w'=>e=.returned (ag J)/\sj W b base most nv kv (l2++(dO m n2).nodes l2.length) (Pg++Js n2) w'):=
   fun W nv kv l2 Pg h2 h hb=>(ih n2 (by omega) m c most b base nv kv l2 Pg W (by omega) (by omega) (by omega) oh hc5 h hb).mono fun e w' ⟨he,hq⟩=>⟨by rw[he,hJ,h2],hq⟩
  have HIJ:Hid (I=l.length+(2*n1-2)/\J=l.length+(2*n1-1)+(2*n2-2)):=⟨hI,hJ⟩;rw[<-hI,<-hJ];clear hI hJ;have HP:=ae hP;have alA:(c:Int)-((c:Int)-(a:Int))/2=(m:Int):=by omega
  have hac:(a:Int)<c/\(c:Int)<=50000:=by omega
  have LY:0<n1/\0<n2:=by omega
  have d1:decide ((c:Int)-(a:Int)>1)=true:=by simp;omega
  have d2:decide ((1:Int)<(c:Int)-(a:Int))=true:=by simp;omega
  have H12:Hid (l.length+(2*(n1+n2)-1)<=most):=(show l.length+(2*(n1+n2)-1)<=most by omega);clear ih hP hc hn hmo h1 sM zL hm;go_enter Tryz.func232,Tryz.ntmps232
  go_wp2_with fail
  obtain⟨wa,ewa⟩:∃wa,wa=w.alloc (.cells #[.int .u8 2,ag (-1),ag (-1),ag a,ag c,ag 0,ag 0] 163):=⟨_,rfl⟩;rw[<-ewa];have HPa:Hid (ig wa b base most nv kv l kid):=by rw[ewa];exact HP.out.kept ((aC.refl (fun _=>False) w).alloc _) (fun _ _ h=>h)
  have hXa:wa.heap[w.heap.size]? =some (.cells #[.int .u8 2,ag (-1),ag (-1),ag a,ag c,ag 0,ag 0] 163 (0,0)):=by rw[ewa];exact dE w _
  have HKa:Hid (aC (lF b nv kv) w wa):=by rw[ewa];exact(aC.refl _ w).alloc _
  have hXl:w.heap.size<wa.heap.size:=by rw[ewa];simp
  have hS0:∀k,lF b nv kv k->k<w.heap.size:=HP.out.lt;have HS0:=ae hS0;clear ewa hS0;refine(HL.out _ HPa.out (by omega)).mono ?_;rintro e w1 ⟨rfl,nv1,kv1,A1,hs1,K1⟩;have Jt:Hid (w1.heap[w.heap.size]? =some (.cells #[.int .u8 2,ag (-1),ag (-1),ag a,ag c,ag 0,ag 0] 163 (0,0))):=(K1.block _ hXl (fun h=>by have:=HS0.out _ h;omega)).trans hXa;have hz1:=K1.size;have HA1:=ae A1;have NT:=ae hs1;have nL:=ae K1;have u1:w1.cell? (ah w.heap.size 1)=some (ag (-1)):=by have h9:=Jt.out;simp[World.cell?,h9]
  have v1:w1.frozen? (ah w.heap.size 1)=false:=by have h9:=Jt.out;simp[World.frozen?,h9]
  clear A1 hs1 K1 hXa
  go_wp2_with fail
  have Gg:=ae (dH w1 w.heap.size 1 _ _ (.int .i64 (I:Int)) Jt.out);have vR:Hid (aC (fun k=>k=w.heap.size) w1 (w1.setCell (ah w.heap.size 1) (.int .i64 (I:Int)))):=(aC.refl _ w1).set (a:=(ah w.heap.size 1)) _ (.inl rfl);simp only[Iq,zV,qO]at Gg;generalize w1.setCell (ah w.heap.size 1) (.int .i64 (I:Int))=w2 at*;have hS1:∀k,lF b nv1 kv1 k->k≠w.heap.size:=fun k h e=>by
   rcases NT.out k h with h9|h9
   .have:=HS0.out _ h9;omega
   .omega
  have KJ:=ae hS1;have hz2:=vR.out.size;clear hS1 u1 v1;refine(HR.out w2 nv1 kv1 _ _ (by rw[bF,FT.iQ,fB a n1 LY.1]) (HA1.out.kept vR.out (fun k h e=>KJ.out k h e)) (by omega)).mono ?_;rintro e w3 ⟨rfl,nv3,kv3,A3,hs3,K3⟩;have ass:w.heap.size<w2.heap.size:=by omega
  have Ph:Hid (w3.heap[w.heap.size]? =some (.cells #[.int .u8 2,ag I,ag (-1),ag a,ag c,ag 0,ag 0] 163 (0,0))):=(K3.block _ ass (fun h=>KJ.out _ h rfl)).trans Gg.out;have hz3:=K3.size;have HA3:=ae A3;have HS3:=ae hs3;have Gh:=ae K3;have u3:w3.cell? (ah w.heap.size 2)=some (ag (-1)):=by have h9:=Ph.out;simp[World.cell?,h9]
  have v3:w3.frozen? (ah w.heap.size 2)=false:=by have h9:=Ph.out;simp[World.frozen?,h9]
  clear A3 hs3 K3;have aBl:Hid (w3.setCell (ah w.heap.size 2) (.int .i64 J)=w3.setCell (ah w.heap.size 2) (.int .i64 J)):=rfl;have Xk:=ae (dH w3 w.heap.size 2 _ _ (.int .i64 (J:Int)) Ph.out);have xG:Hid (aC (fun k=>k=w.heap.size) w3 (w3.setCell (ah w.heap.size 2) (.int .i64 (J:Int)))):=(aC.refl _ w3).set (a:=(ah w.heap.size 2)) _ (.inl rfl);simp only[Iq,zV,qO]at Xk;have y:(∀o,o<7->(w3.setCell (ah w.heap.size 2) (.int .i64 (J:Int))).cell? (ah w.heap.size o)=[Value.int .u8 2,.int .i64 I,.int .i64 J,.int .i64 a,.int .i64 c,.int .i64 0,.int .i64 0][o]?):=fun o ho=>by have h9:=Xk.out;simp[World.cell?,h9]
  have y0:=y 0 (by omega);have y1:=y 1 (by omega);have y2:=y 2 (by omega);have y3:=y 3 (by omega);have y4:=y 4 (by omega);have y5:=y 5 (by omega);have y6:=y 6 (by omega);simp only[aT,aS]at y0 y1 y2 y3 y4 y5 y6;clear y
  go_wp2_with fail
  generalize w3.setCell (ah w.heap.size 2) (.int .i64 (J:Int))=w4 at*;have hS3:∀k,lF b nv3 kv3 k->k≠w.heap.size:=fun k h e=>by
   rcases HS3.out k h with h9|h9
   .exact KJ.out k h9 e
   .omega
  have hz4:=xG.out.size;have A4:=HA3.out.kept xG.out (fun k h e=>hS3 k h e);have hl2:(l++(dO a n1).nodes l.length).length=l.length+(2*n1-1):=by rw[bF,FT.iQ,fB a n1 LY.1]
  have Pj:((l++(dO a n1).nodes l.length)++(dO m n2).nodes (l.length+(2*n1-1))).length=l.length+(2*(n1+n2)-2):=by rw[bF,hl2,FT.iQ,fB m n2 LY.2];omega
  rw[hl2]at A4;have gU:=HP.out.len;have CP:=Gf (a:Int) c 0 I J (by have:=HIJ.out;omega) most b base nv3 kv3 _ _ w4 (by rw[Pj];have:=H12.out;omega) oh (by rw[HIJ.out.1,<-gU];exact Xj kid n1 n2 LY.1) (by rw[HIJ.out.2,<-gU];exact TT kid n1 n2 LY.1 LY.2) A4 (by omega);rw[Pj,show((kid++Js n1++Js n2).set I true).set J true++[false]=kid++Js (n1+n2) by rw[HIJ.out.1,HIJ.out.2,<-gU];exact Xi kid n1 n2 LY.1 LY.2]at CP;refine CP.mono ?_;rintro e w5 ⟨rfl,hQ⟩;have HQ:=ae hQ;clear hQ CP A4 Pj hl2 gU;go_wp2;go_ret;refine⟨by rw[Ea];rfl,?_⟩;rw[ek,ek]at HQ;rw[ek];have Rt:∀k,lF b nv3 kv3 k->lF b nv kv k\/w.heap.size<=k:=fun k h=>by
   rcases HS3.out k h with h9|h9
   .rcases NT.out k h9 with h8|h8
    .exact .inl h8
    .exact .inr (by omega)
   .exact .inr (by omega)
  refine sj.trans Rt ?_ HQ.out;have KX:aC (fun k=>lF b nv kv k\/w.heap.size<=k) w w4:=
   (((HKa.out.mono (fun k h=>.inl h)).trans (nL.out.mono (fun k h=>.inl h))).trans (vR.out.mono (fun k h=>.inr (by omega)))).trans ((Gh.out.mono (fun k h=>by
    rcases NT.out k h with h8|h8
    .exact .inl h8
    .exact .inr (by omega))).trans (xG.out.mono (fun k h=>.inr (by omega))))
  exact KX.strip
end Go.Proofs.YtkjdbndekceffaaGreat
namespace Go.Proofs.YtkjdbndekceffaaGreat
open Go.RowKit
theorem yQ (w:World):(callFunc 335 #[]).run Tryz.prog w=.ok (.value (.tuple #[])) w:=run_call_mark0 Tryz.func335 (by kernel_rfl) (by kernel_rfl) (by kernel_rfl) .disable (by kernel_rfl) w
theorem BQ (w:World):(callFunc 337 #[]).run Tryz.prog w=.ok (.value (.tuple #[])) w:=run_call_mark0 Tryz.func337 (by kernel_rfl) (by kernel_rfl) (by kernel_rfl) .enable (by kernel_rfl) w
theorem Ju (a:Addr) (w:World):(callFunc 338 #[.pointer (some a)]).run Tryz.prog w=.ok (.value (.tuple #[])) w:=run_call_marked Tryz.func338 (by kernel_rfl) (by kernel_rfl) (by kernel_rfl) .acquire (by kernel_rfl) a w
theorem Pk (a:Addr) (w:World):(callFunc 340 #[.pointer (some a)]).run Tryz.prog w=.ok (.value (.tuple #[])) w:=run_call_marked Tryz.func340 (by kernel_rfl) (by kernel_rfl) (by kernel_rfl) .releaseMerge (by kernel_rfl) a w
theorem Pm (a:Addr) (x:Value) (u:FrameMode) (w:World) (hc:w.cell? a=some x) (hz:w.frozen? a=false):
  CallsD Tryz.prog 284 #[.pointer (some a),.bool true] u w fun e u' w'=>u'=u/\(e=.returned (.tuple #[])/\w'=w.drew.setCell a (.int .u32 1)):=by
 have hc':w.drew.cell? a=some x:=by go_simp
 have hz':w.drew.frozen? a=false:=by go_simp
 have hst:=run_call_store (P:=Tryz.prog) Tryz.func316 (by kernel_rfl) (by kernel_rfl) (by kernel_rfl) (by kernel_rfl) (k:=.u32) (y:=1) hc' hz'
 go_enter_d Tryz.func284,Tryz.ntmps284
 go_wp2
 go_region_calls
 all_goals(go_end0;exact⟨rfl,rfl⟩)
theorem LZ (a:Addr) (u:FrameMode) (w:World) (hc:w.cell? a=some (.int .i32 1)) (hz:w.frozen? a=false):
  CallsD Tryz.prog 283 #[.pointer (some a)] u w fun e u' w'=>u'=u/\(e=.returned (.tuple #[])/\w'=w.setCell a (.int .i32 0)):=by
 have j6:=run_call_add (P:=Tryz.prog) Tryz.func341 (by kernel_rfl) (by kernel_rfl) (by kernel_rfl) .i32 (by kernel_rfl) (y:=-1) (s:=0) hc hz (by simp[go_sem];rfl);have hd:=yQ;have he:=BQ;have hr:=Pk;have hcv:=run_convert_to_unsafe (P:=Tryz.prog) (src:=405) (dst:=409) Tryz.underlying405 Tryz.underlying409 (by kernel_rfl) hc
 go_enter_d Tryz.func283,Tryz.ntmps283
 go_wp2
 go_end0
 go_wp2
 go_end0
 exact⟨rfl,rfl⟩
theorem TV (a:Addr) (w:World) (hc:w.cell? a=some (.int .i32 0)) (hz:w.frozen? a=false):
  aO 282 #[.pointer (some a)] w fun e w'=>e=.returned (.tuple #[])/\w'=w.setCell a (.int .i32 1):=by
 have aBm:=run_call_cas_hit (P:=Tryz.prog) Tryz.func336 (by kernel_rfl) (by kernel_rfl) (by kernel_rfl) .i32 (by kernel_rfl) (y:=1) hc hz;have hc':(w.setCell a (.int .i32 1)).cell? a=some (.int .i32 1):=World.cell?_setCell_same w a _ hc;have hd:=yQ;have he:=BQ;have ha:=Ju;have hcv:=run_convert_to_unsafe (P:=Tryz.prog) (src:=405) (dst:=409) Tryz.underlying405 Tryz.underlying409 (by kernel_rfl) hc';go_enter Tryz.func282,Tryz.ntmps282;go_wp2
 first|go_end0|(simp only[Exit.inBlock,Exit.then];refine ng (mF rfl _ _ _) rfl ?_)|refine ng (mF rfl _ _ _) rfl ?_
 go_wp2
 go_end0
 exact⟨rfl,rfl⟩
def aeT (R:World->Prop) (b off:Nat) (e:Ending) (w':World):Prop:=
 e=.returned (.tuple #[])/\R w'/\w'.cell? (ah b off)=some (aJ 0)/\w'.cell? (ah b (off+1))=some (.int .i32 1)/\w'.frozen? (ah b off)=false/\w'.frozen? (ah b (off+1))=false
def Xl (R:World->Prop) (b off:Nat) (e:Ending) (w':World):Prop:=
 e=.returned (.tuple #[])/\∃w1,R w1/\w'=(w1.drew.setCell (ah b off) (.int .u32 1)).setCell (ah b (off+1)) (.int .i32 0)
theorem Pn {R:World->Prop} {fn:Nat} (ef:∀args w,(callFunc fn args).run Tryz.prog w=.ok (.enter fn args) w) (b off:Nat) (cv:Value) (w:World) (h0:w.cell? (ah b off)=some (aJ 0)) (h1:w.cell? (ah b (off+1))=some (.int .i32 0)) (f0:w.frozen? (ah b off)=false) (f1:w.frozen? (ah b (off+1))=false)
  (C:aO fn #[cv] (w.setCell (ah b (off+1)) (.int .i32 1)) (aeT R b off)):
  aO 217 #[.pointer (some (ah b off)),.func (.func fn) #[] #[cv]] w (Xl R b off):=by
 have hl:=run_call_load (P:=Tryz.prog) Tryz.func281 (by kernel_rfl) (by kernel_rfl) (by kernel_rfl) .u32 (by kernel_rfl) (w:=w.setCell (ah b (off+1)) (.int .i32 1)) (a:=(ah b off)) (x:=0) ((World.cell?_setCell_other _ (ah b (off+1)) (ah b off) _ (by simp)).trans h0);have aca:∀(x:Bool) (w:World),(Op.unary .not (.bool x)).run Tryz.prog w=.ok (.bool (!x)) w:=fun _ _=>rfl;have HC:=ae C;have LK:=ae (TV (ah b (off+1)) w h1 f1);clear C h1
 go_enter_defers Tryz.func217,Tryz.ntmps217
 go_wp2_with (first|(go_at_call 282;refine LK.out.mono ?_;rintro e w' ⟨rfl,rfl⟩)|(refine HC.out.mono ?_;rintro e w1 ⟨rfl,hR,k0,k1,z0,z1⟩)|(go_at_call 216;go_in))
 refine leaves_cons (f:=284) (args:=#[.pointer (some (ah b off)),.bool true]) (by simp) (by simp[go_sem]) ?_;refine(Pm (ah b off) (.int .u32 0) .returning w1 k0 z0).mono ?_;rintro e u' w'' ⟨rfl,rfl,rfl⟩;refine leaves_cons (f:=283) (args:=#[.pointer (some (ah b (off+1)))]) (by simp[settle]) (by simp[go_sem]) ?_;refine(LZ (ah b (off+1)) _ _ ?_ (by simp[z1])).mono ?_
 .refine(World.cell?_setCell_other _ (ah b off) (ah b (off+1)) _ (by simp)).trans ?_;rw[World.cell?_drew];exact k1
 rintro e u' w'' ⟨rfl,rfl,rfl⟩;have HF:Xl R b off (.returned (.tuple #[])) ((w1.drew.setCell (ah b off) (.int .u32 1)).setCell (ah b (off+1)) (.int .i32 0)):=⟨rfl,w1,hR,rfl⟩;simp[Leaves,settle,results,Tryz.results217];exact HF
theorem L6 {R:World->Prop} {fn:Nat} (ef:∀args w,(callFunc fn args).run Tryz.prog w=.ok (.enter fn args) w) (b off:Nat) (cv:Value) (w:World) (h0:w.cell? (ah b off)=some (aJ 0)) (h1:w.cell? (ah b (off+1))=some (.int .i32 0)) (f0:w.frozen? (ah b off)=false) (f1:w.frozen? (ah b (off+1))=false)
  (C:aO fn #[cv] (w.setCell (ah b (off+1)) (.int .i32 1)) (aeT R b off)):
  aO 146 #[.pointer (some (ah b off)),.func (.func fn) #[] #[cv]] w (Xl R b off):=by
 have hl:=run_call_load (P:=Tryz.prog) Tryz.func281 (by kernel_rfl) (by kernel_rfl) (by kernel_rfl) .u32 (by kernel_rfl) h0;have aca:∀(x:Bool) (w:World),(Op.unary .not (.bool x)).run Tryz.prog w=.ok (.bool (!x)) w:=fun _ _=>rfl;have SL:=ae (Pn ef b off cv w h0 h1 f0 f1 C);clear C;go_enter Tryz.func146,Tryz.ntmps146
 go_wp2_with (first|(go_at_call 217;refine SL.out.mono ?_;rintro e w' ⟨rfl,HO⟩;have HOP:=ae HO;clear HO)|(go_at_call 216;go_in))
 go_end0
 exact⟨rfl,HOP.out⟩
theorem TW (a:Addr) (fv:Value) (w:World) (h0:w.cell? a=some (aJ 1)):
  aO 146 #[.pointer (some a),fv] w fun e w'=>e=.returned (.tuple #[])/\w'=w:=by
 have hl:=run_call_load (P:=Tryz.prog) Tryz.func281 (by kernel_rfl) (by kernel_rfl) (by kernel_rfl) .u32 (by kernel_rfl) h0;have aca:∀(x:Bool) (w:World),(Op.unary .not (.bool x)).run Tryz.prog w=.ok (.bool (!x)) w:=fun _ _=>rfl;go_enter Tryz.func146,Tryz.ntmps146;go_wp2
 go_end0
 exact⟨rfl,rfl⟩
end Go.Proofs.YtkjdbndekceffaaGreat
namespace Go.Proofs.YtkjdbndekceffaaGreat
open Go.RowKit Go.Sort Go.Shelf Go.Lib Go.Maps
attribute [local irreducible] wpQuiet
attribute [local go_sem] Oper.fM
theorem Xm {g n c gb:Nat} (e:(aD g n c).ownBlock=some gb):g=gb:=by injection e
def aZ (n:Nat):List Nd:=if n=0 then[]else(dO 0 n).nodes 0
theorem dA (n:Nat):(aZ n).length=2*n-1:=by
 unfold aZ;split
 .subst n;rfl
 .rw[FT.iQ,fB 0 n (by omega)]
abbrev ma (d m:Int) (nv:Value) (n:Nat):Obj:=.cells #[aJ d,.int .i32 m,aJ 0,nv,ag n,.bool true] 236 (0,0)
theorem AU (n:Nat) (hn:n<=100000) (w:World):
  aO 90 #[ag n] w fun e w'=>e=.returned (.tuple #[ay w.heap.size,ag 0])/\w'=w.alloc (ma 0 0 (aN) n):=by
 refine calls_of_wp Tryz.func90 rfl ?_;simp only[Tryz.ntmps90,tH,fU,iG,Nat.reduceAdd,Nat.reduceSub,sU,sV,tJ,sZ,iV,nT];go_wp2;go_ret2;exact⟨rfl,rfl⟩
theorem wG:∀args w,(callFunc 233 args).run Tryz.prog w=.ok (.enter 233 args) w:=dF Tryz.func233 (by kernel_rfl) rfl
def alC (w:World) (fb n:Nat) (e:Ending) (w':World):Prop:=
 e=.returned (.tuple #[])/\∃nv,w'.ownsRow w.heap.size 163 7 nv (aZ n).length ((aZ n).flatMap qo)/\w'.heap[fb]? =some (ma 0 1 nv n)/\aC (fun k=>k=fb) w w'
theorem Po (fb cb n:Nat) (hn:n<=40000) (w:World) (hcb:w.cell? (ah cb 0)=some (ay fb)) (hf:w.heap[fb]? =some (ma 0 1 (aN) n)) (hne:cb≠fb):
  aO 230 #[ay cb] w (alC w fb n):=by
 have qL:cb<w.heap.size:=iD w _ hcb;have Cr:fb<w.heap.size:=(bn.1 hf).1;have f4:w.cell? (ah fb 4)=some (ag n):=by simp[World.cell?,hf]
 obtain⟨M,hM⟩:∃M,M=2*n:=⟨_,rfl⟩;have h2n:(2:Int)*(n:Int)=(M:Int):=by omega
 have CN:=Xf M (by omega) w;have HF:=ae hf;have HP:Hid (ig (w.alloc (.cells #[ag M,aN,aN,.bool true] 372)) w.heap.size w.heap.size M (aN) (aN) [] []):=
  ⟨dE _ _,dL _ _ _ _,dL _ _ _ _,rfl⟩
 have hB0:Below w.heap.size w (w.alloc (.cells #[ag M,aN,aN,.bool true] 372)):=(aM _ _).alloc (aG _) _;have fin:∀(w1:World) nv kv kid,ig w1 w.heap.size w.heap.size M nv kv (aZ n) kid->Below w.heap.size w w1->aO 233 #[ay w.heap.size] w1 fun e w'=>∃v,e=.returned v/\w'.ownsRow w1.heap.size 163 7 v (aZ n).length ((aZ n).flatMap qo)/\Below w1.heap.size w1 w':=fun w1 nv kv kid h hb=>by
  obtain⟨na,nc,rfl,-,-,hr⟩:=dU.aL jO (by decide) h.jG;exact Pf M w.heap.size na nc kv (aZ n) w1 h.blk hr (by rw[dA];omega)
 by_cases h0:n=0
 .have h0n:Hid (aZ n=[]):=by show aZ n=[];rw[h0];rfl
  have fin:=ae fin;have g0:=(hB0.cell (p:=(ah cb 0)) qL).trans hcb;have g4:=(hB0.cell (p:=(ah fb 4)) Cr).trans f4;have HB0:=ae hB0;have d1:decide ((n:Int)>0)=false:=by simp;omega
  have d2:decide ((0:Int)<(n:Int))=false:=by simp;omega
  have d3:decide (0<n)=false:=by simp;omega
  clear hf hM hB0 h0;go_enter Tryz.func230,Tryz.ntmps230
  go_wp2_with fail
  with_reducible refine CN.mono ?_
  rintro e w1 ⟨rfl,rfl⟩;clear CN
  go_wp2_with fail
  have HPW:Hid (ig (w.alloc (.cells #[ag M,aN,aN,.bool true] 372)).drew w.heap.size w.heap.size M (aN) (aN) (aZ n) []):=by rw[h0n.out];exact⟨HP.out.blk,HP.out.jG,HP.out.row,rfl⟩
  have yl:Hid (Below w.heap.size w (w.alloc (.cells #[ag M,aN,aN,.bool true] 372))):=HB0;have Xn:Hid (∀w1,ig w1 w.heap.size w.heap.size M (aN) (aN) (aZ n) []->Below w.heap.size w w1->aO 233 #[ay w.heap.size] w1 fun e w'=>∃v,e=.returned v/\w'.ownsRow w1.heap.size 163 7 v (aZ n).length ((aZ n).flatMap qo)/\Below w1.heap.size w1 w'):=fun w1 h1 h2=>fin.out w1 _ _ _ h1 h2;clear HP fin;generalize(w.alloc (.cells #[ag M,aN,aN,.bool true] 372))=W1 at*;have Jv:Hid ((fun W:World=>W.cell? (ah cb 0)=some (ay fb)) W1.drew):=g0;have gC:∀p:kC (fun W:World=>W.cell? (ah cb 0)=some (ay fb)),p.W.cell? (ah cb 0)=some (ay fb):=fun p=>p.h;refine aF (fun W=>∃p:kC (fun W:World=>W.cell? (ah cb 0)=some (ay fb)),W=p.W) [3,4,5,6] [(0,true),(1,false)] (by kernel_rfl) (by kernel_rfl) (fun _ _ d _ _ h=>by cases d<;>exact h) ⟨⟨_,Jv.out⟩,rfl⟩ 5 rfl (by kernel_rfl) ?_;simp only[bG,bz,bA,bu,aS,aT,aU]
  repeat(refine aI (fun K hK=>?_);go_simp;first|(refine hK _ ?_;clear hK K)|(apply Exists.intro;refine⟨fun _=>?_,hK _ ?_⟩;rfl;clear hK K))
  refine aQ ?_;refine az [2] (by kernel_rfl) (by simp) ?_;refine ak.cons rfl (fun K hK=>?_) ak.nil;refine bD wG rfl _ _ rfl (vals:=#[ay w.heap.size]) rfl (Xn.out W1.drew HPW.out (yl.out.trans (Below.bP _ 1))) ?_;rintro e w2 ⟨nv,rfl,ED,hNb⟩;refine⟨nv,rfl,?_⟩;obtain⟨na,nc,rfl⟩:=fI ED;have k0:w2.cell? (ah cb 0)=some (ay fb):=(hNb.cell (p:=(ah cb 0)) (by have:=yl.out.size;exact bJ qL this)).trans Jv.out;refine hK _ _ (fun _ _=>⟨⟨_,k0⟩,rfl⟩) ?_;clear hK K;refine aK [3,4,5,6] _ _ _ (by kernel_rfl) ?_;simp only[pick,bz,bA,bu,aS,aT];have HBT:Below w.heap.size w w2:=(yl.out.trans (Below.bP _ 1)).trans (hNb.mono yl.out.size);have hf2:w2.heap[fb]? =some (ma 0 1 (aN) n):=(HBT.block fb Cr).trans HF.out;have k3:w2.cell? (ah fb 3)=some (aN):=by simp[World.cell?,hf2]
  have z3:w2.frozen? (ah fb 3)=false:=by simp[World.frozen?,hf2]
  have BR:=ae hf2;have TY:=ae ED;have hs2:w.heap.size<=W1.heap.size:=yl.out.size;have agU:=ae HBT;clear hf2 ED hNb HBT;go_wp2
  first|go_end0|go_ret
  refine⟨rfl,_,aY (S:=fun k=>k=fb) (bR TY.out hs2) ((aC.refl _ w2).set (a:=(ah fb 3)) _ (.inl rfl)) (fun gb e e2=>by have h9:=(TY.out.lt gb e).1;have h8:w.heap.size<=W1.drew.heap.size:=hs2;omega),?_,?_⟩
  .exact dH w2 fb 3 _ _ _ BR.out
  .exact((aC.refl (fun k=>k=fb) w).below agU.out).set (a:=(ah fb 3)) _ (.inl rfl)
 .have alD:=ae fin;have g0:=(hB0.cell (p:=(ah cb 0)) qL).trans hcb;have g4:=(hB0.cell (p:=(ah fb 4)) Cr).trans f4;have HB0:=ae hB0;have d1:decide ((n:Int)>0)=true:=by simp;omega
  have d2:decide ((0:Int)<(n:Int))=true:=by simp;omega
  have d3:decide (0<n)=true:=by simp;omega
  have e1:aZ n=[]++(dO 0 n).nodes ([]:List Nd).length:=by unfold aZ;rw[aP h0];rfl
  have HL:Hid (∀W,ig W w.heap.size w.heap.size M (aN) (aN) [] []->w.heap.size<=W.heap.size->aO 232 #[ay w.heap.size,ag 0,ag n] W fun e w'=>(∃r,e=.returned (ag r))/\sj W w.heap.size w.heap.size M (aN) (aN) (aZ n) ([]++Js n) w'):=
   fun W h hb=>(TU n 0 n M w.heap.size w.heap.size _ _ [] [] W (by omega) (by omega) (by simp;omega) (by omega) (by omega) h hb).mono fun e w' ⟨he,hq⟩=>⟨⟨_,he⟩,by rw[e1];exact hq⟩
  clear fin hf hM hB0 h0 e1;go_enter Tryz.func230,Tryz.ntmps230
  go_wp2_with fail
  with_reducible refine CN.mono ?_
  rintro e w1 ⟨rfl,rfl⟩;clear CN
  go_wp2_with fail
  with_reducible refine(HL.out _ HP.out (by simp)).mono ?_
  rintro e W1 ⟨⟨r,rfl⟩,nv,kv,hA,hs,hK⟩;have Pp:aC (fun _=>False) w W1:=by
   have h9:aC (fun k=>False\/w.heap.size<=k) w W1:=((aC.refl (fun k=>False\/w.heap.size<=k) w).alloc _).trans (hK.mono (fun k h=>by
    rcases h with h|h|h
    .exact .inr (by omega)
    .cases h
    .cases h))
   exact h9.strip
  have yl:Hid (Below w.heap.size w W1):=Pp.toBelow (aG _) (fun _ h=>h.elim);have Xn:Hid (∀w1,ig w1 w.heap.size w.heap.size M nv kv (aZ n) ([]++Js n)->Below w.heap.size w w1->aO 233 #[ay w.heap.size] w1 fun e w'=>∃v,e=.returned v/\w'.ownsRow w1.heap.size 163 7 v (aZ n).length ((aZ n).flatMap qo)/\Below w1.heap.size w1 w'):=fun w1 h1 h2=>alD.out w1 _ _ _ h1 h2;have HPW:Hid (ig W1.drew w.heap.size w.heap.size M nv kv (aZ n) ([]++Js n)):=hA.kept (aC.refl (fun _=>False) W1).drew (fun _ _ h=>h);clear g0 g4 HP alD HL HB0 hA hs hK Pp;have g0:=(yl.out.cell (p:=(ah cb 0)) qL).trans hcb
  go_wp2_with fail
  have Jv:Hid ((fun W:World=>W.cell? (ah cb 0)=some (ay fb)) W1.drew):=g0;have gC:∀p:kC (fun W:World=>W.cell? (ah cb 0)=some (ay fb)),p.W.cell? (ah cb 0)=some (ay fb):=fun p=>p.h;refine aF (fun W=>∃p:kC (fun W:World=>W.cell? (ah cb 0)=some (ay fb)),W=p.W) [3,4,5,6] [(0,true),(1,false)] (by kernel_rfl) (by kernel_rfl) (fun _ _ d _ _ h=>by cases d<;>exact h) ⟨⟨_,Jv.out⟩,rfl⟩ 5 rfl (by kernel_rfl) ?_;simp only[bG,bz,bA,bu,aS,aT,aU]
  repeat(refine aI (fun K hK=>?_);go_simp;first|(refine hK _ ?_;clear hK K)|(apply Exists.intro;refine⟨fun _=>?_,hK _ ?_⟩;rfl;clear hK K))
  refine aQ ?_;refine az [2] (by kernel_rfl) (by simp) ?_;refine ak.cons rfl (fun K hK=>?_) ak.nil;refine bD wG rfl _ _ rfl (vals:=#[ay w.heap.size]) rfl (Xn.out W1.drew HPW.out (yl.out.trans (Below.bP _ 1))) ?_;rintro e w2 ⟨nv,rfl,ED,hNb⟩;refine⟨nv,rfl,?_⟩;obtain⟨na,nc,rfl⟩:=fI ED;have k0:w2.cell? (ah cb 0)=some (ay fb):=(hNb.cell (p:=(ah cb 0)) (by have:=yl.out.size;exact bJ qL this)).trans Jv.out;refine hK _ _ (fun _ _=>⟨⟨_,k0⟩,rfl⟩) ?_;clear hK K;refine aK [3,4,5,6] _ _ _ (by kernel_rfl) ?_;simp only[pick,bz,bA,bu,aS,aT];have HBT:Below w.heap.size w w2:=(yl.out.trans (Below.bP _ 1)).trans (hNb.mono yl.out.size);have hf2:w2.heap[fb]? =some (ma 0 1 (aN) n):=(HBT.block fb Cr).trans HF.out;have k3:w2.cell? (ah fb 3)=some (aN):=by simp[World.cell?,hf2]
  have z3:w2.frozen? (ah fb 3)=false:=by simp[World.frozen?,hf2]
  have BR:=ae hf2;have TY:=ae ED;have hs2:w.heap.size<=W1.heap.size:=yl.out.size;have agU:=ae HBT;clear hf2 ED hNb HBT;go_wp2
  first|go_end0|go_ret
  refine⟨rfl,_,aY (S:=fun k=>k=fb) (bR TY.out hs2) ((aC.refl _ w2).set (a:=(ah fb 3)) _ (.inl rfl)) (fun gb e e2=>by have h9:=(TY.out.lt gb e).1;have h8:w.heap.size<=W1.drew.heap.size:=hs2;omega),?_,?_⟩
  .exact dH w2 fb 3 _ _ _ BR.out
  .exact((aC.refl (fun k=>k=fb) w).below agU.out).set (a:=(ah fb 3)) _ (.inl rfl)
def alE (w:World) (fb n:Nat) (e:Ending) (w':World):Prop:=
 ∃nv,e=.returned nv/\w'.ownsRow w.heap.size 163 7 nv (aZ n).length ((aZ n).flatMap qo)/\w'.heap[fb]? =some (ma 1 0 nv n)/\aC (fun k=>k=fb) w w'
theorem Cs (fb n:Nat) (hn:n<=40000) (w:World) (hf:w.heap[fb]? =some (ma 0 0 (aN) n)):
  aO 164 #[ay fb] w (alE w fb n):=by
 have Cr:fb<w.heap.size:=(bn.1 hf).1;obtain⟨w0,ew0⟩:∃w0,w0=w.alloc (.cells #[ay fb] 137):=⟨_,rfl⟩;have hb0:Below w.heap.size w w0:=by rw[ew0];exact(aM _ _).alloc (aG _) _
 have hc0:w0.cell? (ah w.heap.size 0)=some (ay fb):=by rw[ew0,fw _ _ _ _ rfl];rfl
 have hsz:w0.heap.size=w.heap.size+1:=by rw[ew0];simp
 have TZ:w0.heap[fb]? =some (ma 0 0 (aN) n):=(hb0.block fb Cr).trans hf;have Xo:(w0.setCell (ah fb 1) (.int .i32 1)).heap[fb]? =some (ma 0 1 (aN) n):=dH w0 fb 1 _ _ _ TZ;have hc1:(w0.setCell (ah fb 1) (.int .i32 1)).cell? (ah w.heap.size 0)=some (ay fb):=(dX (aH (by show fb≠w.heap.size;omega))).trans hc0;have C1:=Po fb w.heap.size n hn _ hc1 Xo (by omega);have CO:=L6 (fn:=230) (dF Tryz.func230 (by kernel_rfl) rfl) (R:=fun w1=>∃nv,w1.ownsRow w.heap.size 163 7 nv (aZ n).length ((aZ n).flatMap qo)/\w1.heap[fb]? =some (ma 0 1 nv n)/\aC (fun k=>k=fb) w w1/\w1.cell? (ah w.heap.size 0)=some (ay fb)) fb 0 (ay w.heap.size) w0 (by simp[World.cell?,TZ]) (by simp[World.cell?,TZ]) (by simp[World.frozen?,TZ]) (by simp[World.frozen?,TZ])
  (C1.mono fun e w1 ⟨he,nv,ho,hf2,hk⟩=>⟨he,⟨nv,bR ho (by simp;omega),hf2,((aC.refl _ w).below hb0).trans (((aC.refl (fun k=>k=fb) w0).set (a:=(ah fb 1)) _ (.inl rfl)).trans hk),((di hk (b:=w.heap.size) (by simp;omega) (by omega)).1 0).trans hc1⟩,by simp[World.cell?,hf2],by simp[World.cell?,hf2],by simp[World.frozen?,hf2],by simp[World.frozen?,hf2]⟩)
 have HCO:=ae CO;have HFW:=ae hf;clear C1 CO Xo hc1 TZ hb0 hf;go_enter Tryz.func164,Tryz.ntmps164
 go_wp2_with fail
 rw[<-ew0];refine HCO.out.mono ?_;rintro e w2 ⟨rfl,w1,⟨nv,ho,Xo,hk,hcb⟩,rfl⟩;have ha:=dH w1.drew fb 0 _ _ (.int .u32 1) (show w1.drew.heap[fb]? =_ from Xo);have hb:=dH _ fb 1 _ _ (.int .i32 0) ha;have hka:aC (fun k=>k=fb) w ((w1.drew.setCell (ah fb 0) (.int .u32 1)).setCell (ah fb 1) (.int .i32 0)):=((hk.drew).set (a:=(ah fb 0)) _ (.inl rfl)).set (a:=(ah fb 1)) _ (.inl rfl);have hrow:((w1.drew.setCell (ah fb 0) (.int .u32 1)).setCell (ah fb 1) (.int .i32 0)).ownsRow w.heap.size 163 7 nv (aZ n).length ((aZ n).flatMap qo):=aY (S:=fun k=>k=fb) ho ((((aC.refl (fun k=>k=fb) w1).drew).set (a:=(ah fb 0)) _ (.inl rfl)).set (a:=(ah fb 1)) _ (.inl rfl)) (fun gb e e2=>by have h9:=(ho.lt gb e).1;omega);have hc2:((w1.drew.setCell (ah fb 0) (.int .u32 1)).setCell (ah fb 1) (.int .i32 0)).cell? (ah w.heap.size 0)=some (ay fb):=by
  exact(dX (aH (by show fb≠w.heap.size;omega))).trans ((dX (aH (by show fb≠w.heap.size;omega))).trans hcb)
 have hc3:((w1.drew.setCell (ah fb 0) (.int .u32 1)).setCell (ah fb 1) (.int .i32 0)).cell? (ah fb 3)=some nv:=by simp[World.cell?,hb]
 have HQ:Hid (alE w fb n (.returned nv) ((w1.drew.setCell (ah fb 0) (.int .u32 1)).setCell (ah fb 1) (.int .i32 0))):=⟨nv,rfl,hrow,hb,hka⟩;obtain⟨na,nc,rfl⟩:=fI ho;clear ho Xo hk hcb ha hb hka hrow HFW HCO;generalize((w1.drew.setCell (ah fb 0) (.int .u32 1)).setCell (ah fb 1) (.int .i32 0))=w9 at*;simp only[lu];go_wp2;go_ret;exact HQ.out
theorem uw (fb n:Nat) (nv:Value) (hnv:∃a c,nv=.slice a (aZ n).length c) (w:World) (hf:w.heap[fb]? =some (ma 1 0 nv n)):
  aO 164 #[ay fb] w (iX w nv):=by
 have Cr:fb<w.heap.size:=(bn.1 hf).1;obtain⟨w0,ew0⟩:∃w0,w0=w.alloc (.cells #[ay fb] 137):=⟨_,rfl⟩;have hb0:Below w.heap.size w w0:=by rw[ew0];exact(aM _ _).alloc (aG _) _
 have hc0:w0.cell? (ah w.heap.size 0)=some (ay fb):=by rw[ew0,fw _ _ _ _ rfl];rfl
 have TZ:w0.heap[fb]? =some (ma 1 0 nv n):=(hb0.block fb Cr).trans hf;have CO:=fun fv=>TW (ah fb 0) fv w0 (by simp[World.cell?,TZ]);have HCO:=ae CO;have c3:w0.cell? (ah fb 3)=some nv:=by simp[World.cell?,TZ]
 have HB:=ae hb0;obtain⟨na,nc,rfl⟩:=hnv;clear CO TZ hb0 hf;go_enter Tryz.func164,Tryz.ntmps164
 go_wp2_with fail
 rw[<-ew0];clear ew0;refine(HCO.out _).mono ?_;rintro e w2 ⟨rfl,rfl⟩;go_wp2;go_ret;exact⟨rfl,HB.out⟩
theorem rA (fb:Nat) (w:World) (hf:w.cell? (ah fb 5)=some (.bool true)):
  aO 163 #[ay fb] w fun e w'=>e=.returned (.bool false)/\w'=w:=by
 go_enter Tryz.func163,Tryz.ntmps163;go_wp2;go_ret;exact⟨rfl,rfl⟩
theorem Jw (fb n:Nat) (w:World) (h5:w.cell? (ah fb 5)=some (.bool true)) (h4:w.cell? (ah fb 4)=some (ag n)):
  aO 166 #[ay fb] w fun e w'=>e=.returned (ag n)/\w'=w:=by
 have CN:=rA fb w h5;go_enter Tryz.func166,Tryz.ntmps166
 go_wp2_with (go_at_call 163;refine CN.mono ?_;rintro e w' ⟨rfl,rfl⟩)
 go_ret;exact⟨rfl,rfl⟩
theorem jV (fb n:Nat) (h0:0<n) (hn:n<=100000) (w:World) (h5:w.cell? (ah fb 5)=some (.bool true)) (h4:w.cell? (ah fb 4)=some (ag n)):
  aO 95 #[ay fb] w fun e w'=>e=.returned (ag ((2*n-2:Nat):Int))/\w'=w:=by
 have CN:=Jw fb n w h5 h4;have d0:((n:Int)==0)=false:=by simp;omega
 have d1:(n==0)=false:=by simp;omega
 have d2:decide (n=0)=false:=by simp;omega
 have h2n:(2:Int)*(n:Int)-2=((2*n-2:Nat):Int):=by omega
 generalize((2*n-2:Nat):Int)=r at*;go_enter Tryz.func95,Tryz.ntmps95
 go_wp2_with (go_at_call 166;refine CN.mono ?_;rintro e w' ⟨rfl,rfl⟩)
 go_ret;exact⟨rfl,rfl⟩
theorem gX (fb n:Nat) (hn:n<=40000) (w:World) (hf:w.heap[fb]? =some (ma 0 0 (aN) n)):
  aO 92 #[ay fb] w fun e w'=>∃nv v,e=.returned v/\w'.ownsRow w.heap.size 163 7 nv (aZ n).length ((aZ n).flatMap qo)/\w'.ownsRow w.heap.size 163 7 v (aZ n).length ((aZ n).flatMap qo)/\w'.heap[fb]? =some (ma 1 0 nv n)/\aC (fun k=>k=fb) w w':=by
 have h5:w.cell? (ah fb 5)=some (.bool true):=by simp[World.cell?,hf]
 have CN:=rA fb w h5;have Cr:fb<w.heap.size:=(bn.1 hf).1;have Xo:(w.alloc (.cells #[] 163)).heap[fb]? =some (ma 0 0 (aN) n):=(dB _ _ _ Cr).trans hf;have CA:=ae (Cs fb n hn _ Xo);have hown:=zU (e:=163) (size:=7) w #[] 0 (aG _) (bC _) rfl;have HO:=ae hown;clear hf Xo hown;go_enter Tryz.func92,Tryz.ntmps92
 go_wp2_with (go_at_call 163;refine CN.mono ?_;rintro e w' ⟨rfl,rfl⟩)
 go_wp2_with fail
 refine CA.out.mono ?_;rintro e w2 ⟨nv,rfl,ho,hf2,hk⟩;have hro:=aY (S:=fun k=>k=fb) HO.out hk (fun gb e e2=>by have e3:=Xm e;omega);have hoL:=ho.lt;obtain⟨na,nc,rfl,-,-,jE⟩:=dU.aL jO (by decide) ho;have hl:(aZ n).length<=100000:=by rw[dA];omega
 generalize hD:aZ n=D at*;have HD:=ae hD;clear hD;have HHO:=ae ho;have BR:=ae hf2;have HK:=ae hk;have BP:aC (fun k=>k=fb) w' w2:=((aC.refl _ w').alloc _).trans hk;have HK0:=ae BP;have hsz:=hk.size;simp at hsz;have Jy:Hid (∀b,(Value.slice na D.length nc).ownBlock=some b->(w'.alloc (.cells #[] 163)).heap.size<=b/\b<w2.heap.size):=fun b e=>hoL b e;clear ho hf2 hk BP hoL CA CN
 go_wp2_with (at_builtin;refine jc agi jO Rk w'.heap.size hro jE rfl _ _ rfl rfl nc rfl (by unfold maxLen;omega) (by omega) (by omega) ?_;intro v' w3 hown' hg)
 go_ret;rw[lu,iV]at hown';have hg2:aC (fun k=>k=w'.heap.size) w2 w3:=(aC.refl _ w2).grown hg (fun k e=>.inl (by injection e with e;exact e.symm));have hne:∀gb,(Value.slice na D.length nc).ownBlock=some gb->gb≠w'.heap.size:=fun gb e=>by have:=(Jy.out gb e).1;simp at this;omega
 have hD:=HD.out;subst hD;refine⟨_,v',rfl,bR (aY (S:=fun k=>k=w'.heap.size) HHO.out hg2 hne) (by simp),hown',(hg2.block fb (by omega) (by omega)).trans BR.out,?_⟩
 .exact(((HK0.out.mono (fun k h=>.inl h)).trans (hg2.mono (fun k h=>.inr (by omega))))).strip
end Go.Proofs.YtkjdbndekceffaaGreat
namespace Go.Proofs.YtkjdbndekceffaaGreat
open Go.RowKit Go.Sort Go.Shelf Go.Lib Go.Maps
theorem L8 {w:World} {g off:Nat} {N:List Nd} {i:Nat} {d:Nd} (h:dU qo 7 w (some (ah g off)) N) (hi:N[i]? =some d):
  g<w.heap.size/\w.cell? (ah g (off+i*7))=some (.int .u8 d.kind)/\w.cell? (ah g (off+i*7+1))=some (ag d.l)/\w.cell? (ah g (off+i*7+2))=some (ag d.r)/\w.cell? (ah g (off+i*7+3))=some (ag d.fr)/\w.cell? (ah g (off+i*7+4))=some (ag d.Ri)/\w.cell? (ah g (off+i*7+6))=some (ag d.item):=by
 obtain⟨hl,hd⟩:=gD.1 hi;rcases h with h|⟨b,o,e,hb,hc⟩
 .subst h;simp at hl
 .cases e;have c:=hc i hl;rw[hd]at c;exact⟨hb,c 0 (by omega),c 1 (by omega),c 2 (by omega),c 3 (by omega),c 4 (by omega),c 6 (by omega)⟩
structure o8 (w:World) (base fb n:Nat) (nv:Value):Prop where
 blk:w.heap[fb]? =some (ma 1 0 nv n)
 row:w.ownsRow base 163 7 nv (aZ n).length ((aZ n).flatMap qo)
theorem kH (n:Nat) (h:0<n):FT.At (aZ n) (dO 0 n) 0:=⟨[],[],by unfold aZ;rw[aP (by omega)];simp,rfl⟩
theorem EE (w:World) (base:Nat) (xs:List Value) (e:TypeId) (hb:base<=w.heap.size) (hm:xs.length<=maxLen):(w.alloc (.cells xs.toArray e)).ownsRow base e 1 (aD w.heap.size xs.length xs.length) xs.length xs:=
 ⟨by simp,.inr ⟨w.heap.size,xs.length,xs.toArray,rfl,hb,wO w _,aG _,hm,by simp,by simp⟩⟩
def alF (w:World) (n x:Nat) (e:Ending) (w':World):Prop:=
 ∃v,e=.returned (.tuple #[v,ag 0])/\w'.ownsRow w.heap.size 3 1 v ((dO 0 n).path 0 x).length (((dO 0 n).path 0 x).map fun i=>ag (i:Nat))/\Below w.heap.size w w'
theorem xH (base fb n x:Nat) (nv:Value) (hn:n<=40000) (hx:x<n) (w:World) (h:o8 w base fb n nv):
  aO 192 #[ay fb,ag x] w (alF w n x):=by
 have Cr:fb<w.heap.size:=(bn.1 h.blk).1;have hb:=h.blk;have h5:w.cell? (ah fb 5)=some (.bool true):=by simp[World.cell?,hb]
 have h4:w.cell? (ah fb 4)=some (ag n):=by simp[World.cell?,hb]
 have CN:=rA fb w h5;have hlen:=dA n;obtain⟨na,nc,rfl,-,-,jE⟩:=dU.aL jO (by decide) h.row;have Ua:∃g off,na=some (ah g off):=by
  rcases jE with h9|⟨g,off,e,_⟩
  .rw[h9]at hlen;simp at hlen;omega
  .exact⟨g,off,e⟩
 obtain⟨g,off,rfl⟩:=Ua;have CA:=uw fb n _ ⟨_,_,rfl⟩ w hb;have CR:=ae (fun W (hb:Below w.heap.size w W)=>jV fb n (by omega) (by omega) W ((hb.cell (p:=(ah fb 5)) Cr).trans h5) ((hb.cell (p:=(ah fb 4)) Cr).trans h4));have hT:=bT 0 n (by omega);have hS:=fB 0 n (by omega);have F6:=ae (kH n (by omega));have Df:=ae jE;have HT:Hid ((dO 0 n).wf/\(dO 0 n).lo<=x/\x<(dO 0 n).hi/\(dO 0 n).root 0=2*n-2):=⟨hT.1,by omega,by omega,by unfold FT.root;omega⟩;have d1:decide ((x:Int)<0)=false:=by simp
 have d2:decide ((x:Int)>=(n:Int))=false:=by simp;omega
 have d3:decide ((n:Int)<=(x:Int))=false:=by simp;omega
 have d4:decide (n<=x)=false:=by simp;omega
 have hLN:(aZ n).length<=100000:=by omega
 generalize hD:aZ n=D at*;have HD:=ae hD;clear hD hb h jE hT hS hlen;go_enter Tryz.func192,Tryz.ntmps192
 go_wp2_with fail
 with_reducible refine CN.mono ?_
 rintro e w' ⟨rfl,ew⟩;subst w'
 go_wp2_with fail
 with_reducible refine CA.mono ?_
 rintro e w1 ⟨rfl,hb1⟩
 go_wp2_with fail
 refine(CR.out w1 hb1).mono ?_;rintro e w2 ⟨rfl,ew⟩;subst ew
 go_wp2_with fail
 have mf:=EE w2 w.heap.size [.int .i64 ((2*n-2:Nat):Int)] 3 hb1.size (by unfold maxLen;simp);simp only[fU,iG,lu]at mf
 go_loopg [7,8] ((dO 0 n).ht) (fun kx s7 s8 wr=>∃(t:FT) (s:Nat) (pre:List Nat),s7=.int .i64 (t.root s:Nat)/\t.ht<=kx/\Below w.heap.size w wr/\Hid (FT.At D t s)/\Hid ((dO 0 n).path 0 x=pre++t.path s x)/\Hid (t.wf/\t.lo<=x/\x<t.hi)/\
  Hid (wr.ownsRow w.heap.size 3 1 s8 (pre.length+1) ((pre++[t.root s]).map fun i=>ag (i:Nat))))
 case atStart=>exact⟨dO 0 n,0,[],by rw[HT.out.2.2.2],aG _,(hb1.trans ((aM _ w2).alloc hb1.size _)),F6,rfl,⟨HT.out.1,HT.out.2.1,HT.out.2.2.1⟩,by rw[HT.out.2.2.2];exact mf⟩
 case round=>
  obtain⟨t,s,pre,rfl,hht,nJ,HA,HPT,HW,HO⟩:=hrel;obtain⟨hg,c0,c1,c2,c3,c4,c6⟩:=L8 (Df.out.below nJ) HA.out.get;have hlt:=HA.out.lt;have hpl:pre.length+1<=n+1:=by
   have h1:=FT.qj (dO 0 n) 0 x;have h2:=xA 0 n n (xn (IG));have h3:0<(t.path s x).length:=by obtain⟨P,hP⟩:=FT.uV t s x;rw[hP];simp
   have h4:=HPT.out;rw[h4,bF]at h1;omega
  have aBu:D.length<=100000:=hLN;cases t with
  |leaf q=>
   simp only[FT.top]at c0 c1 c2 c3 c4 c6;have HR:Hid (pre.length+1=((dO 0 n).path 0 x).length/\pre++[(FT.leaf q).root s]=(dO 0 n).path 0 x):=by
    show _/\_;rw[HPT.out];simp[FT.path,FT.root,FT.size]
   generalize(FT.leaf q).root s=k at*;go_wp2;go_ret2;have h1:=HO.out;rw[HR.out.1,HR.out.2]at h1;exact⟨_,rfl,h1,nJ⟩
  |node l r=>
   simp only[FT.top]at c0 c1 c2 c3 c4 c6;have e1:((s+l.size:Nat):Int)-1=((l.root s:Nat):Int):=by unfold FT.root;have:=l.size_pos;omega
   have e2:((s+l.size+r.size:Nat):Int)-1=((r.root (s+l.size):Nat):Int):=by unfold FT.root;have:=r.size_pos;omega
   rw[e1]at c1;rw[e2]at c2;clear e1 e2 c3 c4 c6;obtain⟨-,b0,b1,b2,b3,b4,b6⟩:=L8 (Df.out.below nJ) HA.out.left.get;rw[FT.xB]at b4;clear b0 b1 b2 b3 b6;have uy:=HA.out.left.lt;have ym:=HA.out.right.lt;have V4:(FT.node l r).ht=max l.ht r.ht+1:=rfl;have V5:Hid ((dO 0 n).path 0 x=(pre++[(FT.node l r).root s])++(if x<l.hi then l.path s x else r.path (s+l.size) x)):=by
    show _=_;rw[HPT.out,ek];rfl
   have HAl:=ae HA.out.left;have HAr:=ae HA.out.right;have HWW:=ae HW.out;have HO':=HO.out;generalize Ru:(FT.node l r).root s=k at*;have alG:(pre++[k]).length=pre.length+1:=by simp
   obtain⟨kl,gU⟩:∃kl,kl=l.root s:=⟨_,rfl⟩;obtain⟨kr,Dg⟩:∃kr,kr=r.root (s+l.size):=⟨_,rfl⟩;rw[<-gU]at c1 b4 uy;rw[<-Dg]at c2 ym;have HK:Hid (kl=l.root s/\kr=r.root (s+l.size)):=⟨gU,Dg⟩;obtain⟨m,hm⟩:∃m,m=l.hi:=⟨_,rfl⟩;rw[<-hm]at b4;have HM:Hid (m=l.hi):=hm;clear gU Dg hm Ru;by_cases nD:x<m
   .have d5:decide ((x:Int)<(m:Int))=true:=by simpa using nD
    have d6:decide (x<m)=true:=by simpa using nD
    go_wp2_with (at_builtin;refine Eb oU w.heap.size HO' [.int .i64 kl] rfl (by simp[Value.oneCell']) rfl _ _ rfl rfl _ rfl (by unfold maxLen;omega) (by omega) nJ.size ?_;intro v' w3 hown' hg)
    go_roundg l.ht
    case measure=>omega
    case rel=>
     have hl:=HWW.out;refine⟨l,s,pre++[k],by rw[<-HK.out.1],aG _,eH nJ HO' hg nJ.size (aG _),HAl,?_,?_,?_⟩
     .show _=_;rw[V5.out,<-HM.out,aR nD]
     .have e1:=HM.out;obtain⟨⟨q1,q2,q3⟩,q4,q5⟩:=hl;exact⟨q1,q4,by omega⟩
     .rw[alG,dh,<-HK.out.1];exact hown'
   .have d5:decide ((x:Int)<(m:Int))=false:=by simpa using nD
    have d6:decide (x<m)=false:=by simpa using nD
    go_wp2_with (at_builtin;refine Eb oU w.heap.size HO' [.int .i64 kr] rfl (by simp[Value.oneCell']) rfl _ _ rfl rfl _ rfl (by unfold maxLen;omega) (by omega) nJ.size ?_;intro v' w3 hown' hg)
    go_roundg r.ht
    case measure=>omega
    case rel=>
     have hl:=HWW.out;refine⟨r,s+l.size,pre++[k],by rw[<-HK.out.2],aG _,eH nJ HO' hg nJ.size (aG _),HAr,?_,?_,?_⟩
     .show _=_;rw[V5.out,<-HM.out,aP nD]
     .have e1:=HM.out;obtain⟨⟨q1,q2,q3⟩,q4,q5⟩:=hl;exact⟨q2,by omega,q5⟩
     .rw[alG,dh,<-HK.out.2];exact hown'
end Go.Proofs.YtkjdbndekceffaaGreat
namespace Go.Proofs.YtkjdbndekceffaaGreat
open Go.RowKit Go.Sort Go.Shelf Go.Lib Go.Maps
attribute [local irreducible] wpQuiet
attribute [local go_sem] Oper.fM
section
variable {P:Program} {ops:Array Oper} {o:Oper} {a:Act} {K:Act->World->Prop} {Q:Exit->Act->World->Prop} {E0:Prop}
theorem Ma {α:Type} {enc:α->List Value} {sz:Nat} {t e:TypeId} {bytes:Nat} (E:eQ P t e sz bytes) {W:World} {ad:Option Addr} {l:List α} {c:Nat} (hl:dU enc sz W ad l) (hc:l.length<=c) (lo hi:Nat) (h1:lo<=hi) (h2:hi<=l.length)
  (hgd:o.guard=none) (x:Operand) (lw hg:Operand) (ho:o.op=.slice t x (some lw) (some hg) none) (hx:a.eval x=.slice ad l.length c)
  (nY:a.eval lw=.int .i64 lo) (gI:a.eval hg=.int .i64 hi)
  (h:∀Ep,dU enc sz W Ep ((l.take hi).drop lo)->K (a.put o.dst (.slice Ep (hi-lo) (c-lo))) W):
  if Region.wanted o (yielded ops a.tmps)=true then Oper.wp P o a W K Q else E0:=by
 have hw:Region.wanted o (yielded ops a.tmps)=true:=by simp[Region.wanted,hgd]
 rw[aR hw];obtain⟨ht,⟨i,z,hi',hz,hsize,hby,hzs⟩,hsz⟩:=E;have hk:=h _ (Db hl hc lo hi h2);have hu:∀W',(underlying t).run P W'=.ok (.slice e) W':=fun W'=>pM ht W';have hs:∀W',(sizeOf e).run P W'=.ok sz W':=fun W'=>by simp[sizeOf,typeInfo,hi',hsize]
 have hhc:hi<=c:=by omega
 unfold Oper.wp execOp;simp[ho,hx,nY,gI,Instr.sliceAt,Instr.slice,Instr.sliceBounds,Instr.sliceBound,hu,hs,asIntOf,h1,hhc];exact hk
end
theorem Rd.toK {α:Type} {enc:α->Value} {w:World} {a:Option Addr} {l:List α} (h:Rd enc w a l):dU (fun x=>[enc x]) 1 w a l:=by
 rcases h with h|⟨b,off,e,hb,hc⟩
 .exact .inl h
 .exact .inr ⟨b,off,e,hb,fun i hi j hj=>by
   obtain rfl:j=0:=by omega
   rw[lC,eG];exact hc i hi⟩
def asw (B nb:Nat) (w0:World) (W:World) (acc:List Nat) (D:Nat->Prop):Prop:=
 Below B w0 W/\W.heap[nb]? =some (.cells #[ag acc.length] 3 (0,0))/\D=fun k=>k=nb
theorem acE:∀args w,(callFunc 158 args).run Tryz.prog w=.ok (.enter 158 args) w:=dF Tryz.func158 (by kernel_rfl) rfl
theorem acF:∀args w,(callFunc 105 args).run Tryz.prog w=.ok (.enter 105 args) w:=dF Tryz.func105 (by kernel_rfl) rfl
theorem alH (N:List Nd) (nm:Nat->Int) (YS:List Nat) (LN LL:Nat->Value) (tb B nb:Nat) (w0:World) (FL:List Nat) (hFL:FL.length<=1000000) (hnb:B<=nb) (hB:B=w0.heap.size):
  Told 158 #[ay nb] N YS LN LL B w0 FL (asw B nb w0) where
 enters:=acE
 base:=fun W acc D h=>h.1
 lt:=fun W acc D h k hk=>by
  obtain⟨h1,h2,rfl⟩:=h;have:=(bn.1 h2).1;subst hk;exact⟨hnb,this⟩
 kD:=fun W W' acc D h hb=>by
  obtain⟨h1,h2,rfl⟩:=h;exact⟨h1.trans (hb.mono (hB▸h1.size)),(hb.block nb (bn.1 h2).1).trans h2,rfl⟩
 told:=fun W acc D t s a b h ha hab hbl hF=>by
  obtain⟨h1,h2,rfl⟩:=h;have hl:(acc++((nl YS t).take b).drop a).length=acc.length+(b-a):=by rw[bF,qg,eF];omega
  have hl2:=hF.length_le;rw[hl]at hl2;have HH:=ae h2;have H1:=ae h1;have HL:=ae hl;have c0:W.cell? (ah nb 0)=some (ag acc.length):=by simp[World.cell?,h2]
  have z0:W.frozen? (ah nb 0)=false:=by simp[World.frozen?,h2]
  have TG:nb<W.heap.size:=(bn.1 h2).1;have e1:(acc.length:Int)+((b:Int)-(a:Int))=((acc.length+(b-a):Nat):Int):=by omega
  clear hl hF h1 h2;generalize LN (t.root s)=lnv at*;generalize LL (t.root s)=llv at*;show aO 158 #[.agg #[lnv,llv],ag a,ag b,ay nb] W _;generalize asx:acc.length=n at*;have c0':=((aM W.heap.size W).alloc (aG _) (.cells #[lnv,llv] 150)).cell (p:=(ah nb 0)) TG;have HK:Hid (∀v,aC (fun k=>k=nb) W ((W.setCell (ah nb 0) v).alloc (.cells #[lnv,llv] 150))):=fun v=>((aC.refl (fun k=>k=nb) W).set (a:=(ah nb 0)) _ (.inl rfl)).alloc _;have HS:Hid (∀v,((W.setCell (ah nb 0) v).alloc (.cells #[lnv,llv] 150)).heap[nb]? =some (.cells #[v] 3 (0,0))):=fun v=>(dB _ _ _ (by simpa using TG)).trans (dH _ nb 0 _ _ v HH.out);go_enter Tryz.func158,Tryz.ntmps158;go_wp2
  first|go_end0|go_ret
  refine⟨rfl,_,⟨?_,?_,rfl⟩,fun k h=>.inl h,HK.out _⟩
  .exact H1.out.trans ((HK.out _).toBelow (bO (Ay hB) H1.out.size) (fun k h=>by omega))
  .rw[HS.out,HL.out];rfl
def agW (B ob:Nat) (nm:Nat->Int) (w0:World) (W:World) (acc:List Nat) (D:Nat->Prop):Prop:=
 Below B w0 W/\∃v,W.heap[ob]? =some (.cells #[v] 35 (0,0))/\W.ownsRow B 27 1 v acc.length ((acc.map nm).map (Value.int .u32))/\D=fun k=>k=ob\/v.ownBlock=some k
theorem Xp (N:List Nd) (nm:Nat->Int) (YS:List Nat) (LN LL:Nat->Value) (tb B ob:Nat) (w0:World) (FL:List Nat) (hFL:FL.length<=1000000) (V6:B<=ob) (hB:B=w0.heap.size) (hA:OX w0 tb N nm YS LN LL) (hYS:YS.length<=1000000):
  Told 105 #[ay ob] N YS LN LL B w0 FL (agW B ob nm w0) where
 enters:=acF
 base:=fun W acc D h=>h.1
 lt:=fun W acc D h k hk=>by
  obtain⟨h1,v,h2,h3,rfl⟩:=h;rcases hk with rfl|hk
  .exact⟨V6,(bn.1 h2).1⟩
  .exact h3.lt k hk
 kD:=fun W W' acc D h hb=>by
  obtain⟨h1,v,h2,h3,rfl⟩:=h;exact⟨h1.trans (hb.mono (hB▸h1.size)),v,(hb.block ob (bn.1 h2).1).trans h2,au h3 hb,rfl⟩
 told:=fun W acc D t s a b h ha hab hbl hF=>by
  obtain⟨h1,v,h2,h3,rfl⟩:=h;have hl:(acc++((nl YS t).take b).drop a).length=acc.length+(b-a):=by rw[bF,qg,eF];omega
  have hl2:=hF.length_le;rw[hl]at hl2;obtain⟨an,cn,eN,hcn,rn⟩:=hA.Lt t s ha;have rn1:=rn.below h1 (Ay hB.symm);rw[eN];have TG:(nl YS t).length<=YS.length:=gG _ _;generalize hnL:nl YS t=L at*;generalize LL (t.root s)=llv at*;obtain⟨va,vc,rfl⟩:=fI h3;have NU:ob<W.heap.size:=(bn.1 h2).1;obtain⟨w1,fJ⟩:∃w1,w1=W.alloc (.cells #[.slice an L.length cn,llv] 150):=⟨_,rfl⟩;have hb1:Below W.heap.size W w1:=by rw[fJ];exact(aM _ _).alloc (aG _) _
  have Ha:w1.heap[W.heap.size]? =some (.cells #[.slice an L.length cn,llv] 150 (0,0)):=by rw[fJ];exact dE W _
  have Jz:=(hb1.block ob NU).trans h2;have c0:w1.cell? (ah ob 0)=some (.slice va acc.length vc):=by simp[World.cell?,Jz]
  have z0:w1.frozen? (ah ob 0)=false:=by simp[World.frozen?,Jz]
  have c1:w1.cell? (ah W.heap.size 0)=some (.slice an L.length cn):=by simp[World.cell?,Ha]
  have g0:=aj c0;have g1:=aj c1;have HOW:Hid (w1.drew.ownsRow B 27 1 (.slice va acc.length vc) acc.length ((acc.map nm).map (Value.int .u32))):=au h3 hb1.drew;have HRN:Hid (Rd (.int .u32) w1.drew an (L.map nm)):=rn1.below hb1.drew;have HOB:=ae Jz;have fK:=ae hb1;have H1:=ae h1;have HL:=ae hl;have hBW:B<=W.heap.size:=by rw[hB];exact h1.size
  have Cm:W.heap.size<w1.heap.size:=by rw[fJ];simp
  have hvo:=h3.lt;have HVO:=ae hvo;have Xq:∀gb,(Value.slice va acc.length vc).ownBlock=some gb->ob≠gb:=bH h3 h2 (by decide);have Xt:=ae Xq;clear hl hF h1 h2 h3 rn rn1 eN Ha Jz hb1 hA ha hvo Xq;have hlm:(L.map nm).length=L.length:=by simp
  show aO 105 #[.agg #[.slice an L.length cn,llv],ag a,ag b,ay ob] W _;go_enter Tryz.func105,Tryz.ntmps105
  go_wp2_with fail
  rw[<-fJ];clear fJ;refine aF (fun W=>∃p:bg w1,W=p.W) [6,7] [(0,true),(1,false),(2,true),(3,false),(4,false)] (by kernel_rfl) (by kernel_rfl) (fun _ _ d _ _ h=>by cases d<;>exact h) ⟨⟨_,(aM _ _).drew⟩,rfl⟩ 3 rfl (by kernel_rfl) ?_;simp only[bG,bz,bA,bu,aS,aT,aU]
  repeat(refine aI (fun K hK=>?_);go_simp;first|(refine hK _ ?_;clear hK K)|(apply Exists.intro;refine⟨fun _=>?_,hK _ ?_⟩;rfl;clear hK K))
  refine aQ ?_;refine az [5] (by kernel_rfl) (by simp) ?_;refine ak.cons rfl (fun K hK=>?_) ak.nil;refine Ma (c:=cn) yw HRN.out.toK (by simp;omega) a b hab (by simp;omega) rfl (.tmp 9) (.tmp 10) (.tmp 11) rfl (by rw[hlm];rfl) rfl rfl ?_;intro Ep hrs;refine hK _ _ (fun h _=>h) ?_;clear hK K;refine aK [6,7] _ _ _ (by kernel_rfl) ?_;simp only[pick,bz,bA,bu,aS,aT];have hsl:(((L.map nm).take b).drop a).length=b-a:=by simp;omega
  refine oZ yw (fun _=>rfl) (fun x u hu=>by simp at hu;subst hu;rfl) B HOW.out hrs rfl (.tmp 7) (.tmp 12) rfl rfl (cn-a) (by rw[hsl];rfl) (by rw[hsl];unfold maxLen;omega) (by rw[hsl];omega) (by show B<=w1.heap.size;omega) ?_;intro v' w2 hv2 hg2 Xu;rw[hsl]at hv2;have KG:aC (fun k=>(Value.slice va acc.length vc).ownBlock=some k) w1.drew w2:=(aC.refl _ _).grown hg2 (fun k hk=>.inl hk);have hwo:ob<w1.heap.size:=xq NU Cm;have asA:¬(Value.slice va acc.length vc).ownBlock=some ob:=fun h=>Xt.out ob h rfl;have Mc:w2.heap[ob]? =some (.cells #[.slice va acc.length vc] 35 (0,0)):=(KG.block ob hwo asA).trans HOB.out;have c2:w2.cell? (ah ob 0)=some (.slice va acc.length vc):=by simp[World.cell?,Mc]
  have z2:w2.frozen? (ah ob 0)=false:=by simp[World.frozen?,Mc]
  have agY:=ae Mc;have HV2:=ae hv2;have HKG:Hid (aC (fun k=>k=ob\/(Value.slice va acc.length vc).ownBlock=some k) W w2):=(((aC.refl _ W).below fK.out).drew).trans (KG.mono fun k h=>.inr h);have uZ:=ae Xu;obtain⟨va',vc',rfl⟩:=fI hv2;clear Mc hv2 KG Xu hg2 hrs c0 z0 c1 g0 g1;go_wp2
  first|go_end0|go_ret
  have KF:=(HKG.out.set (a:=(ah ob 0)) (.slice va' (acc.length+(b-a)) vc') (.inl (.inl rfl)));have ag0:∀gb,(Value.slice va' (acc.length+(b-a)) vc').ownBlock=some gb->gb≠ob:=fun gb e=>by
   rcases uZ.out with h9|h9
   .exact fun e9=>Xt.out gb (h9▸e) e9.symm
   .rw[h9]at e;injection e with e;intro e9;have:w1.drew.heap.size=ob:=by rw[e,e9]
    have h8:w1.heap.size=ob:=this;omega
  refine⟨rfl,_,⟨H1.out.trans (KF.toBelow (bO (Ay hB) H1.out.size) (fun k h=>?_)),.slice va' (acc.length+(b-a)) vc',dH _ ob 0 _ _ _ agY.out,?_,rfl⟩,fun k h=>?_,KF⟩
  .rcases h with rfl|h
   .exact V6
   .exact(HVO.out k h).1
  .have h9:=aY (S:=fun k=>k=ob) HV2.out ((aC.refl (fun k=>k=ob) w2).set (a:=(ah ob 0)) (.slice va' (acc.length+(b-a)) vc') (.inl rfl)) ag0;have e1:(acc++(L.take b).drop a).length=acc.length+(b-a):=HL.out;rw[e1];have e2:(((acc++(L.take b).drop a).map nm).map (Value.int .u32))=((acc.map nm).map (Value.int .u32))++(((L.map nm).take b).drop a).flatMap (fun x=>[aJ x]):=by
    rw[dh,dh,<-List.map_take,<-Am];congr 1
    induction(((L.take b).drop a).map nm)with
    |nil=>rfl
    |cons x l ih=>rw[mY,oP,ih];rfl
   rw[e2];exact h9
  .rcases h with rfl|h
   .exact .inl (.inl rfl)
   .rcases uZ.out with h9|h9
    .exact .inl (.inr (h9▸h))
    .rw[h9]at h;injection h with h;right;have h8:w1.heap.size=k:=h;omega
end Go.Proofs.YtkjdbndekceffaaGreat
namespace Go.Proofs.YtkjdbndekceffaaGreat
open Go.RowKit
theorem EF (g:Nat) (cb:Array Value) (n:Nat) (p:Nat->Bool) (w:World) (hsz:n<4611686018427387904) (eg:∀args w,(callFunc g args).run Tryz.prog w=.ok (.enter g args) w)
  (hf:∀(W:World) (i:Nat),Below w.heap.size w W->i<n->aO g (#[ag i]++cb) W (iX W (.bool (p i)))):
  aO 252 #[ag n,.func (.func g) #[] cb] w (iX w (.tuple #[ag (bsrch p n 0 n 0).1,ag (bsrch p n 0 n 0).2])):=by
 have HF:=ae hf;clear hf;generalize hr:bsrch p n 0 n 0=r;have HR:=ae hr;clear hr;obtain⟨r1,r2⟩:=r;go_enter Tryz.func252,Tryz.ntmps252;go_wp2
 go_loopg [6,7,8] n (fun kx s6 s7 s8 wr=>∃(lo hi k:Nat),s6=.int .i64 lo/\s7=.int .i64 hi/\s8=.int .i64 k/\lo<=hi/\hi<=n/\k+(hi-lo)<=n/\hi-lo<=kx/\Below w.heap.size w wr/\
  Hid (bsrch p n lo hi k=(r1,r2)))
 case atStart=>exact⟨0,n,0,rfl,rfl,rfl,bC _,aG _,by omega,by omega,aM _ _,HR⟩
 case round=>
  obtain⟨lo,hi,k,rfl,rfl,rfl,hlh,iC,hk,hg,hb,I⟩:=hrel;by_cases hlt:lo<hi
  .have hc:=HF.out wr (lo+(hi-lo)/2) hb (by omega);rw[show((lo+(hi-lo)/2:Nat):Int)=(lo:Int)+((hi:Int)-(lo:Int))/2 by omega]at hc;have I2:=I.out;have I3:bsrch p n lo hi k=bsrch p (n+1) lo hi k:=OQ p _ _ _ _ _ (by omega) (by omega);rw[I3,bsrch,aR hlt]at I2;cases hp:p (lo+(hi-lo)/2)<;>rw[hp]at hc I2
   .have HP:=ae I2;clear hp I2 I3
    go_wp2_with (go_at_fn g;refine hc.mono ?_;rintro e w' ⟨rfl,hb'⟩)
    go_roundg (hi-(lo+(hi-lo)/2+1))
    case measure=>omega
    case rel=>
     exact⟨lo+(hi-lo)/2+1,hi,k+1,by go_num,rfl,by go_num,by omega,iC,by omega,aG _,hb.trans (hb'.mono hb.size),HP.out⟩
   .have HP:=ae I2;clear hp I2 I3
    go_wp2_with (go_at_fn g;refine hc.mono ?_;rintro e w' ⟨rfl,hb'⟩)
    go_roundg ((lo+(hi-lo)/2)-lo)
    case measure=>omega
    case rel=>
     exact⟨lo,lo+(hi-lo)/2,k+1,rfl,by go_num,by go_num,by omega,by omega,by omega,aG _,hb.trans (hb'.mono hb.size),HP.out⟩
  .obtain rfl:hi=lo:=by omega
   have I2:=I.out;have I3:bsrch p n hi hi k=(hi,k):=by cases n<;>simp[bsrch]
   rw[I3]at I2;cases I2;clear I3 I HR;go_wp2;go_ret2;exact⟨rfl,hb⟩
theorem acH (i:Nat) (bl bx:Nat) (a:Option Addr) (l:List Int) (c:Nat) (x:Int) (W:World) (ha:W.cell? (ah bl 0)=some (.slice a l.length c)) (hx:W.cell? (ah bx 0)=some (ag x))
  (h:Rd (.int .i64) W a l) (hi:i<l.length):
  aO 253 (#[ag i]++#[ay bl,ay bx]) W (iX W (.bool (decide (x<=l.getD i 0)))):=by
 obtain⟨b,off,rfl,hbl,hc⟩:=h.get (by omega);have hc1:=hc i hi;have hg:l.getD i 0=l[i]:=by simp[hi]
 rw[hg];clear hg hc;generalize l[i]=y at*;have hlt:(i:Int)<(l.length:Int):=by omega
 go_enter Tryz.func253,Tryz.ntmps253;go_wp2
 go_quiet (fail)
 go_wp2;go_ret;exact⟨yu (by first|rfl|simp),⟨rfl,rfl,rfl,aG _,fun _ _=>rfl⟩⟩
theorem Md:∀args w,(callFunc 253 args).run Tryz.prog w=.ok (.enter 253 args) w:=dF Tryz.func253 (by kernel_rfl) rfl
theorem JA (a:Option Addr) (l:List Int) (c:Nat) (x:Int) (w:World) (h:Rd (.int .i64) w a l) (hl:l.length<4611686018427387904):
  aO 170 #[.slice a l.length c,ag x] w (iX w (.tuple #[ag (aX l x).1,ag (aX l x).2])):=by
 have H:=ae h;clear h;unfold aX;have eg:=Md;have HC:Hid (∀(W:World) (i:Nat),Below ((w.alloc (.cells #[.slice a l.length c] 143)).alloc (.cells #[ag x] 2)).heap.size ((w.alloc (.cells #[.slice a l.length c] 143)).alloc (.cells #[ag x] 2)) W->i<l.length->
   aO 253 (#[ag i]++#[ay w.heap.size,ay (w.heap.size+1)]) W (iX W (.bool ((fun i=>decide (x<=l.getD i 0)) i)))):=by
  intro W i hb hi;have hb1:Below w.heap.size w W:=(((aM _ _).alloc (aG _) _).alloc (by simp) _).trans (hb.mono (by simp;omega));refine acH i _ _ a l c x W ?_ ?_ (H.out.below hb1) hi
  .rw[hb.cell (by simp;omega)];simp
  .rw[hb.cell (by simp)];simp
 generalize(fun i=>decide (x<=l.getD i 0))=p at*;go_enter Tryz.func170,Tryz.ntmps170
 go_wp2_with (go_at_call 252;refine(EF _ _ _ p _ hl eg HC.out).mono ?_;rintro e w' ⟨rfl,hb⟩)
 go_ret2;exact⟨rfl,(((aM _ _).alloc (aG _) _).alloc (by simp) _).trans (hb.mono (by simp;omega))⟩
theorem acI (i:Nat) (bl bx:Nat) (a:Option Addr) (l:List Int) (c:Nat) (x:Int) (W:World) (ha:W.cell? (ah bl 0)=some (.slice a l.length c)) (hx:W.cell? (ah bx 0)=some (ag x))
  (h:Rd (.int .i64) W a l) (hi:i<l.length):
  aO 254 (#[ag i]++#[ay bl,ay bx]) W (iX W (.bool (decide (x<l.getD i 0)))):=by
 obtain⟨b,off,rfl,hbl,hc⟩:=h.get (by omega);have hc1:=hc i hi;have hg:l.getD i 0=l[i]:=by simp[hi]
 rw[hg];clear hg hc;generalize l[i]=y at*;have hlt:(i:Int)<(l.length:Int):=by omega
 go_enter Tryz.func254,Tryz.ntmps254;go_wp2
 go_quiet (fail)
 go_wp2;go_ret;exact⟨yu (by first|rfl|simp),⟨rfl,rfl,rfl,aG _,fun _ _=>rfl⟩⟩
theorem Me:∀args w,(callFunc 254 args).run Tryz.prog w=.ok (.enter 254 args) w:=dF Tryz.func254 (by kernel_rfl) rfl
theorem JB (a:Option Addr) (l:List Int) (c:Nat) (x:Int) (w:World) (h:Rd (.int .i64) w a l) (hl:l.length<4611686018427387904):
  aO 171 #[.slice a l.length c,ag x] w (iX w (.tuple #[ag (aW l x).1,ag (aW l x).2])):=by
 have H:=ae h;clear h;unfold aW;have eg:=Me;have HC:Hid (∀(W:World) (i:Nat),Below ((w.alloc (.cells #[.slice a l.length c] 143)).alloc (.cells #[ag x] 2)).heap.size ((w.alloc (.cells #[.slice a l.length c] 143)).alloc (.cells #[ag x] 2)) W->i<l.length->
   aO 254 (#[ag i]++#[ay w.heap.size,ay (w.heap.size+1)]) W (iX W (.bool ((fun i=>decide (x<l.getD i 0)) i)))):=by
  intro W i hb hi;have hb1:Below w.heap.size w W:=(((aM _ _).alloc (aG _) _).alloc (by simp) _).trans (hb.mono (by simp;omega));refine acI i _ _ a l c x W ?_ ?_ (H.out.below hb1) hi
  .rw[hb.cell (by simp;omega)];simp
  .rw[hb.cell (by simp)];simp
 generalize(fun i=>decide (x<l.getD i 0))=p at*;go_enter Tryz.func171,Tryz.ntmps171
 go_wp2_with (go_at_call 252;refine(EF _ _ _ p _ hl eg HC.out).mono ?_;rintro e w' ⟨rfl,hb⟩)
 go_ret2;exact⟨rfl,(((aM _ _).alloc (aG _) _).alloc (by simp) _).trans (hb.mono (by simp;omega))⟩
end Go.Proofs.YtkjdbndekceffaaGreat
namespace Go.Proofs.YtkjdbndekceffaaGreat
open Go.RowKit Go.Sort Go.Shelf Go.Lib Go.Maps
attribute [local irreducible] wpQuiet
attribute [local go_sem] Oper.fM
structure AV where
 rv:Value
 xv:Value
 gv:Value
 nv:Value
 lv:Value
 yv:Value
 fv:Value
 LN:Nat->Value
 LL:Nat->Value
structure jZ (w:World) (lo hi tb fb:Nat) (R:List Pt) (gone:List Bool) (YS:List Nat) (V:AV):Prop where
 blk:w.heap[tb]? =some (.cells #[V.rv,V.xv,V.gv,ay fb,V.nv,V.lv,V.yv,ag YS.length] 146 (0,0))
 fo:lo<=tb/\tb<hi/\lo<=fb/\fb<hi/\hi<=w.heap.size
 row:w.ownsRow lo 29 3 V.rv R.length (R.flatMap fH)
 xs:w.ownsRow lo 2 1 V.xv R.length ((bX R).map (Value.int .i64))
 Hd:w.ownsRow lo 4 1 V.gv R.length (gone.map Value.bool)
 iT:o8 w lo fb R.length V.fv
 jG:w.ownsRow lo 163 7 V.nv (aZ R.length).length ((aZ R.length).flatMap qo)
 Jl:w.ownsRow lo 150 2 V.lv (aZ R.length).length ((List.range (aZ R.length).length).flatMap fun k=>[V.LN k,V.LL k])
 ys:w.ownsRow lo 2 1 V.yv YS.length ((jL R YS).map (Value.int .i64))
 Lt:∀t s,FT.At (aZ R.length) t s->w.ownsRow lo 27 1 (V.LN (t.root s)) (nl YS t).length (((nl YS t).map (ko R)).map (Value.int .u32))
 Em:∀l r s,FT.At (aZ R.length) (.node l r) s->w.ownsRow lo 3 1 (V.LL ((FT.node l r).root s)) (lf l.hi (nl YS (.node l r))).length ((lf l.hi (nl YS (.node l r))).map (Value.int .i64))
 G6:∀k,k<(aZ R.length).length->∃a m c,V.LL k=.slice a m c
 top:∀v,v=V.rv\/v=V.xv\/v=V.gv\/v=V.nv\/v=V.lv\/v=V.yv\/v=V.fv->∀g,v.ownBlock=some g->g<hi
 qz:∀k,k<(aZ R.length).length->(∀g,(V.LN k).ownBlock=some g->g<hi)/\∀g,(V.LL k).ownBlock=some g->g<hi
 V7:∀g,V.xv.ownBlock=some g->V.yv.ownBlock≠some g
 NV:∀i k,i<(aZ R.length).length->k<(aZ R.length).length->i≠k->∀g,(V.LN i).ownBlock=some g->(V.LN k).ownBlock≠some g
 Mf:∀i k,i<(aZ R.length).length->k<(aZ R.length).length->i≠k->∀g,(V.LL i).ownBlock=some g->(V.LL k).ownBlock≠some g
theorem jZ.kept {S:Nat->Prop} {w w':World} {lo hi tb fb:Nat} {R:List Pt} {gone:List Bool} {YS:List Nat} {V:AV} (h:jZ w lo hi tb fb R gone YS V) (K:aC S w w') (hS:∀k,lo<=k->k<hi->¬S k):jZ w' lo hi tb fb R gone YS V:=by
 have ht:=h.top;have hr:∀{e:TypeId} {sz:Nat} {v:Value} {n:Nat} {xs:List Value},w.ownsRow lo e sz v n xs->(∀g,v.ownBlock=some g->g<hi)->w'.ownsRow lo e sz v n xs:=fun hr hv=>aY hr K fun g e=>hS g (hr.lt g e).1 (hv g e);have hat:∀t s,FT.At (aZ R.length) t s->t.root s<(aZ R.length).length:=fun t s ha=>ha.lt;exact⟨bL K h.blk (hS tb h.fo.1 h.fo.2.1),⟨h.fo.1,h.fo.2.1,h.fo.2.2.1,h.fo.2.2.2.1,bO h.fo.2.2.2.2 K.size⟩,
  hr h.row (ht _ (by simp)),hr h.xs (ht _ (by simp)),hr h.Hd (ht _ (by simp)),
  ⟨bL K h.iT.blk (hS fb h.fo.2.2.1 h.fo.2.2.2.1),hr h.iT.row (ht _ (by simp))⟩,hr h.jG (ht _ (by simp)),hr h.Jl (ht _ (by simp)),hr h.ys (ht _ (by simp)),
  fun t s ha=>hr (h.Lt t s ha) (h.qz _ (hat t s ha)).1,fun l r s ha=>hr (h.Em l r s ha) (h.qz _ (hat _ s ha)).2,h.G6,h.top,h.qz,h.V7,h.NV,h.Mf⟩
theorem jZ.below {w w':World} {B lo hi tb fb:Nat} {R:List Pt} {gone:List Bool} {YS:List Nat} {V:AV} (h:jZ w lo hi tb fb R gone YS V) (hb:Below B w w') (hB:hi<=B):jZ w' lo hi tb fb R gone YS V:=
 h.kept (S:=fun k=>hi<=k) ⟨hb.os,hb.tape,hb.output,hb.size,fun k hk hn=>hb.block k (by omega)⟩ fun k h1 h2 h3=>by omega
theorem jZ.dn {w:World} {lo hi tb fb:Nat} {R:List Pt} {gone:List Bool} {YS:List Nat} {V:AV} (h:jZ w lo hi tb fb R gone YS V) (h0:0<R.length):OX w tb (aZ R.length) (ko R) YS V.LN V.LL:=by
 have hb:=h.blk;have hl:=dA R.length;have c4:w.cell? (ah tb 4)=some V.nv:=by simp[World.cell?,hb]
 have c5:w.cell? (ah tb 5)=some V.lv:=by simp[World.cell?,hb]
 refine⟨?_,?_,fun t s ha=>?_,fun l r s ha=>?_,h.G6⟩
 .obtain⟨g,c,e,_⟩:=bf h.jG (by omega);obtain⟨a,c',e',-,-,hr⟩:=dU.aL jO (by decide) h.jG;rw[e]at e';injection e' with e1 e2 e3;rw[<-e1]at hr;exact⟨g,0,c,by rw[c4,e],hr⟩
 .obtain⟨g,c,e,_,hg,_⟩:=bf h.Jl (by omega);have Mg:(aZ R.length).length=(List.range (aZ R.length).length).length:=by simp
  obtain⟨a,c',e',-,-,hr⟩:=dU.aL (enc:=fun k=>[V.LN k,V.LL k]) (fun _=>rfl) (by decide) h.Jl;rw[e]at e';injection e' with e1 e2 e3;rw[<-e1]at hr;refine⟨g,c,by rw[c5,e],hg,fun k hk=>?_⟩;obtain⟨b,off,e9,Mh,hc⟩:=hr.get (by simp;omega);injection e9 with e9;injection e9 with e8 e7 _;subst e8 e7;have q0:=hc k (by simpa using hk) 0 (by omega);have q1:=hc k (by simpa using hk) 1 (by omega);simp only[zW,lu,eG,aT,aS]at q0 q1;exact⟨q0,q1⟩
 .obtain⟨a,c,e,-,hc,hr⟩:=Rd.aL (h.Lt t s ha);rw[cu]at e hc;exact⟨a,c,e,hc,hr⟩
 .obtain⟨a,c,e,-,hc,hr⟩:=Rd.aL (h.Em l r s ha);exact⟨a,c,e,hr⟩
theorem AX (tb fb:Nat) (w:World) (h3:w.cell? (ah tb 3)=some (ay fb)):
  aO 169 #[ay tb] w fun e w'=>e=.returned (.bool false)/\w'=w:=by
 go_enter Tryz.func169,Tryz.ntmps169;go_wp2;go_ret;exact⟨rfl,rfl⟩
theorem nE (p:Nat->Bool) (n:Nat) (hp:∀i j,i<=j->j<n->p i=true->p j=true):∀(f lo hi k:Nat),hi-lo<=f->lo<=hi->hi<=n->(∀t,t<lo->p t=false)->(∀t,hi<=t->t<n->p t=true)->
  (bsrch p f lo hi k).1<=n/\(∀t,t<(bsrch p f lo hi k).1->p t=false)/\(∀t,(bsrch p f lo hi k).1<=t->t<n->p t=true):=by
 intro f
 induction f with
 |zero=>
  intro lo hi k h1 h2 h3 h4 h5;simp only[bsrch];obtain rfl:hi=lo:=by omega
  exact⟨h3,h4,h5⟩
 |succ f ih=>
  intro lo hi k h1 h2 h3 h4 h5;simp only[bsrch];by_cases h:lo<hi
  .rw[aR h];by_cases hm:p (lo+(hi-lo)/2)=true
   .rw[aR hm];exact ih _ _ _ (by omega) (by omega) (by omega) h4 (fun t ht htn=>hp _ t ht htn hm)
   .rw[aP hm];refine ih _ _ _ (by omega) (by omega) h3 (fun t ht=>?_) h5;cases Xv:p t with
    |false=>rfl
    |true=>exact absurd (hp t _ (by omega) (by omega) Xv) hm
  .rw[aP h];obtain rfl:hi=lo:=by omega
   exact⟨h3,h4,h5⟩
theorem qA {α:Type} {q:α->Bool}:∀(l:List α) (m:Nat),m<=l.length->(∀t (h:t<l.length),t<m->q l[t]=true)->(∀t (h:t<l.length),m<=t->q l[t]=false)->m=l.countP q
 |[],m,hm,_,_=>by simp at hm;simp[hm]
 |x::l,0,_,_,h2=>by
  symm;refine List.countP_eq_zero.2 fun y hy=>?_;obtain⟨t,ht,rfl⟩:=jA hy;rw[h2 t ht (bC _)];decide
 |x::l,m+1,hm,h1,h2=>by
  have h3:q x=true:=h1 0 (by simp) (by omega);rw[Ou h3,<-qA l m (by simpa using hm) (fun t ht Ub=>h1 (t+1) (by simpa using ht) (by omega)) (fun t ht Ub=>h2 (t+1) (by simpa using ht) (by omega))]
theorem Gi {l:List Int} (hs:l.Pairwise (·<=·)) (x:Int):(aX l x).1=l.countP fun y=>decide (y<x):=by
 have nX:∀i,i<l.length->l.getD i 0=l[i]! :=fun i hi=>by simp[hi]
 obtain⟨h1,h2,h3⟩:=nE (fun i=>decide (x<=l.getD i 0)) l.length (fun i j oV hj hi=>by
  by_cases e:i=j
  .exact e▸hi
  .have:=iq.1 hs i j (by omega) hj (by omega);simp[hj,show i<l.length by omega]at hi |-;omega) l.length 0 l.length 0 (by omega) (by omega) (aG _) (by omega) (by omega)
 unfold aX;refine qA l _ h1 (fun t ht Ub=>?_) (fun t ht Ub=>?_)
 .have:=h2 t Ub;simp[ht]at this;simpa using this
 .have:=h3 t Ub ht;simp[ht]at this;simpa using this
theorem Gj {l:List Int} (hs:l.Pairwise (·<=·)) (x:Int):(aW l x).1=l.countP fun y=>decide (y<=x):=by
 obtain⟨h1,h2,h3⟩:=nE (fun i=>decide (x<l.getD i 0)) l.length (fun i j oV hj hi=>by
  by_cases e:i=j
  .exact e▸hi
  .have:=iq.1 hs i j (by omega) hj (by omega);simp[hj,show i<l.length by omega]at hi |-;omega) l.length 0 l.length 0 (by omega) (by omega) (aG _) (by omega) (by omega)
 unfold aW;refine qA l _ h1 (fun t ht Ub=>?_) (fun t ht Ub=>?_)
 .have:=h2 t Ub;simp[ht]at this;simpa using this
 .have:=h3 t Ub ht;simp[ht]at this;simpa using this
theorem dm.ysS {R:List Pt} {gone:List Bool} {YS:List Nat} (h:dm R gone YS):(jL R YS).Pairwise (·<=·):=dG.2 h.le
theorem Xw {R:List Pt} {gone:List Bool} {YS:List Nat} (h:dm R gone YS) (y:Int):(aX (jL R YS) y).1=below (mD R) y YS:=by
 rw[Gi h.ysS];unfold jL below;rw[I7];rfl
theorem acJ {R:List Pt} {gone:List Bool} {YS:List Nat} (h:dm R gone YS) (y:Int):(aW (jL R YS) y).1=upto (mD R) y YS:=by
 rw[Gj h.ysS];unfold jL upto;rw[I7];rfl
theorem gK (p:Nat->Bool) (n:Nat):(bsrch p n 0 n 0).2<=n/\(bsrch p n 0 n 0).1<=n:=by
 have:=Ji p n 0 n 0 (by omega);omega
def JC (S:World->List Nat->(Nat->Prop)->Prop) (W:World) (D:Nat->Prop) (r:List Nat×Nat) (e:Ending) (w':World):Prop:=
 e=.returned (ag r.2)/\∃D',S w' r.1 D'/\(∀k,D' k->D k\/W.heap.size<=k)/\aC D W w'
theorem Uc (F:Nat) (cb:Array Value) (R:List Pt) (gone:List Bool) (YS:List Nat) (V:AV) (lo hi tb fb:Nat) (W:World) (S:World->List Nat->(Nat->Prop)->Prop) (D:Nat->Prop) (x1 x2 y1 y2 bi:Int)
  (hA:jZ W lo hi tb fb R gone YS V) (hb:R=[]\/x2<x1\/y2<y1) (hst:∀W',Below W.heap.size W W'->S W' [] D):
  aO 104 #[ay tb,.agg #[ag x1,ag x2,ag y1,ag y2,aJ bi],.func (.func F) #[] cb] W (JC S W D (mJ R YS x1 x2 y1 y2)):=by
 have hb':=hA.blk;have e:mJ R YS x1 x2 y1 y2=([],0):=by unfold mJ;rw[aR hb]
 rw[e];obtain⟨ra,rc,er⟩:=fI hA.row;have jk:tb<W.heap.size:=bJ hA.fo.2.1 hA.fo.2.2.2.2;rw[er]at hb';have HQ:Hid (∀W',Below W.heap.size W W'->JC S W D ([],0) (.returned (ag 0)) W'):=fun W' h=>⟨rfl,D,hst W' h,fun k h=>.inl h,(aC.refl _ _).below h⟩;obtain⟨w1,fJ⟩:∃w1,w1=W.alloc (.cells #[ag x1,ag x2,ag y1,ag y2,aJ bi] 38):=⟨_,rfl⟩;have hb1:Below W.heap.size W w1:=by rw[fJ];exact(aM _ _).alloc (aG _) _
 have uY:w1.heap[W.heap.size]? =some (.cells #[ag x1,ag x2,ag y1,ag y2,aJ bi] 38 (0,0)):=by rw[fJ];exact dE W _
 have hb2:=(hb1.block tb jk).trans hb';have c0:w1.cell? (ah tb 0)=some (.slice ra R.length rc):=by simp[World.cell?,hb2]
 have c3:w1.cell? (ah tb 3)=some (ay fb):=by simp[World.cell?,hb2]
 have b0:w1.cell? (ah W.heap.size 0)=some (ag x1):=by simp[World.cell?,uY]
 have b1:w1.cell? (ah W.heap.size 1)=some (ag x2):=by simp[World.cell?,uY]
 have b2:w1.cell? (ah W.heap.size 2)=some (ag y1):=by simp[World.cell?,uY]
 have b3:w1.cell? (ah W.heap.size 3)=some (ag y2):=by simp[World.cell?,uY]
 have CN:=AX tb fb w1 c3;have fK:=ae hb1;have Mi:R.length=0↔R=[]:=List.length_eq_zero_iff;obtain⟨n,hn⟩:∃n,n=R.length:=⟨_,rfl⟩;rw[<-hn]at c0 Mi;rw[<-Mi]at hb;clear hA hst hb2 uY hb1 e er hb' hn Mi;by_cases h1:n=0
 .have d1:((n:Int)==0)=true:=by simp[h1]
  have d2:(n==0)=true:=by simp[h1]
  have d3:decide (n=0)=true:=by simp[h1]
  clear hb;go_enter Tryz.func104,Tryz.ntmps104
  go_wp2_with fail
  rw[<-fJ];clear fJ
  go_wp2_with (go_at_call 169;refine CN.mono ?_;rintro e w' ⟨rfl,rfl⟩)
  go_ret;exact HQ.out _ fK.out
 .have d1:((n:Int)==0)=false:=by simp;omega
  have d2:(n==0)=false:=by simp;omega
  have d3:decide (n=0)=false:=by simp;omega
  by_cases h2:x2<x1
  .have f1:decide (x1>x2)=true:=by simp;omega
   have f2:decide (x2<x1)=true:=by simp;omega
   clear hb;go_enter Tryz.func104,Tryz.ntmps104
   go_wp2_with fail
   rw[<-fJ];clear fJ
   go_wp2_with (go_at_call 169;refine CN.mono ?_;rintro e w' ⟨rfl,rfl⟩)
   go_ret;exact HQ.out _ fK.out
  .have f1:decide (x1>x2)=false:=by simp;omega
   have f2:decide (x2<x1)=false:=by simp;omega
   have g1:decide (y1>y2)=true:=by simp;omega
   have g2:decide (y2<y1)=true:=by simp;omega
   clear hb;go_enter Tryz.func104,Tryz.ntmps104
   go_wp2_with fail
   rw[<-fJ];clear fJ
   go_wp2_with (go_at_call 169;refine CN.mono ?_;rintro e w' ⟨rfl,rfl⟩)
   go_ret;exact HQ.out _ fK.out
theorem Ud (F:Nat) (cb:Array Value) (R:List Pt) (gone:List Bool) (YS:List Nat) (V:AV) (lo hi tb fb B:Nat) (w0 W:World) (S:World->List Nat->(Nat->Prop)->Prop) (D:Nat->Prop) (x1 x2 y1 y2 bi:Int)
  (hA:jZ w0 lo hi tb fb R gone YS V) (hW:dm R gone YS) (h0:0<R.length) (hx:x1<=x2) (hy:y1<=y2) (hR:R.length<=40000) (hB:B=w0.heap.size) (FL:List Nat)
  (hT:Told F cb (aZ R.length) YS V.LN V.LL B w0 FL S) (hF:(mJ R YS x1 x2 y1 y2).1=FL) (hS:S W [] D):
  aO 104 #[ay tb,.agg #[ag x1,ag x2,ag y1,ag y2,aJ bi],.func (.func F) #[] cb] W (JC S W D (mJ R YS x1 x2 y1 y2)):=by
 have hbase:=hT.base W [] D hS;have JD:=hA.below hbase (by rw[hB];exact hA.fo.2.2.2.2);obtain⟨ra,rc,er⟩:=fI JD.row;have jk:tb<W.heap.size:=bJ JD.fo.2.1 JD.fo.2.2.2.2;have Cr:fb<W.heap.size:=bJ JD.fo.2.2.2.1 JD.fo.2.2.2.2;have hb':=JD.blk;have hYl:=hW.len;obtain⟨xa,xc,exv,-,-,rx⟩:=Rd.aL JD.xs;obtain⟨ya,yc,eyv,-,-,ry⟩:=Rd.aL JD.ys;rw[er,exv,eyv]at hb';have lx:(bX R).length<=40000:=by unfold bX;rw[cu];exact hR
 have ly:(jL R YS).length<=40000:=by unfold jL;rw[cu];omega
 have hne:¬(R=[]\/x2<x1\/y2<y1):=by
  rintro(h|h|h)
  .subst h;simp at h0
  .omega
  .omega
 have eA:mJ R YS x1 x2 y1 y2=((down YS (mD R) y1 y2 (aX (bX R) x1).1 (aW (bX R) x2).1 (dO 0 R.length)).1,
   (aX (bX R) x1).2+(aW (bX R) x2).2+(aX (jL R YS) y1).2+(aW (jL R YS) y2).2+(down YS (mD R) y1 y2 (aX (bX R) x1).1 (aW (bX R) x2).1 (dO 0 R.length)).2):=by unfold mJ;rw[aP hne]
 have l1:=gK (fun i=>decide (x1<=(bX R).getD i 0)) (bX R).length;have l2:=gK (fun i=>decide (x2<(bX R).getD i 0)) (bX R).length;have l3:=gK (fun i=>decide (y1<=(jL R YS).getD i 0)) (jL R YS).length;have l4:=gK (fun i=>decide (y2<(jL R YS).getD i 0)) (jL R YS).length;have CD:∀W',Below W.heap.size W W'->aO 172 #[ay tb,ag (2*R.length-2:Nat),ag (aX (jL R YS) y1).1,ag (aW (jL R YS) y2).1,.agg #[ag (aX (bX R) x1).1,ag (aW (bX R) x2).1,.func (.func F) #[] cb]] W' (DnP S W' D (down YS (mD R) y1 y2 (aX (bX R) x1).1 (aW (bX R) x2).1 (dO 0 R.length)).1 (down YS (mD R) y1 y2 (aX (bX R) x1).1 (aW (bX R) x2).1 (dO 0 R.length)).2):=fun W' hb=>by
  obtain⟨w1,w2,w3⟩:=bT 0 R.length h0;have hsz:=fB 0 R.length h0;have h:=TH F cb (aZ R.length) (ko R) YS V.LN V.LL tb B w0 S (mD R) y1 y2 (aX (bX R) x1).1 (aW (bX R) x2).1 (Ay hB.symm) FL hT (hA.dn h0) hW.le hy (by rw[dA];omega) (by omega) (by unfold aX;omega) (by unfold aW;omega) (dO 0 R.length) 0 (kH R.length h0) w1 (by omega) W' [] D (hT.kD _ _ _ _ hS hb) (by rw[iV,<-hF,eA];exact List.prefix_refl _);rw[hW.top h0,iV]at h;rw[Xw hW,acJ hW];have e:(dO 0 R.length).root 0=2*R.length-2:=by unfold FT.root;omega
  rw[e]at h;exact h
 have ldn:=nK (YS:=YS) (yv:=mD R) (y1:=y1) (y2:=y2) (fr:=(aX (bX R) x1).1) (ub:=(aW (bX R) x2).1) (dO 0 R.length);rw[fB 0 R.length h0]at ldn;rw[eA];have HCD:=ae CD;have NW:∀W',Below W.heap.size W W'->aO 95 #[ay fb] W' fun e w'=>e=.returned (ag ((2*R.length-2:Nat):Int))/\w'=W':=fun W' hb=>by
  have vS:=(hb.block fb Cr).trans JD.iT.blk;exact jV fb R.length h0 (by omega) W' (by simp[World.cell?,vS]) (by simp[World.cell?,vS])
 have HCR:=ae NW;have CX1:=fun W' (hb:Below W.heap.size W W')=>JA xa (bX R) xc x1 W' (rx.below hb) (by omega);have CX2:=fun W' (hb:Below W.heap.size W W')=>JB xa (bX R) xc x2 W' (rx.below hb) (by omega);have CY1:=fun W' (hb:Below W.heap.size W W')=>JA ya (jL R YS) yc y1 W' (ry.below hb) (by omega);have CY2:=fun W' (hb:Below W.heap.size W W')=>JB ya (jL R YS) yc y2 W' (ry.below hb) (by omega);have l1':(aX (bX R) x1).2<=40000:=by unfold aX;omega
 have l2':(aW (bX R) x2).2<=40000:=by unfold aW;omega
 have l3':(aX (jL R YS) y1).2<=40000:=by unfold aX;omega
 have l4':(aW (jL R YS) y2).2<=40000:=by unfold aW;omega
 have aBx:(down YS (mD R) y1 y2 (aX (bX R) x1).1 (aW (bX R) x2).1 (dO 0 R.length)).2<=80000:=by omega
 clear CD NW eA hne l1 l2 l3 l4 ldn rx ry exv eyv hF hT hS hA;generalize down YS (mD R) y1 y2 (aX (bX R) x1).1 (aW (bX R) x2).1 (dO 0 R.length)=DD at*;generalize hr1:aX (bX R) x1=r1 at*;generalize hr2:aW (bX R) x2=r2 at*;generalize hr3:aX (jL R YS) y1=r3 at*;generalize hr4:aW (jL R YS) y2=r4 at*;generalize hlx:(bX R).length=nx at*;generalize hly:(jL R YS).length=ny at*;obtain⟨w1,fJ⟩:∃w1,w1=W.alloc (.cells #[ag x1,ag x2,ag y1,ag y2,aJ bi] 38):=⟨_,rfl⟩;have hb1:Below W.heap.size W w1:=by rw[fJ];exact(aM _ _).alloc (aG _) _
 have uY:w1.heap[W.heap.size]? =some (.cells #[ag x1,ag x2,ag y1,ag y2,aJ bi] 38 (0,0)):=by rw[fJ];exact dE W _
 have hb2:=(hb1.block tb jk).trans hb';have c0:w1.cell? (ah tb 0)=some (.slice ra R.length rc):=by simp[World.cell?,hb2]
 have c1:w1.cell? (ah tb 1)=some (.slice xa nx xc):=by simp[World.cell?,hb2,hlx]
 have c3:w1.cell? (ah tb 3)=some (ay fb):=by simp[World.cell?,hb2]
 have c6:w1.cell? (ah tb 6)=some (.slice ya ny yc):=by simp[World.cell?,hb2,hly]
 have b0:w1.cell? (ah W.heap.size 0)=some (ag x1):=by simp[World.cell?,uY]
 have b1:w1.cell? (ah W.heap.size 1)=some (ag x2):=by simp[World.cell?,uY]
 have b2:w1.cell? (ah W.heap.size 2)=some (ag y1):=by simp[World.cell?,uY]
 have b3:w1.cell? (ah W.heap.size 3)=some (ag y2):=by simp[World.cell?,uY]
 have CN:=AX tb fb w1 c3;have fK:=ae hb1;obtain⟨n,hn⟩:∃n,n=R.length:=⟨_,rfl⟩;rw[<-hn]at c0 h0 hR HCR HCD;have d1:((n:Int)==0)=false:=by simp;omega
 have d2:(n==0)=false:=by simp;omega
 have d3:decide (n=0)=false:=by simp;omega
 have f1:decide (x1>x2)=false:=by simp;omega
 have f2:decide (x2<x1)=false:=by simp;omega
 have g1:decide (y1>y2)=false:=by simp;omega
 have g2:decide (y2<y1)=false:=by simp;omega
 have Jt:=ae CX1;have Gg:=ae CX2;have HY1:=ae CY1;have HY2:=ae CY2;have hs1:W.heap.size<=w1.heap.size:=hb1.size;clear hb2 uY hb1 hb' hn CX1 CX2 CY1 CY2 hr1 hr2 hr3 hr4 hlx hly JD hW hYl er hbase;have yR:tb<w1.heap.size:=bJ jk hs1;have Xx:W.heap.size<w1.heap.size:=by rw[fJ];simp
 go_enter Tryz.func104,Tryz.ntmps104
 go_wp2_with fail
 rw[<-fJ];clear fJ
 go_wp2_with (go_at_call 169;refine CN.mono ?_;rintro e w' ⟨rfl,JE⟩;subst w')
 have Jv:Hid (∀p:bg w1,aO 170 #[.slice xa nx xc,ag x1] p.W fun e w'=>e=.returned (.tuple #[ag r1.1,ag r1.2])/\Below p.W.heap.size p.W w'):=fun p=>Jt.out _ (fK.out.trans (p.h.mono fK.out.size));have kc1:=aj c1;have kc6:=aj c6;have kc3:=aj c3;have kb0:=aj b0;have kb1:=aj b1;have kb2:=aj b2;have kb3:=aj b3;refine cO (by kernel_rfl) (by kernel_rfl) ?_
 repeat(quiet_step ((go_at_call 170;exact eO (Jv.out _))))
 refine mG ?_;intro w2 hw';have iY:Below w1.heap.size w1 w2:=by obtain⟨p,rfl⟩:=hw';exact p.h
 have acM:=ae (fK.out.trans (iY.mono fK.out.size));have Xy:=(iY.cell (p:=(ah tb 1)) yR).trans c1;have Xz:=(iY.cell (p:=(ah tb 6)) yR).trans c6;have XA:=(iY.cell (p:=(ah tb 3)) yR).trans c3;have XB:=(iY.cell (p:=(ah W.heap.size 0)) Xx).trans b0;have XC:=(iY.cell (p:=(ah W.heap.size 1)) Xx).trans b1;have XD:=(iY.cell (p:=(ah W.heap.size 2)) Xx).trans b2;have XE:=(iY.cell (p:=(ah W.heap.size 3)) Xx).trans b3;have Ue:=bJ yR iY.size;have Eo:=bJ Xx iY.size;clear hw' iY Jv kc1 kc6 kc3 kb0 kb1 kb2 kb3 c1 c6 c3 b0 b1 b2 b3;have c1:=Xy;clear Xy;have c6:=Xz;clear Xz;have c3:=XA;clear XA;have b0:=XB;clear XB;have b1:=XC;clear XC;have b2:=XD;clear XD;have b3:=XE;clear XE
 go_wp2_with fail
 have nu:Hid (∀p:bg w2,aO 171 #[.slice xa nx xc,ag x2] p.W fun e w'=>e=.returned (.tuple #[ag r2.1,ag r2.2])/\Below p.W.heap.size p.W w'):=fun p=>Gg.out _ (acM.out.trans (p.h.mono acM.out.size));have kc1:=aj c1;have kc6:=aj c6;have kc3:=aj c3;have kb0:=aj b0;have kb1:=aj b1;have kb2:=aj b2;have kb3:=aj b3;refine cO (by kernel_rfl) (by kernel_rfl) ?_
 repeat(quiet_step ((go_at_call 171;exact eO (nu.out _))))
 refine mG ?_;intro w3 hw';have iY:Below w2.heap.size w2 w3:=by obtain⟨p,rfl⟩:=hw';exact p.h
 have acN:=ae (acM.out.trans (iY.mono acM.out.size));have Xy:=(iY.cell (p:=(ah tb 1)) Ue).trans c1;have Xz:=(iY.cell (p:=(ah tb 6)) Ue).trans c6;have XA:=(iY.cell (p:=(ah tb 3)) Ue).trans c3;have XB:=(iY.cell (p:=(ah W.heap.size 0)) Eo).trans b0;have XC:=(iY.cell (p:=(ah W.heap.size 1)) Eo).trans b1;have XD:=(iY.cell (p:=(ah W.heap.size 2)) Eo).trans b2;have XE:=(iY.cell (p:=(ah W.heap.size 3)) Eo).trans b3;have acO:=bJ Ue iY.size;have XF:=bJ Eo iY.size;clear hw' iY nu kc1 kc6 kc3 kb0 kb1 kb2 kb3 c1 c6 c3 b0 b1 b2 b3;have c1:=Xy;clear Xy;have c6:=Xz;clear Xz;have c3:=XA;clear XA;have b0:=XB;clear XB;have b1:=XC;clear XC;have b2:=XD;clear XD;have b3:=XE;clear XE
 go_wp2_with fail
 have EG:Hid (∀p:bg w3,aO 170 #[.slice ya ny yc,ag y1] p.W fun e w'=>e=.returned (.tuple #[ag r3.1,ag r3.2])/\Below p.W.heap.size p.W w'):=fun p=>HY1.out _ (acN.out.trans (p.h.mono acN.out.size));have kc1:=aj c1;have kc6:=aj c6;have kc3:=aj c3;have kb0:=aj b0;have kb1:=aj b1;have kb2:=aj b2;have kb3:=aj b3;refine cO (by kernel_rfl) (by kernel_rfl) ?_
 repeat(quiet_step ((go_at_call 170;exact eO (EG.out _))))
 refine mG ?_;intro w4 hw';have iY:Below w3.heap.size w3 w4:=by obtain⟨p,rfl⟩:=hw';exact p.h
 have acP:=ae (acN.out.trans (iY.mono acN.out.size));have Xy:=(iY.cell (p:=(ah tb 1)) acO).trans c1;have Xz:=(iY.cell (p:=(ah tb 6)) acO).trans c6;have XA:=(iY.cell (p:=(ah tb 3)) acO).trans c3;have XB:=(iY.cell (p:=(ah W.heap.size 0)) XF).trans b0;have XC:=(iY.cell (p:=(ah W.heap.size 1)) XF).trans b1;have XD:=(iY.cell (p:=(ah W.heap.size 2)) XF).trans b2;have XE:=(iY.cell (p:=(ah W.heap.size 3)) XF).trans b3;have XH:=bJ acO iY.size;have XI:=bJ XF iY.size;clear hw' iY EG kc1 kc6 kc3 kb0 kb1 kb2 kb3 c1 c6 c3 b0 b1 b2 b3;have c1:=Xy;clear Xy;have c6:=Xz;clear Xz;have c3:=XA;clear XA;have b0:=XB;clear XB;have b1:=XC;clear XC;have b2:=XD;clear XD;have b3:=XE;clear XE
 go_wp2_with fail
 have F7:Hid (∀p:bg w4,aO 171 #[.slice ya ny yc,ag y2] p.W fun e w'=>e=.returned (.tuple #[ag r4.1,ag r4.2])/\Below p.W.heap.size p.W w'):=fun p=>HY2.out _ (acP.out.trans (p.h.mono acP.out.size));have kc1:=aj c1;have kc6:=aj c6;have kc3:=aj c3;have kb0:=aj b0;have kb1:=aj b1;have kb2:=aj b2;have kb3:=aj b3;refine cO (by kernel_rfl) (by kernel_rfl) ?_
 repeat(quiet_step ((go_at_call 171;exact eO (F7.out _))))
 refine mG ?_;intro w5 hw';have iY:Below w4.heap.size w4 w5:=by obtain⟨p,rfl⟩:=hw';exact p.h
 have acQ:=ae (acP.out.trans (iY.mono acP.out.size));have Xy:=(iY.cell (p:=(ah tb 1)) XH).trans c1;have Xz:=(iY.cell (p:=(ah tb 6)) XH).trans c6;have XA:=(iY.cell (p:=(ah tb 3)) XH).trans c3;have XB:=(iY.cell (p:=(ah W.heap.size 0)) XI).trans b0;have XC:=(iY.cell (p:=(ah W.heap.size 1)) XI).trans b1;have XD:=(iY.cell (p:=(ah W.heap.size 2)) XI).trans b2;have XE:=(iY.cell (p:=(ah W.heap.size 3)) XI).trans b3;have yS:=bJ XH iY.size;have aBz:=bJ XI iY.size;clear hw' iY F7 kc1 kc6 kc3 kb0 kb1 kb2 kb3 c1 c6 c3 b0 b1 b2 b3;have c1:=Xy;clear Xy;have c6:=Xz;clear Xz;have c3:=XA;clear XA;have b0:=XB;clear XB;have b1:=XC;clear XC;have b2:=XD;clear XD;have b3:=XE;clear XE
 go_wp2_with fail
 refine(HCR.out w5 acQ.out).mono ?_;rintro e w' ⟨rfl,JE⟩;subst w'
 go_wp2_with fail
 refine(HCD.out w5 acQ.out).mono ?_;rintro e w6 ⟨rfl,D',hS6,hD6,NY⟩;have H6:Hid (JC S W D (DD.1,r1.2+r2.2+r3.2+r4.2+DD.2) (.returned (ag (r1.2+r2.2+r3.2+r4.2+DD.2:Nat))) w6):=
  ⟨rfl,D',hS6,fun k h=>(hD6 k h).imp id fun h9=>bO acQ.out.size h9,(((aC.refl (fun k=>D k\/W.heap.size<=k) W).below acQ.out).trans (NY.mono fun k h=>.inl h)).strip⟩
 clear hS6 hD6 NY;go_wp2;go_ret;have H7:=H6.out;have e7:((r1.2+r2.2+r3.2+r4.2+DD.2:Nat):Int)=(((r1.2:Int)+(r2.2:Int))+(r3.2:Int)+(r4.2:Int))+(DD.2:Int):=by omega
 rw[e7]at H7;exact H7
theorem XJ {R:List Pt} {gone:List Bool} {YS:List Nat} (hW:dm R gone YS) (hR:R.length<=40000) (x1 x2 y1 y2:Int):(mJ R YS x1 x2 y1 y2).1.length<=R.length/\(mJ R YS x1 x2 y1 y2).2<=400000:=by
 unfold mJ;split
 .exact⟨bC _,bC _⟩
 .rename_i h;have h0:0<R.length:=by
   cases R with
   |nil=>simp at h
   |cons a b=>simp
  have hyy:y1<=y2:=by omega
  obtain⟨w1,w2,w3⟩:=bT 0 R.length h0;refine⟨?_,?_⟩
  .refine AL (Ef _ w1 hW.nodup hW.le hyy) fun k hk=>?_;have:=((yD _ w1 hW.le hyy k).1 hk).1;rw[hW.top h0]at this;exact hW.lt this
  .have l1:=gK (fun i=>decide (x1<=(bX R).getD i 0)) (bX R).length;have l2:=gK (fun i=>decide (x2<(bX R).getD i 0)) (bX R).length;have l3:=gK (fun i=>decide (y1<=(jL R YS).getD i 0)) (jL R YS).length;have l4:=gK (fun i=>decide (y2<(jL R YS).getD i 0)) (jL R YS).length;have l5:(bX R).length=R.length:=by unfold bX;simp
   have l6:(jL R YS).length=YS.length:=by unfold jL;simp
   have l7:=hW.len;have ldn:=nK (YS:=YS) (yv:=mD R) (y1:=y1) (y2:=y2) (fr:=(aX (bX R) x1).1) (ub:=(aW (bX R) x2).1) (dO 0 R.length);rw[fB 0 R.length h0]at ldn;show(aX (bX R) x1).2+(aW (bX R) x2).2+(aX (jL R YS) y1).2+(aW (jL R YS) y2).2+_<=_;have e1:(aX (bX R) x1).2<=40000:=by unfold aX;omega
   have e2:(aW (bX R) x2).2<=40000:=by unfold aW;omega
   have e3:(aX (jL R YS) y1).2<=40000:=by unfold aX;omega
   have e4:(aW (jL R YS) y2).2<=40000:=by unfold aW;omega
   omega
theorem XK (F:Nat) (cb:Array Value) (R:List Pt) (gone:List Bool) (YS:List Nat) (V:AV) (lo hi tb fb:Nat) (w0 W:World) (S:World->List Nat->(Nat->Prop)->Prop) (D:Nat->Prop) (x1 x2 y1 y2 bi:Int)
  (hA:jZ w0 lo hi tb fb R gone YS V) (hW:dm R gone YS) (hR:R.length<=40000)
  (hb:Below w0.heap.size w0 W) (hst:∀W',Below W.heap.size W W'->S W' [] D)
  (hT:0<R.length->Told F cb (aZ R.length) YS V.LN V.LL w0.heap.size w0 (mJ R YS x1 x2 y1 y2).1 S) (hS:S W [] D):
  aO 104 #[ay tb,.agg #[ag x1,ag x2,ag y1,ag y2,aJ bi],.func (.func F) #[] cb] W (JC S W D (mJ R YS x1 x2 y1 y2)):=by
 by_cases h:R=[]\/x2<x1\/y2<y1
 .exact Uc F cb R gone YS V lo hi tb fb W S D x1 x2 y1 y2 bi (hA.below hb hA.fo.2.2.2.2) h hst
 .have h0:0<R.length:=by
   cases R with
   |nil=>simp at h
   |cons a b=>simp
  exact Ud F cb R gone YS V lo hi tb fb _ w0 W S D x1 x2 y1 y2 bi hA hW h0 (by omega) (by omega) hR rfl _ (hT h0) rfl hS
def asE (w:World) (R:List Pt) (r:List Nat×Nat) (e:Ending) (w':World):Prop:=
 ∃v,e=.returned (.tuple #[v,ag (r.2+r.1.length:Nat)])/\w'.ownsRow w.heap.size 27 1 v r.1.length ((gu (r.1.map (ko R))).map (Value.int .u32))/\Below w.heap.size w w'
theorem Mj {w:World} {lo hi tb fb:Nat} {R:List Pt} {gone:List Bool} {YS:List Nat} {V:AV} (hA:jZ w lo hi tb fb R gone YS V) (hW:dm R gone YS) (hR:R.length<=40000) (x1 x2 y1 y2 bi:Int):
  aO 39 #[ay tb,.agg #[ag x1,ag x2,ag y1,ag y2,aJ bi]] w (asE w R (mJ R YS x1 x2 y1 y2)):=by
 obtain⟨w1,fJ⟩:∃w1,w1=(w.alloc (.cells #[ag x1,ag x2,ag y1,ag y2,aJ bi] 38)).alloc (.cells #[aN] 35):=⟨_,rfl⟩;have hb1:Below w.heap.size w w1:=by rw[fJ];exact((aM _ _).alloc (aG _) _).alloc (by simp) _
 have Jz:w1.heap[w.heap.size+1]? =some (.cells #[aN] 35 (0,0)):=by rw[fJ];exact Jb w _ _
 have hx1:w1.heap[w.heap.size]? =some (.cells #[ag x1,ag x2,ag y1,ag y2,aJ bi] 38 (0,0)):=by rw[fJ];exact OM w _ _
 have hS:agW w.heap.size (w.heap.size+1) (ko R) w w1 [] (fun k=>k=w.heap.size+1\/(aN).ownBlock=some k):=
  ⟨hb1,aN,Jz,dL _ _ _ _,rfl⟩
 obtain⟨hlen,Mk⟩:=XJ hW hR x1 x2 y1 y2;have hYl:=hW.len;have CA:=XK 105 #[ay (w.heap.size+1)] R gone YS V lo hi tb fb w w1 (agW w.heap.size (w.heap.size+1) (ko R) w) _ x1 x2 y1 y2 bi hA hW hR hb1
  (fun W' hb=>by
    obtain⟨g1,v,g2,g3,g4⟩:=hS;exact⟨g1.trans (hb.mono hb1.size),v,(hb.block _ (bn.1 g2).1).trans g2,au g3 hb,g4⟩)
  (fun h0=>Xp (aZ R.length) (ko R) YS V.LN V.LL tb w.heap.size (w.heap.size+1) w _ (by omega) (by omega) rfl (hA.dn h0) (by omega)) hS
 generalize mJ R YS x1 x2 y1 y2=r at*;have Uf:=ae CA;have c0:w1.cell? (ah w.heap.size 0)=some (ag x1):=by simp[World.cell?,hx1]
 have c1:w1.cell? (ah w.heap.size 1)=some (ag x2):=by simp[World.cell?,hx1]
 have c2:w1.cell? (ah w.heap.size 2)=some (ag y1):=by simp[World.cell?,hx1]
 have c3:w1.cell? (ah w.heap.size 3)=some (ag y2):=by simp[World.cell?,hx1]
 have c4:w1.cell? (ah w.heap.size 4)=some (aJ bi):=by simp[World.cell?,hx1]
 have hz1:w1.heap.size=w.heap.size+2:=by rw[fJ];simp
 have fK:=ae hb1;have ym:r.1.length<=40000:=by omega
 clear CA hS hx1 Jz hb1 hA hlen;go_enter Tryz.func39,Tryz.ntmps39
 go_wp2_with fail
 rw[<-fJ];clear fJ;refine Uf.out.mono ?_;rintro e w2 ⟨rfl,D',⟨hb2,v,KL,hv2,rfl⟩,hD,hK⟩;have HV2:=ae hv2;have fP:=ae hb2;have HO2:=ae KL;have k0:w2.cell? (ah (w.heap.size+1) 0)=some v:=by simp[World.cell?,KL]
 have hvo:∀gb,v.ownBlock=some gb->w.heap.size+1≠gb:=bH hv2 KL (by decide);have HVO:=ae hvo;have NU:=(bn.1 KL).1;have CS:=ae (Jc (l:=r.1.map (ko R)) hv2 (by omega));obtain⟨va,vc,rfl⟩:=fI hv2;clear hv2 hb2 KL hK hD hvo Uf
 go_wp2_with fail
 refine CS.out.mono ?_;rintro e w3 ⟨rfl,hv3,hK3⟩;have HV3:=ae hv3;have k3:w3.cell? (ah (w.heap.size+1) 0)=some (.slice va r.1.length vc):=((di hK3 NU (fun h=>HVO.out _ h rfl)).1 0).trans k0;have Gh:Hid (Below w.heap.size w w3):=fP.out.trans (hK3.toBelow fP.out.size (fun k h=>(HV2.out.lt k h).1));clear hv3 hK3 k0 CS
 go_wp2_with fail
 go_quiet (fail)
 go_wp2;go_ret2;exact⟨_,rfl,HV3.out,Gh.out.trans (Below.bP _ _)⟩
end Go.Proofs.YtkjdbndekceffaaGreat
