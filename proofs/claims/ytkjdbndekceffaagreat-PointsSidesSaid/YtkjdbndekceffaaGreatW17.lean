/- Made small by a program. -/
import Derived.Test.YtkjdbndekceffaaGreatW16
set_option linter.unusedSimpArgs false
set_option linter.unusedVariables false
set_option maxRecDepth 100000
set_option maxHeartbeats 16000000
namespace Go.Proofs.YtkjdbndekceffaaGreat
open Tryz
section
open Go.RowKit Go.Sort Go.Shelf Go.Lib Go.Maps
attribute [local irreducible] wpQuiet
theorem M9:fV 150:=bY func150 aM rfl
theorem FH:fV 153:=bY func153 aM rfl
theorem PU (l:List Int):l.map (Value.int .u32)=l.flatMap fun x=>[au x]:=by
 induction l with
 |nil=>rfl
 |cons x l ih=>simp[ih]
theorem PV {fn:FuncId} {cs:Array Value} (W:∀args w,(callFunc fn args).run prog w=.ok (.enter fn args) w) {u:World} {r ob tb:Nat} {m:Value} {b R:List Int} {base:Nat} {bd:Nat->Prop} (X:u.cell? (ag r 0)=some (.func (.func fn) #[] cs)) (y:u.heap[ob]? =some (Obj.cells #[m] 35 (0,0))) (ab:ob<base) (Y:base<=u.heap.size) (z:u.ownsRow base 27 1 m b.length (b.map (Value.int .u32))) (Z:b.length+R.length<=1000000)
  (M:aK fn (#[aj tb]++cs) u fun e d=>∃(v:Value) (c:Nat),e=.returned (.tuple #[v,ae (c:Nat)])/\bd c/\d.ownsRow u.heap.size 27 1 v R.length (R.map (Value.int .u32))/\Below u.heap.size u d):
  aK 150 #[aj tb,aj r,aj ob] u fun e d=>∃c:Nat,e=.returned (ae (c:Nat))/\bd c/\∃A,d.heap[ob]? =some (Obj.cells #[A] 35 (0,0))/\d.ownsRow base 27 1 A (b++R).length ((b++R).map (Value.int .u32))/\ay (fun k=>k=ob\/m.ownBlock=some k) u d:=by
 have C:=af M;have HO:=af y;have p:=af z;obtain⟨i,j,rfl,-,-,-⟩:=Rd.aD z;have ac:=(aZ.1 y).1;go_enter func150,ntmps150
 go_wp2_with fail
 refine C.o.mono ?_;rintro e u1 ⟨v,c,rfl,K,P,I⟩;have B:=af K;have E:=af P;have f:=af I;obtain⟨U,V,rfl,-,-,S⟩:=Rd.aD E.o;have G:=af (Rd.Vx (show Rd (.int .u32) u1 U R from S));have n:=af ((aP f.o HO.o).trans HO.o);have F:=af (ak p.o f.o);have ad:=f.o.size;have al:u1.cell? (ag ob 0)=some (.slice i b.length j):=eP n.o;have N:b.length+R.length<=maxLen:=dJ;have O:(b.length+R.length)*4<=140737488355328:=aa;have L:base<=u1.heap.size:=aa;have D:Hid (Value.ownBlock (.slice i b.length j)≠some ob):=fun e=>by have:=(p.o.lt ob e).1;omega
 go_wp2_with (at_builtin;go_loud (refine iT um (enc:=fun x=>[au x]) (fun _=>rfl) (fun x u hu=>by simp at hu;subst hu;rfl) base F.o G.o rfl _ _ rfl rfl V rfl N O L ?_;intro T u6 Q t;have l:=(t.block ob aa (fun e=>D.o e.symm)).trans n.o;have ah:u6.cell? (ag ob 0)=some (.slice i b.length j):=(eP l);have ai:u6.frozen? (ag ob 0)=false:=(aF l);have g:u6.ownsRow base 27 1 T (b++R).length ((b++R).map (Value.int .u32)):=(by rw[bL,bQ,PU R];exact Q);obtain⟨q,s,rfl,-,-,-⟩:=Rd.aD g))
 go_ret;rw[bQ]at g;have J:(u6.setCell (ag ob 0) (.slice q (b.length+R.length) s)).heap[ob]? =some (Obj.cells #[.slice q (b.length+R.length) s] 35 (0,0)):=by
  rw[di u6 ob 0 _ _ _ l];rfl
 refine⟨c,rfl,B.o,_,J,?_,((((ay.refl (fun k=>k=ob\/Value.ownBlock (.slice i b.length j)=some k) u).below f.o).grown t fun k e=>.inl (.inr e))).set (a:=(ag ob 0)) _ (.inl (.inl rfl))⟩;rw[bQ];exact aR g ((ay.refl (fun k=>k=ob) u6).set (a:=(ag ob 0)) _ (.inl rfl)) (fun H e h=>by have:=(g.lt H e).1;omega)
theorem HV {fn:FuncId} {cs:Array Value} (s:∀args w,(callFunc fn args).run prog w=.ok (.enter fn args) w) {u:World} {g ob tb:Nat} {b r:Nat} {bd:Nat->Prop} (t:u.cell? (ag g 0)=some (.func (.func fn) #[] cs)) (q:u.heap[ob]? =some (Obj.cells #[ae (b:Nat)] 3 (0,0))) (v:b+r<=1000000)
  (p:aK fn (#[aj tb]++cs) u fun e d=>∃c:Nat,e=.returned (.tuple #[ae (r:Nat),ae (c:Nat)])/\bd c/\Below u.heap.size u d):
  aK 153 #[aj tb,aj g,aj ob] u fun e d=>∃c:Nat,e=.returned (ae (c:Nat))/\bd c/\d.heap[ob]? =some (Obj.cells #[ae (b+r:Nat)] 3 (0,0))/\ay (fun k=>k=ob) u d:=by
 have l:=af p;have HO:=af q;go_enter func153,ntmps153
 go_wp2_with fail
 refine l.o.mono ?_;rintro e u1 ⟨c,rfl,n,h⟩;have j:=af n;have f:=(aP h HO.o).trans HO.o;have m:=af f;have i:=af h;have y:u1.cell? (ag ob 0)=some (ae (b:Nat)):=eP f;have f1:u1.frozen? (ag ob 0)=false:=aF f;have x:IntKind.i64.wrap ((b:Int)+(r:Int))=((b+r:Nat):Int):=by rw[x8 _ aa];omega
 go_wp2;go_ret;refine⟨c,rfl,j.o,?_,((ay.refl (fun k=>k=ob) u).below i.o).set (a:=(ag ob 0)) _ (.inl rfl)⟩;rw[di u1 ob 0 _ _ _ m.o,show((b+r:Nat):Int)=(b:Int)+(r:Int) by omega];rfl
section
variable {w:World} {Pb Hb:Nat} {dv av:Value} {fD:Int} {GH:Nat->Prop} {m:Nat} {A:List eU} {N wk:Int}
structure CF (w w1:World) (GH:Nat->Prop) (A:List eU) (N:Int) (B:List (Nat×Nat×List Pt)) (F:Nat->Nat->Prop):Prop where
 below:Below w.heap.size w w1
 wd:nA w1 GH F B
 perm:(iN B).Perm (A.map (·.1))
 log:B.length≠0->(2:Int)^(B.length-1)<=N
 built:∀b∈B,(b.2.1:Int)<=N/\b.2.1<=20000
 few:B.length<=13
def VT (w:World) (GH:Nat->Prop) (fn:FuncId) (cs:Array Value) (B:List (Nat×Nat×List Pt)) (F:Nat->Nat->Prop) (R:Nat->List Int) (bd:Nat->Nat->Prop):Prop:=
 ∀(i:Nat) (hi:i<B.length) (u:World),Below w.heap.size w u->nA u GH F B->aK fn (#[aj (B[i].1)]++cs) u fun e u'=>∃(v:Value) (c:Nat),e=.returned (.tuple #[v,ae (c:Nat)])/\bd i c/\u'.ownsRow u.heap.size 27 1 v (R i).length ((R i).map (Value.int .u32))/\Below u.heap.size u u'
def Vb (w:World) (Pb Hb:Nat) (dv av:Value) (fD:Int) (Q:List Int->Nat->Prop) (e:Ending) (w':World):Prop:=
 ∃(v:Value) (L:List Int) (xm:Nat),e=.returned (.tuple #[v,ae xm])/\w'.ownsRow w.heap.size 27 1 v L.length (L.map (Value.int .u32))/\Q L xm/\ay (fun k=>k=Pb) w w'/\w'.heap[Pb]? =some (Obj.cells #[aj Hb,dv,av,ae (wrap64 (fD+xm))] xB (0,0))
theorem FI {R:Nat->List Int} {b:Nat} (h:∀i,(R i).length<=b):∀i,((List.range i).flatMap R).length<=i*b
 |0=>aA
 |i+1=>by
  have e:([i].flatMap R).length=(R i).length:=aA;rw[pO,gZ,bQ,Nat.succ_mul,e];have a:=FI h i;have c:=h i;omega
theorem Aj {r:Nat->Nat} {b:Nat} (h:∀i,r i<=b):∀i,((List.range i).map r).sum<=i*b
 |0=>aA
 |i+1=>by
  have e:([i].map r).sum=r i:=aA;rw[pO,bL,rM,Nat.succ_mul,e];have a:=Aj h i;have c:=h i;omega
theorem RJ {fn:FuncId} {cs:Array Value} {Q:List Int->Nat->Prop} (ai:∀args w,(callFunc fn args).run prog w=.ok (.enter fn args) w) (G:w.heap[Pb]? =some (Obj.cells #[aj Hb,dv,av,ae fD] xB (0,0))) (h:jI w Hb GH m A N wk) (al:∀k,GH k->k<w.heap.size)
  (aq:∀w1 B F,CF w w1 GH A N B F->∃R bd,(∀i t,bd i t->t<=1000000)/\(∀i,(R i).length<=20000)/\VT w GH fn cs B F R bd/\∀n,SumB bd B.length n->Q (eu ((List.range B.length).flatMap R)) n):
  aK 65 #[aj Pb,.func (.func fn) #[] cs] w (Vb w Pb Hb dv av fD Q):=by
 have aW:=(aZ.1 G).1;have T:ay (fun _=>False) w ((w.alloc (.cells #[.func (.func fn) #[] cs] 121)).alloc (.cells #[aL] 35)):=((ay.refl _ w).alloc _).alloc _;have C:=F4 w (.cells #[.func (.func fn) #[] cs] 121) (.cells #[aL] 35);have U:=CV w (.cells #[.func (.func fn) #[] cs] 121) (.cells #[aL] 35);have s:Below w.heap.size w ((w.alloc (.cells #[.func (.func fn) #[] cs] 121)).alloc (.cells #[aL] 35)):=((aJ _ _).alloc (aB _) _).alloc aA _;have aT:((w.alloc (.cells #[.func (.func fn) #[] cs] 121)).alloc (.cells #[aL] 35)).heap.size=w.heap.size+2:=aA;have H:=bq T G (fun h=>h);have V:=af (FE (Sx:=fun k=>k=w.heap.size+1) (cs:=#[aj w.heap.size,aj (w.heap.size+1)]) (Q:=fun B f u=>∃(L:List Int) (d:Value),u.heap[w.heap.size+1]? =some (Obj.cells #[d] 35 (0,0))/\u.ownsRow w.heap.size 27 1 d L.length (L.map (Value.int .u32))/\w.heap.size+2<=u.heap.size/\(∀l,d.ownBlock=some l->w.heap.size+2<=l)/\L.length<=1000000/\Q (eu L) f) M9 H (h.kept T (fun _ _ h=>h)) (fun k I=>by rw[aT];omega) (fun w1 B F p E aI aF aG D=>by
  have⟨R,bd,aw,x,ak,v⟩:=aq w1 B F ⟨s.trans (p.mono aa),E,aI,aF,aG,D⟩;have aY:=p.size;have ah:=(aP p C).trans C;have aN:=(aP p U).trans U;refine⟨fun i n u=>SumB bd i n/\∃d,u.heap[w.heap.size+1]? =some (Obj.cells #[d] 35 (0,0))/\u.ownsRow w1.heap.size 27 1 d ((List.range i).flatMap R).length (((List.range i).flatMap R).map (Value.int .u32))/\ay (fun k=>k=w.heap.size+1) w1 u,⟨rfl,_,aN,dA _ _ _ _,ay.refl _ _⟩,fun i n u g=>g.2.choose_spec.2.2,fun i n u g=>g.1.le aw,fun i n hi u g=>?_,fun n u g=>?_⟩
  .obtain⟨y,d,q,j,b⟩:=g;have S:=b.size;have ap:u.cell? (ag w.heap.size 0)=some (.func (.func fn) #[] cs):=by
    have:=bq b ah aa;simp only[World.cell?,this];rfl
   have au:Below w.heap.size w u:=s.trans ((p.mono aa).trans (b.toBelow aa (by rintro k rfl;omega)));have az:=FI x i;have ax:i*20000<=13*20000:=nS _ aa;have aX:=x i;refine(PV (bd:=bd i) ai ap q aa S j aa (ak i hi u au (E.kept b fun k I e=>by have:=al k I;omega))).mono ?_;rintro e a0 ⟨c,rfl,ar,aS,aH,aM,am⟩;refine⟨c,rfl,⟨n,c,y,ar,rfl⟩,aS,aH,?_,?_⟩
   .rw[pO,gZ];simpa using aM
   .refine ay.strip ((b.mono fun k h=>.inl h).trans (am.mono fun k h=>?_));rcases h with h|h
    .exact .inl h
    .exact .inr (j.lt k h).1
  .obtain⟨y,d,q,j,b⟩:=g;have az:=FI x B.length;have ax:B.length*20000<=13*20000:=nS _ D;exact⟨_,d,q,bO j aa,by have:=b.size;omega,fun l e=>by have:=(j.lt l e).1;omega,aa,v n y⟩))
 have X:=af s;have Y:=af H;go_enter func65,ntmps65
 go_wp2_with fail
 refine V.o.mono ?_;rintro e aV ⟨B,f,u,rfl,⟨L,d,q,j,S,M,aE,v⟩,b,rfl⟩;have ao:=bq b Y.o aa;have an:Hid ((u.setCell (ag Pb 3) (.int .i64 (wrap64 (fD+(f:Int))))).heap[Pb]? =some (Obj.cells #[aj Hb,dv,av,ae (wrap64 (fD+(f:Int)))] xB (0,0))):=by
  show _=_;rw[di u Pb 3 _ _ _ ao];rfl
 have K:(u.setCell (ag Pb 3) (.int .i64 (wrap64 (fD+(f:Int))))).heap[w.heap.size+1]? =some (Obj.cells #[d] 35 (0,0)):=(aC (a:=(ag Pb 3)) (fun e:Pb=w.heap.size+1=>aa)).trans q;have P:=aR j ((ay.refl (fun k=>k=Pb) u).set (a:=(ag Pb 3)) (.int .i64 (wrap64 (fD+(f:Int)))) (.inl rfl)) (fun l e h=>by have:=M l e;omega);have Z:Hid (ay (fun k=>k=Pb) w (u.setCell (ag Pb 3) (.int .i64 (wrap64 (fD+(f:Int)))))):=ay.strip ((((ay.refl (fun k=>k=Pb\/w.heap.size<=k) w).below X.o).trans (b.mono fun k h=>.inr aa)).set (a:=(ag Pb 3)) _ (.inl (.inl rfl)));have r:=af M;have ad:=af v;have a2:(u.setCell (ag Pb 3) (.int .i64 (wrap64 (fD+(f:Int))))).cell? (ag (w.heap.size+1) 0)=some d:=eP K;have W:=af (zW P aE);have ab:=af K;obtain⟨aO,aQ,rfl,-,-,-⟩:=Rd.aD P;generalize u.setCell (ag Pb 3) (.int .i64 (wrap64 (fD+(f:Int))))=aV at*
 go_wp2_with (go_at_call 64;refine W.o.mono ?_;rintro e aU ⟨rfl,O,b⟩;have J:=bq b ab.o (fun e=>by have:=r.o _ e;omega);have a1:aU.cell? (ag (w.heap.size+1) 0)=some (.slice aO L.length aQ):=(eP J);have ac:=af O;have z:=af b;clear O b J)
 go_ret2;refine⟨_,eu L,f,rfl,by rw[jm];exact ac.o,ad.o,ay.strip ((Z.o.mono fun k h=>.inl h).trans (z.o.mono fun k h=>.inr (by have:=r.o k h;omega))),bq z.o an.o (fun e=>by have:=r.o _ e;omega)⟩
def VU (w:World) (GH:Nat->Prop) (fn:FuncId) (cs:Array Value) (B:List (Nat×Nat×List Pt)) (F:Nat->Nat->Prop) (r:Nat->Nat) (bd:Nat->Nat->Prop):Prop:=
 ∀(i:Nat) (hi:i<B.length) (u:World),Below w.heap.size w u->nA u GH F B->aK fn (#[aj (B[i].1)]++cs) u fun e u'=>∃c:Nat,e=.returned (.tuple #[ae (r i:Nat),ae (c:Nat)])/\bd i c/\Below u.heap.size u u'
def PW (w:World) (Pb Hb:Nat) (dv av:Value) (fD:Int) (Q:Nat->Nat->Prop) (e:Ending) (w':World):Prop:=
 ∃(n xm:Nat),e=.returned (.tuple #[ae n,ae xm])/\Q n xm/\ay (fun k=>k=Pb) w w'/\w'.heap[Pb]? =some (Obj.cells #[aj Hb,dv,av,ae (wrap64 (fD+xm))] xB (0,0))
theorem JZ {fn:FuncId} {cs:Array Value} {Q:Nat->Nat->Prop} (L:∀args w,(callFunc fn args).run prog w=.ok (.enter fn args) w) (x:w.heap[Pb]? =some (Obj.cells #[aj Hb,dv,av,ae fD] xB (0,0))) (h:jI w Hb GH m A N wk) (P:∀k,GH k->k<w.heap.size)
  (V:∀w1 B F,CF w w1 GH A N B F->∃r bd,(∀i t,bd i t->t<=1000000)/\(∀i,r i<=20000)/\VU w GH fn cs B F r bd/\∀n,SumB bd B.length n->Q (((List.range B.length).map r).sum) n):
  aK 73 #[aj Pb,.func (.func fn) #[] cs] w (PW w Pb Hb dv av fD Q):=by
 have an:=(aZ.1 x).1;have C:ay (fun _=>False) w ((w.alloc (.cells #[.func (.func fn) #[] cs] 128)).alloc (.cells #[ae ((0:Nat):Int)] 3)):=((ay.refl _ w).alloc _).alloc _;have q:=F4 w (.cells #[.func (.func fn) #[] cs] 128) (.cells #[ae ((0:Nat):Int)] 3);have D:=CV w (.cells #[.func (.func fn) #[] cs] 128) (.cells #[ae ((0:Nat):Int)] 3);have j:Below w.heap.size w ((w.alloc (.cells #[.func (.func fn) #[] cs] 128)).alloc (.cells #[ae ((0:Nat):Int)] 3)):=((aJ _ _).alloc (aB _) _).alloc aA _;have al:((w.alloc (.cells #[.func (.func fn) #[] cs] 128)).alloc (.cells #[ae ((0:Nat):Int)] 3)).heap.size=w.heap.size+2:=aA;have y:=bq C x (fun h=>h);have E:=af (FE (Sx:=fun k=>k=w.heap.size+1) (cs:=#[aj w.heap.size,aj (w.heap.size+1)]) (Q:=fun B b u=>∃n:Nat,u.heap[w.heap.size+1]? =some (Obj.cells #[ae (n:Nat)] 3 (0,0))/\Q n b) FH y (h.kept C (fun _ _ h=>h)) (fun k z=>by rw[al];omega) (fun w1 B F g v ah Z ab M=>by
  have⟨r,bd,Y,s,O,l⟩:=V w1 B F ⟨j.trans (g.mono aa),v,ah,Z,ab,M⟩;have ar:=g.size;have K:=(aP g q).trans q;have ak:=(aP g D).trans D;refine⟨fun i n u=>SumB bd i n/\u.heap[w.heap.size+1]? =some (Obj.cells #[ae ((((List.range i).map r).sum:Nat):Int)] 3 (0,0))/\ay (fun k=>k=w.heap.size+1) w1 u,⟨rfl,ak,ay.refl _ _⟩,fun i n u d=>d.2.2,fun i n u d=>d.1.le Y,fun i n hi u d=>?_,fun n u d=>⟨_,d.2.1,l n d.1⟩⟩;have⟨ai,p,f⟩:=d;have U:u.cell? (ag w.heap.size 0)=some (.func (.func fn) #[] cs):=by
   have:=bq f K aa;simp only[World.cell?,this];rfl
  have X:Below w.heap.size w u:=j.trans ((g.mono aa).trans (f.toBelow aa (by rintro k rfl;omega)));have aq:((List.range i).map r).sum<=i*20000:=Aj s i;have ap:i*20000<=13*20000:=nS _ aa;have ao:=s i;refine(HV (bd:=bd i) L U p aa (O i hi u X (v.kept f fun k z e=>by have:=P k z;omega))).mono ?_;rintro e au ⟨c,rfl,W,ac,R⟩;exact⟨c,rfl,⟨n,c,ai,W,rfl⟩,by rw[pO,bL,rM];simpa using ac,f.trans R⟩))
 have G:=af j;have H:=af y;go_enter func73,ntmps73
 go_wp2_with fail
 refine E.o.mono ?_;rintro e am ⟨B,b,u,rfl,⟨n,p,l⟩,f,rfl⟩;have T:=bq f H.o aa;have S:Hid ((u.setCell (ag Pb 3) (.int .i64 (wrap64 (fD+(b:Int))))).heap[Pb]? =some (Obj.cells #[aj Hb,dv,av,ae (wrap64 (fD+(b:Int)))] xB (0,0))):=by
  show _=_;rw[di u Pb 3 _ _ _ T];rfl
 have ad:(u.setCell (ag Pb 3) (.int .i64 (wrap64 (fD+(b:Int))))).heap[w.heap.size+1]? =some (Obj.cells #[ae (n:Nat)] 3 (0,0)):=(aC (a:=(ag Pb 3)) (fun e:Pb=w.heap.size+1=>aa)).trans p;have I:Hid (ay (fun k=>k=Pb) w (u.setCell (ag Pb 3) (.int .i64 (wrap64 (fD+(b:Int)))))):=ay.strip ((((ay.refl (fun k=>k=Pb\/w.heap.size<=k) w).below G.o).trans (f.mono fun k h=>.inr aa)).set (a:=(ag Pb 3)) _ (.inl (.inl rfl)));have J:=af l;have aw:(u.setCell (ag Pb 3) (.int .i64 (wrap64 (fD+(b:Int))))).cell? (ag (w.heap.size+1) 0)=some (ae (n:Nat)):=eP ad;generalize u.setCell (ag Pb 3) (.int .i64 (wrap64 (fD+(b:Int))))=am at*;go_wp2;go_ret2;exact⟨n,b,rfl,J.o,I.o,S.o⟩
end
end
section
open Go.RowKit Go.Sort Go.Shelf Go.Lib Go.Maps
attribute [local irreducible] wpQuiet
attribute [local go_sem] Oper.fw
def FJ (l:List Pt) (x y way:Int):List Int:=if way<=3 then BU l (yS x y (decide (way%2=1)) (decide (2<=way)))else[]
theorem Na {a:Int} (b:0<=a) (h:a<=3):a=(if decide (a%2=1)then 1 else 0)+(if decide (2<=a)then 2 else 0):=by
 have:a=0\/a=1\/a=2\/a=3:=aa;rcases this with rfl|rfl|rfl|rfl<;>decide
theorem Vd {w:World} {lo hi cb n0:Nat} {l:List Pt} (h:uA w lo hi cb n0 l) (f:Tz l) (x y a:Int) (d:0<=a):
  aK 40 #[aj cb,ae x,ae y,.int .u8 a] w fun e w'=>∃v,∃c:Nat,e=.returned (.tuple #[v,ae ((c+(FJ l x y a).length:Nat):Int)])/\c<=8*Lib.bitLen n0+1/\w'.ownsRow w.heap.size 27 1 v (FJ l x y a).length ((FJ l x y a).map (Value.int .u32))/\Below w.heap.size w w':=by
 unfold FJ;by_cases b:a<=3
 .rw[aO b];exact OU h f x y _ _ a (Na d b)
 .rw[aN b];refine(GQ h x y a aa).mono ?_;rintro e w' ⟨rfl,rfl⟩;exact⟨_,0,rfl,aY _,dA _ _ _ _,aJ _ _⟩
theorem HY:fV 39:=bY func39 aM rfl
theorem HZ:fV 66:=bY func66 aM rfl
theorem Nb {u:World} {F:Nat->Prop} {tb n0:Nat} {l:List Pt} (h:Bk u F tb n0 l) (x1 x2 y1 y2 b:Int) {a:Nat} (k:u.cell? (ag a 0)=some (ae x1)) (m:u.cell? (ag a 1)=some (ae x2)) (n:u.cell? (ag a 2)=some (ae y1)) (q:u.cell? (ag a 3)=some (ae y2)) (r:u.cell? (ag a 4)=some (au b)):
  aK 66 #[aj tb,aj a] u fun e d=>∃v,∃t:Nat,e=.returned (.tuple #[v,ae t])/\(∃c:Nat,t=c+(hasB l x1 x2 y1 y2).length/\c<=8*Lib.bitLen n0+1)/\d.ownsRow u.heap.size 27 1 v (hasB l x1 x2 y1 y2).length ((hasB l x1 x2 y1 y2).map (Value.int .u32))/\Below u.heap.size u d:=by
 have⟨lo,m0,m1,m2,m3,m4,hi,bx,cn,hp,lw,ob,tl,sv,dn,h⟩:=h;have H:=af h;have j:u.cell? (ag tb 1)=some (aj bx):=aF h.blk;have i:ay (fun _=>False) u u.drew:=(ay.refl _ u).drew;have f:=af (KH (H.o.box.kept i (fun _ _ _ h=>h)) x1 x2 y1 y2 b);have E:=ah j;have z:=ah k;have A:=ah m;have B:=ah n;have C:=ah q;have D:=ah r;go_enter func66,ntmps66
 go_wp2_with fail
 refine ax (fun W=>∃p:aS u,W=p.W) [5,6,7,8,9] [(0,false),(1,false),(2,false),(3,true),(4,true)] ⟨⟨_,(aJ _ _).drew⟩,rfl⟩ 5 ?_;refine aH 5 rfl fun K s=>?_;refine bf HY rfl _ _ rfl (vals:=#[aj bx,.agg #[ae x1,ae x2,ae y1,ae y2,au b]]) rfl f.o ?_;rintro e u1 ⟨v,c,rfl,x,y,w⟩;have g:Hid (Below u.heap.size u u1):=(aJ _ _).drew.trans w;refine⟨_,rfl,?_⟩;refine s _ _ (fun _ h=>absurd ai h) ?_;have HO:=af y;refine ig (fun _=>True) [8,9] aM ?_;refine bz [(6,false),(7,false)] trivial rfl ?_;refine aI [8,9] ?_;go_wp2;go_ret2;exact⟨_,_,rfl,⟨c,rfl,x⟩,HO.o,g.o⟩
theorem J2:fV 41:=bY func41 aM rfl
theorem J3:fV 68:=bY func68 aM rfl
theorem PX {u:World} {F:Nat->Prop} {tb n0:Nat} {l:List Pt} (h:Bk u F tb n0 l) (x1 x2 y:Int) {a b d:Nat} (m:u.cell? (ag a 0)=some (ae x1)) (n:u.cell? (ag b 0)=some (ae x2)) (q:u.cell? (ag d 0)=some (ae y)):
  aK 68 #[aj tb,aj a,aj b,aj d] u fun e f=>∃v,∃t:Nat,e=.returned (.tuple #[v,ae t])/\((xn l x1 x2 y).length<=t/\t<=2*(xn l x1 x2 y).length+zG n0)/\f.ownsRow u.heap.size 27 1 v (xn l x1 x2 y).length ((xn l x1 x2 y).map (Value.int .u32))/\Below u.heap.size u f:=by
 have⟨lo,m0,m1,m2,m3,m4,hi,bx,cn,hp,lw,ob,tl,sv,dn,h⟩:=h;have H:=af h;have k:u.cell? (ag tb 3)=some (aj hp):=aF h.blk;have j:ay (fun _=>False) u u.drew:=(ay.refl _ u).drew;have g:=af (TF (H.o.Un.kept j (fun _ _ _ h=>h)) x1 x2 y);have C:=ah k;have z:=ah m;have A:=ah n;have B:=ah q;go_enter func68,ntmps68
 go_wp2_with fail
 refine ax (fun W=>∃p:aS u,W=p.W) [7,8,9,10,11] [(0,false),(1,false),(2,false),(3,true),(4,true),(5,true),(6,true)] ⟨⟨_,(aJ _ _).drew⟩,rfl⟩ 5 ?_;refine aH 7 rfl fun K r=>?_;refine bf J2 rfl _ _ rfl (vals:=#[aj hp,ae x1,ae x2,ae y]) rfl g.o ?_;rintro e u1 ⟨v,c,rfl,w,x,s⟩;have i:Hid (Below u.heap.size u u1):=(aJ _ _).drew.trans s;refine⟨_,rfl,?_⟩;refine r _ _ (fun _ h=>absurd ai h) ?_;have HO:=af x;refine ig (fun _=>True) [10,11] aM ?_;refine bz [(8,false),(9,false)] trivial rfl ?_;refine aI [10,11] ?_;go_wp2;go_ret2;exact⟨_,_,rfl,w,HO.o,i.o⟩
theorem H5:fV 40:=bY func40 aM rfl
theorem H6:fV 67:=bY func67 aM rfl
theorem Nc {u:World} {F:Nat->Prop} {tb n0:Nat} {l:List Pt} (h:Bk u F tb n0 l) (x y a:Int) (C:Tz l) (B:0<=a) {b d f:Nat} (n:u.cell? (ag b 0)=some (ae x)) (q:u.cell? (ag d 0)=some (ae y)) (r:u.cell? (ag f 0)=some (.int .u8 a)):
  aK 67 #[aj tb,aj b,aj d,aj f] u fun e g=>∃v,∃t:Nat,e=.returned (.tuple #[v,ae t])/\(∃c:Nat,t=c+(FJ l x y a).length/\c<=8*Lib.bitLen n0+1)/\g.ownsRow u.heap.size 27 1 v (FJ l x y a).length ((FJ l x y a).map (Value.int .u32))/\Below u.heap.size u g:=by
 have⟨lo,m0,m1,m2,m3,m4,hi,bx,cn,hp,lw,ob,tl,sv,dn,h⟩:=h;have H:=af h;have m:u.cell? (ag tb 2)=some (aj cn):=aF h.blk;have k:ay (fun _=>False) u u.drew:=(ay.refl _ u).drew;have i:=af (Vd (H.o.UX.kept k (fun _ _ _ h=>h)) C x y a B);have I:=ah m;have D:=ah n;have E:=ah q;have G:=ah r;go_enter func67,ntmps67
 go_wp2_with fail
 refine ax (fun W=>∃p:aS u,W=p.W) [7,8,9,10,11] [(0,false),(1,false),(2,false),(3,true),(4,true),(5,true),(6,true)] ⟨⟨_,(aJ _ _).drew⟩,rfl⟩ 5 ?_;refine aH 7 rfl fun K s=>?_;refine bf H5 rfl _ _ rfl (vals:=#[aj cn,ae x,ae y,.int .u8 a]) rfl i.o ?_;rintro e u1 ⟨v,c,rfl,z,A,w⟩;have j:Hid (Below u.heap.size u u1):=(aJ _ _).drew.trans w;refine⟨_,rfl,?_⟩;refine s _ _ (fun _ h=>absurd ai h) ?_;have HO:=af A;refine ig (fun _=>True) [10,11] aM ?_;refine bz [(8,false),(9,false)] trivial rfl ?_;refine aI [10,11] ?_;go_wp2;go_ret2;exact⟨_,_,rfl,⟨c,rfl,z⟩,HO.o,j.o⟩
theorem PY:fV 75:=bY func75 aM rfl
theorem PZ:fV 74:=bY func74 aM rfl
theorem TZ {u:World} {F:Nat->Prop} {tb n0:Nat} {l:List Pt} (h:Bk u F tb n0 l) (x1 x2 y:Int) {d f g:Nat} (n:u.cell? (ag d 0)=some (ae x1)) (q:u.cell? (ag f 0)=some (ae x2)) (r:u.cell? (ag g 0)=some (ae y)):
  aK 74 #[aj tb,aj d,aj f,aj g] u fun e w=>∃t:Nat,e=.returned (.tuple #[ae ((if 0<(l.filter (qK x1 x2 y)).length then 1 else 0):Nat),ae t])/\t<=zG n0/\Below u.heap.size u w:=by
 have⟨lo,m0,m1,m2,m3,m4,hi,bx,cn,hp,lw,ob,tl,sv,dn,h⟩:=h;have H:=af h;have m:u.cell? (ag tb 3)=some (aj hp):=aF h.blk;have k:ay (fun _=>False) u u.drew:=(ay.refl _ u).drew;have j:=af (VN (H.o.Un.kept k (fun _ _ _ h=>h)) x1 x2 y);have B:=ah m;have x:=ah n;have z:=ah q;have A:=ah r;go_enter func74,ntmps74
 go_wp2_with fail
 refine ax (fun W=>∃p:aS u,W=p.W) [7,8,9,10,11,12] [(0,false),(1,false),(2,false),(3,true),(4,true),(5,true),(6,true)] ⟨⟨_,(aJ _ _).drew⟩,rfl⟩ 6 ?_;refine aH 7 rfl fun K s=>?_;refine bf PY rfl _ _ rfl (vals:=#[aj hp,ae x1,ae x2,ae y]) rfl j.o ?_;rintro e u1 ⟨⟨c,rfl,i⟩,v⟩;have b:Hid (Below u.heap.size u u1):=(aJ _ _).drew.trans v;refine⟨_,rfl,?_⟩;refine s _ _ (fun _ h=>absurd ai h) ?_;refine ig (fun _=>True) [11,12] aM ?_;refine bz [(8,false),(9,false),(10,false)] trivial rfl ?_;refine aI [11,12] ?_;by_cases a:0<(l.filter (qK x1 x2 y)).length
 .rw[pV a];go_wp2;go_ret2;exact⟨c,by first|rfl|(simp only[a,gG];rfl)|simp[a],i,b.o⟩
 .rw[AZ a];go_wp2;go_ret2;exact⟨c,by first|rfl|(simp only[a,jw];rfl)|simp[a],i,b.o⟩
end
section
open Go.RowKit Go.Maps
attribute [local irreducible] wpQuiet
section
variable {W:World} {base A Cb:Nat} {bv pv lv cv:Value} {bh ch:List lH} {al:List Bool} {pl:List Int} {n N wk:Int}
theorem dN.rows {W':World} {l j:Value} {al':List Bool} {pl':List Int} (h:dN W base A Cb bv pv lv cv bh ch al pl n N wk) (K:ay (fun k=>k=A\/pv.ownBlock=some k\/lv.ownBlock=some k) W W')
  (hb:W'.heap[A]? =some (Obj.cells #[.pointer (some ⟨Cb,0,none⟩),bv,l,j,.int .i64 n] 207 (0,0)))
  (hp:W'.ownsRow base 3 1 l pl'.length (pl'.map (Value.int .i64))) (q:W'.ownsRow base 4 1 j al'.length (al'.map Value.bool)):dN W' base A Cb bv l j cv bh ch al' pl' n N wk:=by
 have c:∀{b:Nat} {cs:Array Value} {t:TypeId} {fr:Nat×Nat},W.heap[b]? =some (Obj.cells cs t fr)->t≠207->t≠3->t≠4->¬(b=A\/pv.ownBlock=some b\/lv.ownBlock=some b):=by
  rintro b cs t fr hb d f i (h9|h9|h9)
  .exact dW hb h.blk d h9
  .exact bn h.iD hb f _ h9 rfl
  .exact bn h.dK hb i _ h9 rfl
 have p:∀{e:TypeId} {sz:Nat} {v:Value} {n:Nat} {xs:List Value},W.ownsRow base e sz v n xs->e≠207->e≠3->e≠4->W'.ownsRow base e sz v n xs:=fun o d f i=>
  aR o K fun u e=>by
   rcases o.2 with⟨rfl,_⟩|⟨g,s,m,rfl,_,r,_⟩
   .cases e
   .simp only[Value.ownBlock,jl]at e;subst e;exact c r d f i
 exact⟨h.hb,hb,⟨h.fM.hb,h.fM.ds,bq K h.fM.blk (c h.fM.blk ai ai ai),p h.fM.row ai ai ai⟩,p h.gL ai ai ai,hp,q,
  h.bE.kept fun b m fr a=>K.block b (aZ.1 a).1 (c a ai ai ai),h.cE.kept fun b m fr a=>K.block b (aZ.1 a).1 (c a ai ai ai),h.sep⟩
theorem sQ {w:World} {A i:Nat} {cs a:Array Value} {t:TypeId} {v:Value} (h:w.heap[A]? =some (Obj.cells cs t (0,0))) (e:a=cs.setIfInBounds i v):(w.setCell ⟨A,i,none⟩ v).heap[A]? =some (Obj.cells a t (0,0)):=by
 rw[di w A i _ _ _ h,e]
structure df (W:World) (base A Cb:Nat) (bv pv lv cv:Value) (bh ch:List lH) (al:List Bool) (pl:List Int) (n N wk:Int):Prop where
 hb:base<=A
 blk:W.heap[A]? =some (Obj.cells #[.pointer (some ⟨Cb,0,none⟩),bv,pv,lv,.int .i64 n] 207 (0,0))
 fM:iW W base Cb cv ch N wk
 gL:W.ownsRow base 209 1 bv bh.length (bh.map dU)
 iD:W.ownsRow base 3 1 pv pl.length (pl.map (Value.int .i64))
 dK:W.ownsRow base 4 1 lv al.length (al.map Value.bool)
 sep:bv.ownBlock=none\/bv.ownBlock≠cv.ownBlock
theorem dN.core (h:dN W base A Cb bv pv lv cv bh ch al pl n N wk):df W base A Cb bv pv lv cv bh ch al pl n N wk:=⟨h.hb,h.blk,h.fM,h.gL,h.iD,h.dK,h.sep⟩
theorem df.rep (h:df W base A Cb bv pv lv cv bh ch al pl n N wk) (hb:jX W bh) (a:jX W ch):dN W base A Cb bv pv lv cv bh ch al pl n N wk:=⟨h.hb,h.blk,h.fM,h.gL,h.iD,h.dK,hb,a,h.sep⟩
theorem df.cell (h:df W base A Cb bv pv lv cv bh ch al pl n N wk):
  W.cell? ⟨A,0,none⟩=some (.pointer (some ⟨Cb,0,none⟩))/\W.cell? ⟨A,1,none⟩=some bv/\W.cell? ⟨A,2,none⟩=some pv/\W.cell? ⟨A,3,none⟩=some lv/\W.cell? ⟨A,4,none⟩=some (.int .i64 n):=by
 have:=h.blk;refine⟨?_,?_,?_,?_,?_⟩<;>simp[World.cell?,this]
theorem df.frozen (h:df W base A Cb bv pv lv cv bh ch al pl n N wk) (j:Nat):W.frozen? ⟨A,j,none⟩=false:=by
 have:=h.blk;simp[World.frozen?,this]
theorem df.lt (h:df W base A Cb bv pv lv cv bh ch al pl n N wk):A<W.heap.size:=(aZ.1 h.blk).1
theorem df.below {W':World} (h:df W base A Cb bv pv lv cv bh ch al pl n N wk) (hb:Below W.heap.size W W'):df W' base A Cb bv pv lv cv bh ch al pl n N wk:=
 ⟨h.hb,(aP hb h.blk).trans h.blk,h.fM.below hb,ak h.gL hb,ak h.iD hb,ak h.dK hb,h.sep⟩
def oz (A Cb:Nat) (bv pv lv cv:Value) (k:Nat):Prop:=k=A\/k=Cb\/bv.ownBlock=some k\/pv.ownBlock=some k\/lv.ownBlock=some k\/cv.ownBlock=some k
theorem df.add {W':World} {c:Value} {i:List lH} {g l:Int} (h:df W base A Cb bv pv lv cv bh ch al pl n N wk) (K:ay (fun k=>k=Cb\/cv.ownBlock=some k) W W') (q:iW W' base Cb c i g l) (r:c.ownBlock=cv.ownBlock\/c.ownBlock=none\/∃b,c.ownBlock=some b/\W.heap.size<=b):
  df W' base A Cb bv pv lv c bh i al pl n g l:=by
 have f:∀{e:TypeId} {sz:Nat} {v:Value} {n:Nat} {xs:List Value},W.ownsRow base e sz v n xs->e≠290->(∀a,v.ownBlock=some a->cv.ownBlock≠some a)->W'.ownsRow base e sz v n xs:=fun j o p=>
  aR j K fun a e=>by
   rintro(h9|h9)
   .exact bn j h.fM.blk (iR o) a e h9.symm
   .exact p a e h9
 refine⟨h.hb,bq K h.blk ?_,q,f h.gL ai ?_,f h.iD ai (bA h.iD h.fM.row ai),f h.dK ai (bA h.dK h.fM.row ai),?_⟩
 .rintro(h9|h9)
  .exact dW h.blk h.fM.blk ai h9
  .exact bn h.fM.row h.blk ai _ h9 rfl
 .intro a e m;rcases h.sep with h9|h9
  .rw[h9]at e;cases e
  .exact h9 (e.trans m.symm)
 .rcases r with h9|h9|⟨b,h9,s⟩
  .rw[h9];exact h.sep
  .rw[h9];rcases Ir bv.ownBlock with d|⟨x,d⟩
   .exact .inl d
   .exact .inr (by rw[d];simp)
  .rw[h9];right;intro e;have:=(h.gL.lt b e).2;omega
theorem df.Ve {g k c:Nat} (h:df W base A Cb (.slice (some ⟨g,0,none⟩) k c) pv lv cv bh ch al pl n N wk) (f:k=bh.length) (m:Nat) (x:lH):df (W.setCell ⟨g,m,none⟩ (dU x)) base A Cb (.slice (some ⟨g,0,none⟩) k c) pv lv cv (bh.set m x) ch al pl n N wk:=by
 subst f;have⟨i,b⟩:=Ae h.gL;have d:∀a,cv.ownBlock=some a->g≠a:=by
  rintro a e rfl;rcases h.sep with h9|h9
  .cases h9
  .exact h9 e.symm
 refine⟨h.hb,(aC (dW b h.blk ai)).trans h.blk,⟨h.fM.hb,h.fM.ds,(aC (dW b h.fM.blk ai)).trans h.fM.blk,aX h.fM.row fun a e=>aC (d a e)⟩,?_,aX h.iD fun a e=>aC (bn h.iD b ai a e),aX h.dK fun a e=>aC (bn h.dK b ai a e),h.sep⟩;rw[kJ,kL];exact(h.gL.stored m (dU x)).1
theorem df.P5 {W':World} {c:Value} {bh':List lH} (h:df W base A Cb bv pv lv cv bh ch al pl n N wk) (j:W.grownBy W' bv.ownBlock) (i:W'.ownsRow base 209 1 c bh'.length (bh'.map dU)) (m:c.ownBlock=bv.ownBlock\/c.ownBlock=none\/∃b,c.ownBlock=some b/\W.heap.size<=b):
  df (W'.setCell ⟨A,1,none⟩ c) base A Cb c pv lv cv bh' ch al pl n N wk:=by
 have K:ay (fun k=>bv.ownBlock=some k) W W':=(ay.refl _ W).grown j (fun k l=>.inl l);have f:W'.heap[A]? =some (Obj.cells #[.pointer (some ⟨Cb,0,none⟩),bv,pv,lv,.int .i64 n] 207 (0,0)):=bq K h.blk fun e=>bn h.gL h.blk ai _ e rfl;have g:W'.ownsRow base 209 1 cv ch.length (ch.map dU):=aR h.fM.row K fun a e d=>by
  rcases h.sep with h9|h9
  .rw[h9]at d;cases d
  .exact h9 (d.trans e.symm)
 have o:c.ownBlock=none\/c.ownBlock≠cv.ownBlock:=by
  rcases m with h9|h9|⟨b,h9,p⟩
  .rw[h9];exact h.sep
  .exact .inl h9
  .rw[h9];right;intro e;have:=(h.fM.row.lt b e.symm).2;omega
 refine⟨h.hb,sQ f rfl,⟨h.fM.hb,h.fM.ds,(aC (dW h.blk h.fM.blk ai)).trans (bq K h.fM.blk fun e=>bn h.gL h.fM.blk ai _ e rfl),aX g fun a e=>aC (bn g f ai a e)⟩,
  aX i fun a e=>aC (bn i f ai a e),?_,?_,o⟩
 .have:=aR h.iD K fun a e d=>bA h.iD h.gL ai a e d;exact aX this fun a e=>aC (bn this f ai a e)
 .have:=aR h.dK K fun a e d=>bA h.dK h.gL ai a e d;exact aX this fun a e=>aC (bn this f ai a e)
end
section
variable {W:World} {base A Cb:Nat} {bv pv lv cv:Value} {bh ch:List lH} {al:List Bool} {pl:List Int} {n N wk:Int}
theorem df.Wv {W':World} {d k:Nat} {v:Value} {xs:List Value} (h:df W base A Cb bv pv lv cv bh ch al pl n N wk) (c:W.ownsRow d 204 2 v k xs) (f:W.grownBy W' v.ownBlock):df W' base A Cb bv pv lv cv bh ch al pl n N wk:=by
 have K:ay (fun k=>v.ownBlock=some k) W W':=(ay.refl _ W).grown f (fun k g=>.inl g);exact⟨h.hb,bq K h.blk fun e=>bn c h.blk ai _ e rfl,⟨h.fM.hb,h.fM.ds,bq K h.fM.blk fun e=>bn c h.fM.blk ai _ e rfl,aR h.fM.row K fun b e a=>bA h.fM.row c ai b e a⟩,
  aR h.gL K fun b e a=>bA h.gL c ai b e a,aR h.iD K fun b e a=>bA h.iD c ai b e a,aR h.dK K fun b e a=>bA h.dK c ai b e a,h.sep⟩
theorem df.fe {W':World} (h:df W base A Cb bv pv lv cv bh ch al pl n N wk) {T:Nat->Prop} (K:ay (fun k=>oz A Cb bv pv lv cv k\/T k) W W') (b:Nat) (a:Array Value) (fr:Nat×Nat) (hb:W.heap[b]? =some (Obj.cells a 204 fr)) (c:¬T b):W'.heap[b]? =W.heap[b]? :=by
 refine K.block b (aZ.1 hb).1 ?_;rintro((h9|h9|h9|h9|h9|h9)|h9)
 .exact dW hb h.blk ai h9
 .exact dW hb h.fM.blk ai h9
 .exact bn h.gL hb ai _ h9 rfl
 .exact bn h.iD hb ai _ h9 rfl
 .exact bn h.dK hb ai _ h9 rfl
 .exact bn h.fM.row hb ai _ h9 rfl
 .exact c h9
def zh (A:Nat) (w:World):Nat:=match w.cell? ⟨A,1,none⟩with|some (.slice _ n _)=>n|_=>0
theorem df.zh (h:df W base A Cb bv pv lv cv bh ch al pl n N wk):zh A W=bh.length:=by
 obtain⟨av,a,rfl,-,-,-⟩:=Rd.aD (enc:=dU) h.gL;unfold Proofs.YtkjdbndekceffaaGreat.zh;rw[h.cell.2.1]
end
def Di (bh:List lH) (k:Nat):List lH:=List.replicate k fJ++bh.drop k
theorem FK {bh:List lH} {k:Nat} (a:k<=bh.length):(Di bh k).length=bh.length:=by simp[Di];omega
theorem RL {bh:List lH} {k:Nat} (a:k<bh.length):(Di bh k).set k fJ=Di bh (k+1):=by
 unfold Di;rw[uk _ _ aA,iA,iP,lU a,oF,rA,dY];rfl
theorem RN {bh a:List lH} {i:Nat} (h:a=bh/\i<bh.length\/a=bh++[fJ]/\i=bh.length) (hd:lH):((Di a i).set i hd).map (·.2.1)=List.replicate i []++hd.2.1::(bh.map (·.2.1)).drop (i+1):=by
 have c:i<a.length:=by rcases h with⟨rfl,h⟩|⟨rfl,h⟩<;>first|omega|(simp;omega)
 have b:(a.drop (i+1)).map (·.2.1)=(bh.map (·.2.1)).drop (i+1):=by
  rcases h with⟨rfl,h⟩|⟨rfl,h⟩
  .rw[yc]
  .rw[oC aG,oC aG];rfl
 unfold Di;rw[uk _ _ aA,iA,iP,lU c,oF,bL,l6,b,Eu]
theorem K8 {bh a:List lH} {i:Nat} (c:a=bh/\i<bh.length\/a=bh++[fJ]/\i=bh.length) {hd h:lH} (d:h∈(Di a i).set i hd):h=hd\/h=fJ\/h∈bh:=by
 rcases Eh d with h1|h1
 .unfold Di at h1;rw[bP]at h1;rcases h1 with h1|h1
  .exact .inr (.inl (AA.1 h1).2)
  .have b:=IG h1;rcases c with⟨rfl,-⟩|⟨rfl,-⟩
   .exact .inr (.inr b)
   .rcases bP.1 b with h3|h3
    .exact .inr (.inr h3)
    .exact .inr (.inl (aQ h3))
 .exact .inl h1
theorem xC {w:World} {base n:Nat} {v:Value} {l:List iX} (a:l.length=n) (j:n<4611686018427387904) (h:w.ownsRow base 204 2 v n (l.flatMap iM)) (p:base<=w.heap.size):
  Calls prog 133 #[v] w fun e w'=>e=.returned v/\∃l':List iX,l'.Perm l/\l'.Pairwise (fun x y=>x.1<=y.1)/\w'.ownsRow base 204 2 v n (l'.flatMap iM)/\w.grownBy w' v.ownBlock:=by
 rcases h.2 with⟨rfl,b⟩|⟨g,k,m,rfl,q,_⟩
 .subst b;obtain rfl:l=[]:=gV a;have d:=af h;go_enter func133,ntmps133
  go_wp2_with fail
  refine(E9 none 0 _ w).mono ?_;rintro e w' ⟨rfl,rfl⟩;go_wp2;go_ret;exact⟨rfl,[],pU _,List.Pairwise.nil,d.o,⟨rfl,rfl,rfl,aB _,fun _ _ _=>rfl⟩⟩
 .have C:=af (QU a j h);go_enter func133,ntmps133
  go_wp2_with fail
  refine C.o.mono ?_;rintro e w' ⟨rfl,l',hp,i,f,c⟩;go_wp2;go_ret;exact⟨rfl,l',hp,i,f,c⟩
section
variable {W:World} {base A Cb:Nat} {bv pv lv cv:Value} {bh ch:List lH} {al:List Bool} {pl:List Int} {n N wk:Int}
def RO (W:World) (base A Cb:Nat) (bv pv lv cv:Value) (bh ch:List lH) (al:List Bool) (pl:List Int) (n N id p:Int) (e:Ending) (w':World):Prop:=
 ∃(Sq We Wd CS:Value) (bh' qW:List lH) (Ko:Int),e=.returned (.int .i64 0)/\dN w' base A Cb Sq We Wd CS bh' qW (al++[true]) (pl++[p]) (n+1) (N+1) Ko/\o6 (qW.map (·.2.1)) (bh'.map (·.2.1)) (al++[true]) (pl++[p]) (n+1) (N+1)/\
  (qW.map (·.2.1)).flatten.Perm ((id,(al.length:Int))::(ch.map (·.2.1)).flatten)/\(∀k,oz A Cb Sq We Wd CS k->oz A Cb bv pv lv cv k\/W.heap.size<=k)/\ay (oz A Cb bv pv lv cv) W w'/\Nw W.heap.size bh bh'/\Nw W.heap.size ch qW
theorem J4 (h:dN W base A Cb bv pv lv cv bh ch al pl n N wk) (dT:base<=W.heap.size) (aP:o6 (ch.map (·.2.1)) (bh.map (·.2.1)) al pl n N) (dj:al.length<5000) (id p:Int) (bM:∀x∈(ch.map (·.2.1)).flatten,x.1≠id):
  Calls prog 56 #[.pointer (some ⟨A,0,none⟩),.int .u32 id,.int .i64 p] W (RO W base A Cb bv pv lv cv bh ch al pl n N id p):=by
 have b2:=af (DR h);have H:=af h;have ag:=aP.Sg;have cc:=af (fun W' (F:Below W.heap.size W W')=>o5 A id W' _ bh bv base ((h.below F).cell.2.1) (h.below F).gL rfl (h.below F).bE aP.sorted (by have:=ag.1;simp at this;omega) (fun l c5=>by have:=ag.2.2.1 l c5;omega));have ef:0<=n/\n<=5000:=by
  have h1:=aP.cnt;have Y:al.count true<=al.length:=Em;omega
 have aj:=af aP;go_enter func56,ntmps56
 go_wp2_with fail
 refine b2.o.mono ?_;rintro e w2 ⟨rfl,an⟩
 go_wp2_with fail
 refine(cc.o w2 an).mono ?_;rintro e w3 ⟨k,t,rfl,ht,m,cW⟩;have aS:=an.trans (cW.mono an.size);have a2:=af (H.o.below aS);have⟨dw,dx,dy,dz,dA⟩:=a2.o.cell;have c4:k=-1:=by
  rcases m with⟨y,bW,h1,Y⟩|⟨rfl,-⟩
  .rw[fU aj.o.perm]at bW;exact absurd h1 (bM _ bW)
  .rfl
 subst c4;have f4:=a2.o.frozen 4;have a4:=a2.o.Tj (n+1);have ci:=af aj.o.len;have eg:pl.length<5000:=by have:=ci.o;omega
 have u:=af (a4.below ((aJ _ _).alloc (aB _) (.cells #[.int .u32 id,.int .i64 (al.length:Int)] 204)));have bl:Hid (ay (fun k=>k=A) W ((w3.setCell ⟨A,4,none⟩ (.int .i64 (n+1))).alloc (.cells #[.int .u32 id,.int .i64 (al.length:Int)] 204))):=((((ay.refl (fun k=>k=A) W).below aS).set (a:=⟨A,4,none⟩) _ (.inl rfl)).alloc _);have ds:((w3.setCell ⟨A,4,none⟩ (.int .i64 (n+1))).alloc (.cells #[.int .u32 id,.int .i64 (al.length:Int)] 204)).cell? ⟨w3.heap.size,0,none⟩=some (.int .u32 id):=by rw[eB _ _ _ _ aA];rfl
 have x1:((w3.setCell ⟨A,4,none⟩ (.int .i64 (n+1))).alloc (.cells #[.int .u32 id,.int .i64 (al.length:Int)] 204)).cell? ⟨w3.heap.size,1,none⟩=some (.int .i64 (al.length:Int)):=by rw[eB _ _ _ _ aA];rfl
 have bS:w3.heap.size<((w3.setCell ⟨A,4,none⟩ (.int .i64 (n+1))).alloc (.cells #[.int .u32 id,.int .i64 (al.length:Int)] 204)).heap.size:=aA;have dR:W.heap.size<=w3.heap.size:=aS.size;have cB:=af ds;have cC:=af x1;have⟨d0,d1,d2,d3,d4⟩:=a4.cell;obtain⟨dn,dm,c9,-,-,-⟩:=Rd.aD a4.dK;subst c9
 go_upto_region 11 with fail
 generalize((w3.setCell ⟨A,4,none⟩ (.int .i64 (n+1))).alloc (.cells #[.int .u32 id,.int .i64 (al.length:Int)] 204))=ah at*;generalize Value.slice dn al.length dm=M at*
 go_cut []from 61 to 79 (fun D=>∃s r,Hid (dN D base A Cb bv s r cv bh ch (al++[true]) (pl++[p]) (n+1) N wk)/\Hid (s.ownBlock=pv.ownBlock\/∃b,s.ownBlock=some b/\W.heap.size<=b)/\Hid (r.ownBlock=M.ownBlock\/∃b,r.ownBlock=some b/\W.heap.size<=b)/\Hid (ay (fun k=>k=A\/pv.ownBlock=some k\/M.ownBlock=some k) ah D))
 case first=>
  obtain⟨-,bY,dp,eh,-⟩:=u.o.cell;have dG:∀j,ah.frozen? ⟨A,j,none⟩=false:=u.o.frozen;have dI:=u.o.lt;have dP:=H.o.lt;have dd:∀d,pv.ownBlock=some d->d<ah.heap.size/\d≠A:=fun d e=>⟨(u.o.iD.lt d e).2,fun a7=>bn u.o.iD u.o.blk ai d e a7.symm⟩;have c7:∀d,M.ownBlock=some d->d<ah.heap.size/\d≠A:=fun d e=>⟨(u.o.dK.lt d e).2,fun a7=>bn u.o.dK u.o.blk ai d e a7.symm⟩;have de:∀d,pv.ownBlock=some d->M.ownBlock≠some d:=fun d e e2=>by
   rcases u.o.dK.2 with⟨rfl,_⟩|⟨g,dC,X,rfl,_,aq,_⟩
   .cases e2
   .simp only[Value.ownBlock,jl]at e2;subst e2;exact bn u.o.iD aq ai _ e rfl
  have aH:=af dd;have az:=af c7;have bk:=af de;have dV:base<=ah.heap.size:=by have:=bl.o.size;omega
  have cQ:=u.o.blk
  go_region_law (first
   |(refine bD yw base (aR (S:=fun _=>False) u.o.dK (by repeat(first|exact ay.refl _ _|refine ay.drew ?_|refine ay.alloc ?_ _)) (fun _ _ h=>h)) [.bool true] rfl (by simp[Value.oneCell']) rfl (.tmp 66) (.tmp 67) rfl rfl _ rfl (by first|exact kY _ _|exact Dn _ _ _|exact Dp _ _ _) dJ aa (by first|(simp;done)|(simp;omega)) ?_
     intro ak cD b0 cS Z bw dM;have⟨ei,ej⟩:=cz ((ay.refl (fun k=>M.ownBlock=some k) _).grown Z (fun k m=>.inl m)) (b:=A) (by first|(simp;done)|(simp;omega)) (fun e=>(az.o _ e).2 rfl);have dO:A<b0.heap.size:=by(have:=Z.size;simp at this;omega)
     have aT:Hid (ak≠A/\pv.ownBlock≠some ak/\(M.ownBlock=some ak\/W.heap.size<=ak)):=(by
      rcases bw with h9|h9
      .exact⟨(az.o _ h9).2,fun e=>bk.o _ e h9,.inl h9⟩
      .simp at h9;exact⟨aa,fun e=>by(have:=(aH.o _ e).1;omega),.inr aa⟩)
     clear bw)
   |(refine bD nI base (aR (S:=fun k=>M.ownBlock=some k) u.o.iD (by repeat(first|exact ay.refl _ _|refine ay.drew ?_|refine ay.alloc ?_ _|refine ay.grown ?_ Z (fun k m=>.inl m))) (fun d e e2=>bk.o d e e2)) [.int .i64 p] rfl (by simp[Value.oneCell']) rfl (.tmp 72) (.tmp 74) rfl rfl _ rfl (by first|exact bV _ _|(refine(Z.block _ (by first|(simp;done)|(simp;omega)) (fun e=>by have:=(az.o _ e.symm).1;omega)).trans ?_;first|exact kY _ _|exact Dn _ _ _|exact Dp _ _ _)) dJ aa (by have:=Z.size;simp at this |-;omega) ?_
     intro am cF wp cV a8 bz dQ;have⟨ek,el⟩:=cz ((ay.refl (fun k=>pv.ownBlock=some k) _).grown a8 (fun k m=>.inl m)) (b:=A) (by have:=Z.size;simp at this |-;omega) (fun e=>(aH.o _ e).2 rfl);have bg:Hid (am≠A/\(pv.ownBlock=some am\/W.heap.size<=am)):=(by
      rcases bz with h9|h9
      .exact⟨(aH.o _ h9).2,.inl h9⟩
      .have P:=Z.size;simp at h9 P;exact⟨aa,.inr aa⟩)
     clear bz))
  all_goals go_wp2_with fail
  all_goals go_meet
  all_goals
   have a0:ay (fun k=>pv.ownBlock=some k\/M.ownBlock=some k) ah wp:=(by repeat(first|exact ay.refl _ _|with_reducible refine ay.drew ?_|with_reducible refine ay.alloc ?_ _|refine ay.grown ?_ a8 (fun k m=>.inl (.inl m))|refine ay.grown ?_ Z (fun k m=>.inl (.inr m))));have cy:ay (fun k=>k=A\/pv.ownBlock=some k) b0 wp:=(by repeat(first|exact ay.refl _ _|with_reducible refine ay.drew ?_|with_reducible refine ay.alloc ?_ _|refine ay.grown ?_ a8 (fun k m=>.inl (.inr m))));have F:=bq a0 cQ (fun e=>e.elim (fun e=>(aH.o _ e).2 rfl) (fun e=>(az.o _ e).2 rfl));refine⟨.slice (some ⟨am,0,none⟩) (pl.length+1) cF,.slice (some ⟨ak,0,none⟩) (al.length+1) cD,u.o.rows (al':=al++[true]) (pl':=pl++[p]) ?_ ?_ ?_ ?_,?_,?_,?_⟩
   .exact((a0.mono (fun k h=>.inr h)).set _ (.inl (.inl rfl))).set _ (.inl (.inl rfl))
   .first|exact sQ (sQ F rfl) rfl|exact sQ (sQ F rfl) rfl
   .rw[bQ,bL];exact aR (S:=fun k=>k=A) cV (((ay.refl (fun k=>k=A) wp).set (a:=⟨A,_,none⟩) _ (.inl rfl)).set (a:=⟨A,_,none⟩) _ (.inl rfl)) (fun d e e2=>by
     have aL:am=d:=by injection e
     exact bg.o.1 (aL.trans e2))
   .rw[bQ,bL];exact aR (S:=fun k=>k=A\/pv.ownBlock=some k) cS ((cy.set _ (.inl (.inl rfl))).set _ (.inl (.inl rfl))) (fun d e e2=>by
     injection e with e;subst e;rcases e2 with e2|e2
     .exact aT.o.1 e2
     .exact aT.o.2.1 e2)
   .rcases bg.o.2 with h9|h9
    .exact .inl h9.symm
    .exact .inr ⟨am,rfl,h9⟩
   .rcases aT.o.2.2 with h9|h9
    .exact .inl h9.symm
    .exact .inr ⟨ak,rfl,h9⟩
   .exact((a0.mono (fun k h=>.inr h)).set _ (.inl (.inl rfl))).set _ (.inl (.inl rfl))
 case rest=>
  have⟨s,r,R,cp,cg,aV⟩:=hcut;obtain⟨w6,cL⟩:∃w6:World,w6=wc:=⟨_,rfl⟩;subst cL;have dL:=H.o.lt;have bK:¬(w3.heap.size=A\/pv.ownBlock=some w3.heap.size\/M.ownBlock=some w3.heap.size):=by
   rintro(h9|h9|h9)
   .omega
   .have:=(H.o.iD.lt _ h9).2;omega
   .have:=(H.o.dK.lt _ h9).2;omega
  have eo:=((cz aV.o bS bK).1 0).trans cB.o;have y1:=((cz aV.o bS bK).1 1).trans cC.o;have bm:Hid (ay (oz A Cb bv pv M cv) W w6):=by
   refine(bl.o.mono (fun k h=>.inl h)).trans (W:=W) (w1:=ah) (w2:=w6) ?_;exact aV.o.mono (fun k h=>by
    rcases h with h|h|h
    .exact .inl h
    .exact .inr (.inr (.inr (.inl h)))
    .exact .inr (.inr (.inr (.inr (.inl h)))))
  have bC:=bm.o.size;have⟨dD,dE,e2,aL,dF⟩:=R.o.cell;have a3:Hid (dN w6.drew base A Cb bv s r cv bh ch (al++[true]) (pl++[p]) (n+1) N wk):=R.o.below (aJ _ _).drew;have cU:0<=N/\N<=100000:=by
   have h1:=aj.o.stored;have Y:=ag.2.2.2;omega
  have c0:ch.length<=1000:=by
   have h1:=aj.o.levels.1;simp at h1;omega
  have b1:=af (QV a3.o.fM (by have:=bC;simp;omega) a3.o.cE id (al.length:Int) cU c0 (by have:=ag.2.2.2;omega))
  go_upto_region 12 with fail
  go_cut [10,11]from 80 to 88 (fun dl dq D=>∃(i:Nat) (bc a5:Value) (aK:List lH) (dr:Int),dl=.int .i64 i/\bc=dq/\i<=ch.length/\Hid (∀j (bI:j<ch.length),j<i->ch[j].2.1≠[])/\Hid (∀hi:i<ch.length,ch[i].2.1=[])/\
   Hid (df D base A Cb bv s r a5 bh aK (al++[true]) (pl++[p]) (n+1) (N+1) dr)/\Hid (∀br:World,(∀(b:Nat) X fr,D.heap[b]? =some (Obj.cells X 204 fr)->bc.ownBlock≠some b->br.heap[b]? =D.heap[b]?)->jX br aK)/\Hid (aK.map (·.2.1)=ky (ch.map (·.2.1)) i (id,(al.length:Int)))/\
   Hid (D.ownsRow w6.heap.size 204 2 bc (eT (ch.map (·.2.1)) i++[(id,(al.length:Int))]).length ((eT (ch.map (·.2.1)) i++[(id,(al.length:Int))]).flatMap iM))/\
   Hid (a5.ownBlock=cv.ownBlock\/∃b,a5.ownBlock=some b/\W.heap.size<=b)/\Hid (ay (fun k=>k=Cb\/cv.ownBlock=some k) w6 D)/\Hid (Nw W.heap.size ch aK))
  case first=>
   go_region_with (go_at_call 132;(with_reducible refine b1.o.mono ?_);rintro e G ⟨i,bb,L,K,O,rfl,hi,aO,ap,bF,⟨dh,bR⟩,bJ,bO,bG,bx,bN,-⟩;have cn:=af bN;have cl:=af aO;have cb:=af ap;have b8:=af bF;have cs:=af bR;have cj:=af bJ;have co:=af bO;have be:=af bG;have ac:=af bx;clear aO ap bF dh bR bJ bO bG bx bN)
   all_goals go_wp2_with fail
   all_goals go_meet
   all_goals
    refine⟨i,bb,L,K,O,rfl,rfl,hi,cl,cb,?_,cs,cj,co,?_,?_,Nw.refl.trans cn.o aG⟩
    .exact a3.o.core.add ac.o b8.o (be.o.imp (fun h=>h) .inr)
    .rcases be.o with h9|⟨b,h9,P⟩
     .exact .inl h9
     .exact .inr ⟨b,h9,by simp at P;omega⟩
    .exact((ay.refl _ w6).drew).trans ac.o
  case rest=>
   obtain⟨i,bb,L,K,O,rfl,rfl,hi,ck,ca,au,cr,bj,aE,b9,ac,cm⟩:=hcut;obtain⟨G,cM⟩:∃G:World,G=wc:=⟨_,rfl⟩;subst cM;have b4:Hid (bh.length=ch.length):=af (by have:=aj.o.perm.1;simpa using this);have dX:bh.length<=13:=by have:=ag.1;simpa using this
   have cx:Hid ((eT (ch.map (·.2.1)) i++[(id,(al.length:Int))]).length<=5001):=by
    show _<=_;rw[bQ,(jB _ i).length_eq];have aL:((ch.map (·.2.1)).take i).flatten++((ch.map (·.2.1)).drop i).flatten=(ch.map (·.2.1)).flatten:=by rw[<-kX,jD]
    have cJ:=congrArg List.length aL;rw[bQ]at cJ;have:=ag.2.2.2;simp only[ed,fF];omega
   have du:=af ag
   go_upto_block 0 with fail
   go_cut []from 89 to 104 (fun D=>∃(q:Value) (c:List lH),Hid (df D base A Cb q s r L c K (al++[true]) (pl++[p]) (n+1) (N+1) O)/\Hid (c=bh/\i<bh.length\/c=bh++[fJ]/\i=bh.length)/\Hid (q.ownBlock=bv.ownBlock\/∃b,q.ownBlock=some b/\G.heap.size<=b)/\Hid (ay (fun k=>k=A\/bv.ownBlock=some k) G D))
   case first=>
    go_wp2_with fail
    go_loopw [] (fun wr=>∃(q:Value) (c:List lH),Hid (df wr base A Cb q s r L c K (al++[true]) (pl++[p]) (n+1) (N+1) O)/\Hid (c=bh/\q=bv/\wr=G\/c=bh++[fJ]/\i=bh.length)/\Hid (q.ownBlock=bv.ownBlock\/∃b,q.ownBlock=some b/\G.heap.size<=b)/\Hid (ay (fun k=>k=A\/bv.ownBlock=some k) G wr)) (fun wr=>i+1-zh A wr)
    case atStart=>exact⟨bv,bh,au,.inl ⟨rfl,rfl,rfl⟩,.inl rfl,ay.refl _ _⟩
    case round=>
     have⟨q,c,E,V,aI,ax⟩:=hrel;obtain⟨av,cG,aM,-,dY,-⟩:=Rd.aD (enc:=dU) E.o.gL;obtain⟨-,bs,-⟩:=E.o.cell;by_cases aN:i<c.length
     .have b3:Hid (c=bh/\i<bh.length\/c=bh++[fJ]/\i=bh.length):=by
       rcases V.o with⟨h1,-⟩|h1
       .exact .inl ⟨h1,h1▸aN⟩
       .exact .inr h1
      have cI:decide (c.length<=i)=false:=aG;rw[aM]at bs
      go_wp2_with fail
      go_meet;exact⟨q,c,E,b3,aI,ax⟩
     .obtain⟨rfl,rfl,rfl⟩:c=bh/\q=bv/\wr=G:=by
       rcases V.o with h1|⟨h1,Y⟩
       .exact h1
       .rw[h1]at aN;simp at aN;omega
      have c2:i=c.length:=by have:=b4.o;omega
      subst c2;have cI:decide (c.length<=c.length)=true:=aA;have Q:=E.o.gL;have dt:Hid (wr.heap[A]? =some (Obj.cells #[.pointer (some ⟨Cb,0,none⟩),q,s,r,.int .i64 (n+1)] 207 (0,0))):=E.o.blk;have b5:Hid (∀C,wr.grownBy C q.ownBlock->C.heap[A]? =some (Obj.cells #[.pointer (some ⟨Cb,0,none⟩),q,s,r,.int .i64 (n+1)] 207 (0,0))):=fun C ab=>bq ((ay.refl (fun k=>q.ownBlock=some k) wr).grown ab (fun k m=>.inl m)) E.o.blk (fun e=>bn E.o.gL E.o.blk ai _ e rfl);have cY:base<=wr.heap.size:=by have:=ac.o.size;omega
      subst aM
      go_wp2_with (at_builtin;go_loud (refine cu KA base Q [.slice none 0 0] rfl (by simp[Value.oneCell']) rfl _ _ rfl rfl _ rfl dJ aa cY ?_;intro en C bP ab cX;obtain⟨cP,cH,rfl,d6,d7,d8,d9⟩:=aU bP aa;have bX:=b5.o C ab;have bY:C.cell? ⟨A,1,none⟩=some (.slice av c.length cG):=(aF bX);have dp:C.frozen? ⟨A,1,none⟩=false:=(aF bX)))
      have dc:C.ownsRow base 209 1 (.slice (some ⟨cP,0,none⟩) (c.length+1) cH) (c++[fJ]).length ((c++[fJ]).map dU):=by
       rw[bQ,bL];exact bP
      have an:=gJ cX;have ao:=E.o.P5 ab dc (an.imp (fun h=>h) .inr);go_roundw
      case rel=>
       refine⟨_,c++[fJ],ao,.inr ⟨rfl,by first|rfl|trivial⟩,an,(ax.o.grown ab (fun k m=>.inl (.inr m))).set (a:=⟨A,1,none⟩) _ (.inl (.inl rfl))⟩
      case measure=>
       rw[ao.zh,E.o.zh];simp
   case rest=>
    have⟨q,c,E,V,aI,ax⟩:=hcut;obtain⟨C,cN⟩:∃C:World,C=wc:=⟨_,rfl⟩;subst cN;have eb:i<c.length:=by
     rcases V.o with⟨h1,Y⟩|⟨h1,Y⟩
     .rw[h1];exact Y
     .rw[h1];simp;omega
    have ec:c.length<=14:=by
     rcases V.o with⟨h1,Y⟩|⟨h1,Y⟩
     .rw[h1];omega
     .rw[h1];simp;omega
    obtain⟨f,ad,aM,dZ,d5,-,-⟩:=aU E.o.gL aa;subst aM;have b6:Hid (df C base A Cb (.slice (some ⟨f,0,none⟩) c.length ad) s r L (Di c 0) K (al++[true]) (pl++[p]) (n+1) (N+1) O):=E.o;have ea:(0:Int)<=(i:Int):=aa
    go_upto_block 2 with fail
    go_cut []from 106 to 115 (fun D=>Hid (df D base A Cb (.slice (some ⟨f,0,none⟩) c.length ad) s r L (Di c i) K (al++[true]) (pl++[p]) (n+1) (N+1) O)/\Hid (ay (fun k=>k=f) C D))
    case first=>
     go_wp2_with fail
     go_loopw [106] (fun ba wr=>∃k:Nat,ba=.int .i64 k/\k<=i/\Hid (df wr base A Cb (.slice (some ⟨f,0,none⟩) c.length ad) s r L (Di c k) K (al++[true]) (pl++[p]) (n+1) (N+1) O)/\Hid (ay (fun k=>k=f) C wr)) (fun ba _=>i-(intOf ba).toNat)
     case atStart=>exact⟨0,rfl,aY _,b6,ay.refl _ _⟩
     case round=>
      obtain⟨k,rfl,ee,aw,bi⟩:=hrel;by_cases aN:k<i
      .have Q:=aw.o.gL;have ae:(Di c k).length=c.length:=FK aa;rw[ae]at Q;have ar:=Q.cellAt k aa;rw[bZ (show k<((Di c k).map dU).length by rw[bU];omega)]at ar;generalize((Di c k).map dU)[k]'(by rw[bU];omega)=zv at ar;have dH:=Q.frozenAt k;obtain⟨-,bs,-⟩:=aw.o.cell;have cw:Hid (df (wr.setCell ⟨f,k,none⟩ (.slice none 0 0)) base A Cb (.slice (some ⟨f,0,none⟩) c.length ad) s r L (Di c (k+1)) K (al++[true]) (pl++[p]) (n+1) (N+1) O):=by
        have h9:=aw.o.Ve ae.symm k fJ;rw[RL aa]at h9;exact h9
       have c8:(k:Int)<(c.length:Int):=aa
       go_wp2_with fail
       go_roundw
       case rel=>exact⟨k+1,by go_num,aa,cw,bi.o.set (a:=⟨f,k,none⟩) _ (.inl rfl)⟩
       case measure=>exact eO
      .obtain rfl:k=i:=aa
       go_wp2_with fail
       go_meet;exact⟨aw,bi⟩
    case rest=>
     have⟨bf,cf⟩:=hcut;obtain⟨U,cO⟩:∃U:World,U=wc:=⟨_,rfl⟩;subst cO;generalize cT:eT (ch.map (·.2.1)) i++[(id,(al.length:Int))]=I at*;have cd:=af cT;have aX:Hid (ay (fun k=>k=A\/bv.ownBlock=some k) G U):=by
      refine ay.strip ((ax.o.mono (fun k h=>.inl h)).trans (cf.o.mono (fun k h=>?_)));rcases aI.o with h9|⟨b,h9,P⟩
      .exact .inl (.inr (by rw[<-h9,h];rfl))
      .have cR:f=b:=by injection h9
       exact .inr aa
     have a1:U.ownsRow w6.heap.size 204 2 bb I.length (I.flatMap iM):=aR aE.o aX.o (fun d e=>by
      rintro(h9|h9)
      .exact bn aE.o au.o.blk ai d e h9.symm
      .exact bA au.o.gL aE.o ai d h9 e)
     have dk:w6.heap.size<=U.heap.size:=bB ac.o.size aX.o.size;obtain⟨v,B,cK,-,cZ,-⟩:=Ma.aD a1;subst cK;have b7:=af cZ;have ST:=af (xC (w:=U.drew) (base:=w6.heap.size) rfl (by have:=cx.o;omega) (a1.bu 1) dk);have cA:Calls prog 133 #[.slice v I.length B] U.drew fun e J=>∃(l':List iX) (z:Value),e=.returned (.slice v I.length B)/\Hid (l'.Perm I)/\Hid (l'.Pairwise (fun x y=>x.1<=y.1))/\Hid (Ma J v l')/\
       Hid (df J base A Cb (.slice (some ⟨f,0,none⟩) c.length ad) s r L (Di c i) K (al++[true]) (pl++[p]) (n+1) (N+1) O)/\Hid (ay (fun k=>Value.ownBlock (.slice v I.length B)=some k) U J)/\
       J.cell? ⟨A,1,none⟩=some (.slice (some ⟨f,0,none⟩) c.length ad)/\J.cell? ⟨f,i,none⟩=some z/\J.frozen? ⟨f,i,none⟩=false:=by
      refine ST.o.mono ?_;rintro e J ⟨rfl,l',hp,di,da,ab⟩;have ao:=(bf.o.below (aJ _ _).drew).Wv (a1.bu 1) ab;have Q:=ao.gL;have ae:(Di c i).length=c.length:=FK aa;rw[ae]at Q;have ar:=Q.cellAt i aa;rw[bZ (show i<((Di c i).map dU).length by rw[bU];omega)]at ar;have db:J.ownsRow w6.heap.size 204 2 (.slice v I.length B) l'.length (l'.flatMap iM):=by rw[hp.length_eq];exact da
      obtain⟨dv,dB,a6,-,dg⟩:=Ma.aD db;injection a6 with a6 _ _;subst a6;exact⟨l',_,rfl,hp,di,dg.2,ao,((ay.refl _ U).drew).grown ab (fun k m=>.inl m),ao.cell.2.1,ar,Q.frozenAt i⟩
     have c8:(i:Int)<(c.length:Int):=aa;obtain⟨-,em,-⟩:=bf.o.cell
     go_upto_region 20 with fail
     go_region_with (go_at_call 133;(with_reducible refine cA.mono ?_);rintro e J ⟨l',z,rfl,aW,ct,cq,bd,ce,bY,ep,f10⟩)
     all_goals go_wp2_with fail
     all_goals go_ret
     all_goals
      have c6:Value.slice v I.length B=dU (v,l',B):=by unfold dU;simp only;rw[aW.o.length_eq]
      rw[c6];have ae:(Di c i).length=c.length:=FK aa;have bH:bv.ownBlock=some f\/G.heap.size<=f:=by
       rcases aI.o with h9|⟨b,h9,P⟩
       .exact .inl h9.symm
       .have cR:f=b:=by injection h9
        exact .inr aa
      have dS:W.heap.size<=G.heap.size:=bB bC ac.o.size;have bT:∀k,Value.ownBlock (.slice v I.length B)=some k->w6.heap.size<=k:=fun k h=>(aE.o.lt k h).1;have bp:ay (fun k=>(k=A\/bv.ownBlock=some k)\/Value.ownBlock (.slice v I.length B)=some k) G (J.setCell ⟨f,i,none⟩ (dU (v,l',B))):=
       ((aX.o.mono (fun k h=>.inl h)).trans (ce.o.mono (fun k h=>.inr h))).set (a:=⟨f,i,none⟩) _ (by
        rcases bH with h9|h9
        .exact .inl (.inl (.inr h9))
        .exact .inr h9)
      have bo:ay (fun k=>((k=Cb\/cv.ownBlock=some k)\/(k=A\/bv.ownBlock=some k))\/w6.heap.size<=k) w6 (J.setCell ⟨f,i,none⟩ (dU (v,l',B))):=
       (ac.o.mono (fun k h=>.inl (.inl h))).trans (bp.mono (fun k h=>by
        rcases h with h|h
        .exact .inl (.inr h)
        .exact .inr (bT k h)))
      have ap:∀h:i<(ch.map (·.2.1)).length,(ch.map (·.2.1))[i]=[]:=fun h=>by
       have:=ca.o (aQ h);simpa using this
      refine⟨.slice (some ⟨f,0,none⟩) c.length ad,s,r,L,(Di c i).set i (v,l',B),K,O,rfl,(bd.o.Ve ae.symm i (v,l',B)).rep ?_ ?_,?_,?_,?_,?_,?_,cm.o⟩
      .intro h aq;rcases K8 V.o aq with rfl|rfl|h1
       .obtain⟨X,c1⟩:=Ae (k:=c.length) (by have h9:=bd.o.gL;rw[ae]at h9;exact h9);exact⟨cq.o.kept fun b X fr F=>aC (dW c1 F ai),by show l'.length<=B;rw[aW.o.length_eq];exact b7.o⟩
       .exact⟨.inl rfl,aB _⟩
       .refine⟨(R.o.bE h h1).1.kept fun b X fr F=>R.o.core.fe (T:=fun k=>w6.heap.size<=k) (bo.mono (fun k h=>?_)) b X fr F (by have:=(aZ.1 F).1;omega),(R.o.bE h h1).2⟩;rcases h with((h|h)|(h|h))|h
        .exact .inl (.inr (.inl h))
        .exact .inl (.inr (.inr (.inr (.inr (.inr h)))))
        .exact .inl (.inl h)
        .exact .inl (.inr (.inr (.inl h)))
        .exact .inr h
      .refine cr.o _ fun b X fr F aO=>au.o.fe (T:=fun k=>Value.ownBlock (.slice v I.length B)=some k) (bp.mono (fun k h=>?_)) b X fr F aO;rcases h with(h|h)|h
       .exact .inl (.inl h)
       .exact .inl (.inr (.inr (.inl h)))
       .exact .inr h
      .rw[bj.o,RN V.o];refine Oz aj.o id p bM dj i (aQ hi) (fun j bI c3=>?_) ap l' (by rw[cd.o];exact aW.o) ct.o;have:=ck.o j (aQ bI) c3;simpa using this
      .rw[bj.o];exact tQ _ i _ ap
      .rintro k (h|h|h|h|h|h)
       .exact .inl (.inl h)
       .exact .inl (.inr (.inl h))
       .rcases bH with h9|h9
        .exact .inl (.inr (.inr (.inl (h9.trans h))))
        .have P:f=k:=by injection h
         exact .inr aa
       .rcases cp.o with h9|⟨b,h9,P⟩
        .exact .inl (.inr (.inr (.inr (.inl (h9.symm.trans h)))))
        .have bt:b=k:=by rw[h9]at h;injection h
         exact .inr aa
       .rcases cg.o with h9|⟨b,h9,P⟩
        .exact .inl (.inr (.inr (.inr (.inr (.inl (h9.symm.trans h))))))
        .have bt:b=k:=by rw[h9]at h;injection h
         exact .inr aa
       .rcases b9.o with h9|⟨b,h9,P⟩
        .exact .inl (.inr (.inr (.inr (.inr (.inr (h9.symm.trans h))))))
        .have bt:b=k:=by rw[h9]at h;injection h
         exact .inr aa
      .refine ay.strip ((bm.o.mono (fun k h=>.inl h)).trans (bo.mono (fun k h=>?_)));rcases h with((h|h)|(h|h))|h
       .exact .inl (.inr (.inl h))
       .exact .inl (.inr (.inr (.inr (.inr (.inr h)))))
       .exact .inl (.inl h)
       .exact .inl (.inr (.inr (.inl h)))
       .exact .inr aa
      .intro h aq;rcases K8 V.o aq with rfl|rfl|h1
       .exact .inr fun a a9=>by
         have:=bT a.block (by rw[show v=some a from a9];rfl);omega
       .exact .inr fun a a9=>by cases a9
       .exact .inl h1
end
section
variable {W:World} {base A Cb:Nat} {bv pv lv cv:Value} {bh ch:List lH} {al:List Bool} {pl:List Int} {n N wk:Int}
def ko (al:List Bool) (CB:List (List iX)) (m:Nat):List iX:=((CB.drop m).reverse.flatten).filter (dF al)
theorem Nf (al:List Bool) (CB:List (List iX)):ko al CB CB.length=[]:=by unfold ko;rw[List.drop_length];rfl
theorem J5 (al:List Bool) (CB:List (List iX)) (k:Nat) (h:k<CB.length):ko al CB k=ko al CB (k+1)++CB[k].filter (dF al):=by
 unfold ko;rw[lU h,AU,kX,mI];simp
theorem Ng (al:List Bool) (CB:List (List iX)) (m:Nat):(ko al CB m).length<=CB.flatten.length:=by
 unfold ko;refine bB (gD _ _) ?_;rw[((uQ (CB.drop m)).flatten).length_eq];have a:(CB.take m).flatten++(CB.drop m).flatten=CB.flatten:=by rw[<-kX,jD]
 have:=congrArg List.length a;rw[bQ]at this;omega
def J6 (Vt VG:List lH):Prop:=Vt.length<=VG.length/\∀(j:Nat) (h:j<Vt.length) (h':j<VG.length),Vt[j].2.1.Perm VG[j].2.1/\Vt[j].2.1.Pairwise (fun x y=>x.1<=y.1)
theorem J6.step {a b:List lH} (h:J6 a b) {hd:lH} (hi:a.length<b.length) (hp:hd.2.1.Perm b[a.length].2.1) (g:hd.2.1.Pairwise (fun x y=>x.1<=y.1)):J6 (a++[hd]) b:=by
 refine⟨aG,fun j d e=>?_⟩;by_cases c:j<a.length
 .rw[qO c];exact h.2 j c e
 .have f:j=a.length:=by simp at d;omega
  subst f;rw[wm aa];simp only[iP,nE];exact⟨hp,g⟩
theorem J6.done {a b:List lH} (h:J6 a b) (g:a.length=b.length):DT (a.map (·.2.1)) (b.map (·.2.1))/\∀l∈a.map (·.2.1),l.Pairwise fun p q=>p.1<=q.1:=by
 refine⟨⟨aQ g,fun i c d=>?_⟩,fun l k=>?_⟩
 .rw[fO,fO];exact(h.2 i (aQ c) (aQ d)).1
 .obtain⟨hd,e,rfl⟩:=dm.1 k;obtain⟨j,f,rfl⟩:=jk e;exact(h.2 j f aa).2
def Vf (W:World) (base A Cb:Nat) (bv pv lv cv:Value) (ch:List lH) (al:List Bool) (pl:List Int) (n:Int) (e:Ending) (w':World):Prop:=
 ∃(Sq CS:Value) (bh' qW:List lH) (N' Ko:Int),e=.returned (.tuple #[])/\dN w' base A Cb Sq pv lv CS bh' qW al pl n N' Ko/\o6 (qW.map (·.2.1)) (bh'.map (·.2.1)) al pl n N'/\
  (∀id p,gQ (qW.map (·.2.1)).flatten al pl id p↔gQ (ch.map (·.2.1)).flatten al pl id p)/\(∀k,oz A Cb Sq pv lv CS k->oz A Cb bv pv lv cv k\/W.heap.size<=k)/\ay (oz A Cb bv pv lv cv) W w'/\Nw W.heap.size [] bh'/\Nw W.heap.size [] qW
theorem Dj:fV 210:=bY func210 aM rfl
theorem Dk:fV 133:=bY func133 aM rfl
theorem RP (h:dN W base A Cb bv pv lv cv bh ch al pl n N wk) (dw:base<=W.heap.size) (R:wZ (ch.map (·.2.1)) (bh.map (·.2.1)) al pl n N):
  Calls prog 138 #[.pointer (some ⟨A,0,none⟩)] W (Vf W base A Cb bv pv lv cv ch al pl n):=by
 have H:=af h;have aK:=af R;have b2:=R.Sg;have dC:ch.length<=13:=by have:=R.levels.1;simpa using this
 have Z:Hid (∀m,(ko al (ch.map (·.2.1)) m).length<=5000):=fun m=>bB (Ng _ _ _) b2.2.2.2;have I:=af (BN h.fM aa);have dx:=R.bound;obtain⟨aV,-⟩:=h.cell;clear h R b2;go_enter func138,ntmps138
 go_wp2_with fail
 refine I.o.mono ?_;rintro e w2 ⟨rfl,ae⟩;have aM:=af (H.o.below ae);have c9:=ae.size;have cp:=af ae;clear aV I ae
 go_upto_block 0 with fail
 go_cut [2,3,5]from 13 to 40 (fun U z dq cj=>∃lw:Value,lw=U/\Hid (cj.ownsRow w2.heap.size 204 2 lw (ko al (ch.map (·.2.1)) 0).length ((ko al (ch.map (·.2.1)) 0).flatMap iM))/\Hid (Below w2.heap.size w2 cj))
 case first=>
  go_wp2_with fail
  go_loopw [3,2] (fun z U wr=>∃(m:Nat) (lw:Value),z=.int .i64 ((m:Int)-1)/\lw=U/\m<=ch.length/\Hid (wr.ownsRow w2.heap.size 204 2 lw (ko al (ch.map (·.2.1)) m).length ((ko al (ch.map (·.2.1)) m).flatMap iM))/\Below w2.heap.size w2 wr) (fun z _ _=>(intOf z+1).toNat)
  case atStart=>exact⟨ch.length,_,by go_num,rfl,aB _,by have:=Nf al (ch.map (·.2.1));rw[bU]at this;rw[this];exact dA _ _ _ _,aJ _ _⟩
  case round=>
   obtain⟨m,lw,rfl,rfl,dV,HO,g⟩:=hrel;rcases nG m with zQ|zQ
   .subst zQ;have dD:¬(0:Int)<=((0:Nat):Int)-1:=aa;have au:=af g
    go_wp2_with fail
    go_meet;exact⟨_,rfl,HO,au⟩
   .obtain⟨k,rfl⟩:∃k,m=k+1:=⟨m-1,aa⟩;have c5:(((k+1:Nat):Int)-1)=(k:Int):=aa;rw[c5];have dM:(0:Int)<=(k:Int):=aa;have c4:k<(ch.map (·.2.1)).length:=by rw[bU];omega
    have bz:=af (J5 al (ch.map (·.2.1)) k c4);have aT:=af (aM.o.below g);obtain⟨aV,-⟩:=aT.o.cell;have a7:k<ch.length:=aa;have d2:ch[k].2.1.length<=5000:=by
     have:=aK.o.Sg.2.2.2;have C:=qF (l:=ch[k].2.1) (CB:=ch.map (·.2.1)) (dm.2 ⟨_,bF a7,rfl⟩);omega
    have cB:Hid (∀x∈ch[k].2.1,∃k:Nat,x.2=(k:Int)/\k<al.length):=fun x dc=>aK.o.ui x (pK.2 ⟨_,dm.2 ⟨_,bF a7,rfl⟩,dc⟩);have CB:=af (BO aT.o.fM aT.o.cE aa k a7 aa);have cN:Hid (ko al (ch.map (·.2.1)) k=ko al (ch.map (·.2.1)) (k+1)++ch[k].2.1.filter (dF al)):=by
     have:=bz.o;rw[fO]at this;exact this
    clear bz;generalize ch[k].2.1=lk at*;have dR:=Z.o (k+1);have dj:=af (Z.o k);generalize ko al (ch.map (·.2.1)) (k+1)=L at*;obtain⟨ar,cX⟩:∃ar:World,ar=wr:=⟨_,rfl⟩;subst cX;have au:=af g;have cd:=g.size;clear g
    go_wp2_with fail
    refine CB.o.mono ?_;rintro e w3 ⟨di,rfl,D,ag⟩;have da:=ag.size;have E:Hid (Below w2.heap.size w2 w3):=au.o.trans (ag.mono cd);have cC:=af (ak HO.o ag);have cL:Hid (∀f,di.ownBlock=some f->lw.ownBlock≠some f):=fun f e F=>by
     have h1:=(D.lt f e).1;have C:=(HO.o.lt f F).2;omega
    have cD:=af D;obtain⟨bH,P,aZ,-,-,-⟩:=Ma.aD D;subst aZ;clear D ag aV;have dQ:lk.length<=9223372036854775807:=aa;have dB:w2.heap.size<=w3.heap.size:=aa;clear CB
    go_wp2_with fail
    go_loopw [24,2] (fun ba U wr=>∃(j:Nat) (aq:Value),ba=.int .i64 j/\aq=U/\j<=lk.length/\Hid (wr.ownsRow w2.heap.size 204 2 aq (L++(lk.take j).filter (dF al)).length ((L++(lk.take j).filter (dF al)).flatMap iM))/\Hid (wr.ownsRow ar.heap.size 204 2 (.slice bH lk.length P) lk.length (lk.flatMap iM))/\Hid (∀f,Value.ownBlock (.slice bH lk.length P)=some f->aq.ownBlock≠some f)/\Below w2.heap.size w2 wr) (fun ba _ _=>lk.length-(intOf ba).toNat)
    case atStart=>exact⟨0,_,rfl,rfl,aY _,by rw[lL,EE,iO];exact cC,cD,cL,E.o⟩
    case round=>
     obtain⟨j,aq,rfl,rfl,dG,ax,az,aF,ah⟩:=hrel;have db:=ah.size;by_cases am:j<lk.length
     .obtain⟨dn,dp,aX,-,-,b9⟩:=Ma.aD az.o;injection aX with aX _ aZ;subst aX aZ;obtain⟨aU,bb,bI,dy,a4⟩:=b9.Nv.get aa;have ck:=a4 j am 0 aa;have x1:=a4 j am 1 aa;simp only[iM,fI,dz,dI]at ck x1;obtain⟨q,ap,b7⟩:=cB.o lk[j] (bF am);have aS:=aM.o.below ah;obtain⟨d5,lc,bK,-,-,b8⟩:=Rd.aD aS.dK;obtain⟨lb,lo,bJ,dP,b1⟩:=b8.get aa;have cl:=b1 q b7;obtain⟨-,-,-,cm,-⟩:=aS.cell;have O:Hid (L++(lk.take (j+1)).filter (dF al)=(L++(lk.take j).filter (dF al))++(if al[q]=true then[lk[j]]else[])):=by
       show _=_;rw[ik am,mI,<-dY];congr 1;unfold dF;rw[l5,ap];simp only[ib,bZ b7];cases al[q]<;>simp
      have dL:(L++(lk.take j).filter (dF al)).length<=5000+5000:=by
       rw[bQ];have h1:=gD (dF al) (lk.take j);have C:(lk.take j).length<=lk.length:=by rw[eQ];omega
       omega
      have cg:(lk[j]).2=(q:Int):=ap;rw[ap]at x1;have bj:=af bI;have bk:=af bJ;have bl:=af bK;have aL:=af cg;have dk:Hid (lk.length=lk.length):=af rfl;clear a4 bI b1 bJ bK ap cg b8 b9 aS;generalize cY:L++(lk.take j).filter (dF al)=dl at*;generalize c1:al[q]=cS at*;generalize lk[j]=x at*;obtain⟨r,ef⟩:=x;simp only at ck x1 O aL;obtain rfl:=aL.o;obtain rfl:=bj.o;obtain rfl:=bk.o;obtain rfl:=bl.o;clear bj bk bl aL c1 cY;have dH:(j:Int)<(lk.length:Int):=aa;have dW:(q:Int)<(al.length:Int):=aa;have X:Below wr.heap.size wr (wr.alloc (.cells #[.int .u32 r,.int .i64 (q:Int)] 204)):=(aJ _ _).alloc (aB _) _;have bc:(wr.alloc (.cells #[.int .u32 r,.int .i64 (q:Int)] 204)).cell? ⟨wr.heap.size,0,none⟩=some (.int .u32 r):=by rw[eB _ _ _ _ rfl];rfl
      have de:(wr.alloc (.cells #[.int .u32 r,.int .i64 (q:Int)] 204)).cell? ⟨wr.heap.size,1,none⟩=some (.int .i64 (q:Int)):=by rw[eB _ _ _ _ rfl];rfl
      have eg:=(X.cell (p:=⟨lb,lo+q,none⟩) (gX wr _ cl)).trans cl;have eh:=(X.cell (p:=⟨A,3,none⟩) (gX wr _ cm)).trans cm;have aC:=af ((ax.o.alloc (.cells #[.int .u32 r,.int .i64 (q:Int)] 204)).bu 1);have bw:=af ((az.o.alloc (.cells #[.int .u32 r,.int .i64 (q:Int)] 204)).bu 1);have bm:=af ((ah.alloc db (.cells #[.int .u32 r,.int .i64 (q:Int)] 204)).drew);cases cS
      .rw[aN ai,iO]at O;clear X;go_wp2;go_region
       all_goals
        go_wp2;go_roundw
        case rel=>exact⟨j+1,_,by go_num,rfl,aa,by rw[O.o];exact aC,bw,aF,bm.o⟩
        case measure=>exact eO
      .rw[aO rfl]at O;clear X;go_wp2;go_region;have ec:((wr.alloc (.cells #[.int .u32 r,.int .i64 (q:Int)] 204)).drew).cell? ⟨wr.heap.size,0,none⟩=some (.int .u32 r):=bc;have ed:((wr.alloc (.cells #[.int .u32 r,.int .i64 (q:Int)] 204)).drew).cell? ⟨wr.heap.size,1,none⟩=some (.int .i64 (q:Int)):=de
       go_wp2_with (at_builtin;refine cu GA w2.heap.size aC.o [.int .u32 r,.int .i64 q] rfl (by simp[Value.oneCell']) rfl _ _ rfl rfl _ (by show Value.slice (some ⟨wr.heap.size+1,0,none⟩) 1 1=_;simp) dJ aa aG ?_;intro dg w6 c7 b0 c2)
       have cR:Below w2.heap.size w2 w6:=bm.o.grown b0 aG (fun b e=>(aC.o.lt b e).1);have cF:Hid (w6.ownsRow ar.heap.size 204 2 (.slice (some ⟨aU,bb,none⟩) lk.length P) lk.length (lk.flatMap iM)):=by
        refine bw.o.kept b0 ?_;rcases Ir (Value.ownBlock (.slice (some ⟨aU,bb,none⟩) lk.length P))with h9|⟨f,h9⟩
        .exact .inl h9
        .exact .inr (fun e=>aF.o f h9 (e.symm.trans h9))
       have cM:Hid (∀f,Value.ownBlock (.slice (some ⟨aU,bb,none⟩) lk.length P)=some f->dg.ownBlock≠some f):=fun f e F=>by
        have h1:=(az.o.lt f e).2;rcases gJ c2 with h9|⟨b,h9,ad⟩
        .exact aF.o f e (h9.symm.trans F)
        .rw[h9]at F;injection F with F;simp at ad;omega
       go_roundw
       case rel=>exact⟨j+1,_,by go_num,rfl,aa,by rw[O.o,bQ,gZ];exact c7,cF,cM,cR⟩
       case measure=>exact eO
     .obtain rfl:j=lk.length:=aa;rw[jL,<-cN.o]at ax;go_wp2;go_roundw
      case rel=>exact⟨k,_,by go_num,rfl,aa,ax,ah⟩
      case measure=>simp[intOf]
 case rest=>
  obtain⟨lw,rfl,bq,av⟩:=hcut;obtain⟨w3,cW⟩:∃w3:World,w3=wc:=⟨_,rfl⟩;subst cW;have aP:=af (aM.o.below av.o);have E:=af (cp.o.trans (av.o.mono c9));have dO:=Z.o 0;obtain⟨cQ,cT,cU,-,bS,ca⟩:=Ma.aD bq.o;subst cU;have bi:=af (QY aP.o.fM (by have:=E.o.size;omega) cQ (ko al (ch.map (·.2.1)) 0) cT ca bS aa);obtain⟨ci,-⟩:=aP.o.cell;have br:Hid (ko al (ch.map (·.2.1)) 0=((ch.map (·.2.1)).reverse.flatten).filter (dF al)):=af (by unfold ko;rw[kD]);generalize ko al (ch.map (·.2.1)) 0=L at*;clear ca bS av Z bq
  go_wp2_with fail
  refine bi.o.mono ?_;rintro e w4 ⟨aW,d,bg,rfl,bW,cc,ao,a5,a0,b3,-⟩;have J:=af (aP.o.core.add (a0.mono (fun k h=>.inl h)) bW (.inr a5));have bx:=af cc;have cA:=af b3;have bs:=af ao;have cP:=af a5;have aw:=af a0;have du:d.length<=14:=by
   have h1:=congrArg List.length ao;rw[eF,bU]at h1;have C:=fC (a:=L.length) (b:=5000) aa ai;have dr:Lib.bitLen 5000<=14:=ai;omega
  have bA:Hid (∀h∈d,h.2.1.length<=5000):=fun h Q=>by
   have h1:=qF (l:=h.2.1) (CB:=d.map (·.2.1)) (dm.2 ⟨_,Q,rfl⟩);rw[ao]at h1;have C:L.length<2^Lib.bitLen L.length:=by
    by_cases bN:L.length=0
    .rw[bN];decide
    .exact(bC _ aa bN).2.2
   rw[(kN _ L C).length_eq]at h1;omega
  obtain⟨-,dd,-⟩:=J.o.cell;have f1:=J.o.frozen 1;clear bW cc ao a5 a0 ci bi b3;have Y:Hid (df (w4.setCell ⟨A,1,none⟩ (.slice none 0 0)) base A Cb (.slice none 0 0) pv lv aW [] d al pl n L.length bg):=J.o.P5 (bh':=[]) (bM (aJ _ _)|>fun h=>⟨h.os,h.tape,h.output,h.size,fun k G _=>rfl⟩) (dA _ _ _ _) (.inr (.inl rfl));have bo:Hid (ay (fun k=>k=A) w4 (w4.setCell ⟨A,1,none⟩ (.slice none 0 0))):=(ay.refl (fun k=>k=A) w4).set (a:=⟨A,1,none⟩) _ (.inl rfl);have I:=af (BN Y.o.fM aa);obtain⟨bc,-⟩:=Y.o.cell
  go_wp2_with fail
  generalize w4.setCell ⟨A,1,none⟩ (.slice none 0 0)=ee at*;refine I.o.mono ?_;rintro e w6 ⟨rfl,a1⟩;have cs:=af (Y.o.below a1);have cy:Hid (ay (fun k=>k=A) w4 w6):=bo.o.below a1;clear bc dd f1 I a1 Y bo
  go_wp2_with fail
  go_loopw [55] (fun z wr=>∃(s:Value) (c:List lH),z=.int .i64 c.length/\Hid (df wr base A Cb s pv lv aW c d al pl n L.length bg)/\Hid (J6 c d)/\Hid (Nw W.heap.size [] c)/\Hid (jX wr c)/\Hid (s.ownBlock=none\/∃b,s.ownBlock=some b/\w4.heap.size<=b)/\Hid (ay (fun k=>k=A) w4 wr)) (fun z _=>d.length-(intOf z).toNat)
  case atStart=>exact⟨.slice none 0 0,[],rfl,cs,⟨aY _,fun j h=>absurd h (kC _)⟩,Nw.SL (k:=0),(fun h Q=>absurd Q iC),.inl rfl,cy⟩
  case round=>
   obtain⟨s,c,rfl,i,aH,bt,aE,aI,K⟩:=hrel;by_cases an:c.length<d.length
   .have cI:Hid (jX wr d):=bx.o.kept fun b v fr g=>J.o.fe (T:=fun _=>False) (K.o.mono fun k h=>.inl (.inl h)) b v fr g (fun h=>h);have cn:=af (BO (W:=wr.drew) (i.o.below (aJ _ _).drew).fM (cI.o.kept fun b v fr g=>rfl) aa c.length an (bB (bA.o _ (bF an)) ai));have cO:Hid (∀hd:lH,hd.2.1.Perm d[c.length].2.1->hd.2.1.Pairwise (fun x y=>x.1<=y.1)->J6 (c++[hd]) d):=fun hd h1 C=>aH.o.step an h1 C;have d1:=bA.o _ (bF an);generalize d[c.length].2.1=lb at*;obtain⟨ci,d3,-⟩:=i.o.cell;have d4:∀o,wr.frozen? ⟨A,o,none⟩=false:=i.o.frozen;have bO:=i.o.lt;have dS:(c.length:Int)<(d.length:Int):=aa;have dZ:=K.o.size;have dv:W.heap.size<=w4.heap.size:=bB E.o.size aw.o.size;have c6:Hid (s.ownBlock≠some A):=fun e=>bn i.o.gL i.o.blk ai _ e rfl
    go_wp2_with fail
    go_region_law (first
     |(refine bf (vals:=#[.pointer (some ⟨Cb,0,none⟩),.int .i64 c.length]) Dj rfl _ _ rfl rfl cn.o ?_
       rintro e bd ⟨dh,rfl,b5,a2⟩;refine⟨_,rfl,?_⟩;have cf:=a2.size;have ds:A<bd.heap.size:=(by(have h9:wr.heap.size<=bd.heap.size:=cf);omega);obtain⟨d8,d9⟩:=cz ((ay.refl (fun _=>False) wr.drew).below a2) (b:=A) bO (fun h=>h))
     |(refine bf (vals:=#[dh]) Dk rfl _ _ rfl rfl (xC (w:=bd) (base:=wr.heap.size) rfl aa b5 cf) ?_
       rintro e V ⟨rfl,l',b6,ce,a8,c3⟩;refine⟨_,rfl,?_⟩;have cH:=af b6;have cK:=af ce;have ab:ay (fun _=>False) wr V:=ay.strip (((ay.refl _ wr).drew.below a2).grown c3 (fun k G=>.inl (.inr (b5.lt k G).1)));have M:=af ab;obtain⟨ea,eb⟩:=cz ab (b:=A) bO (fun h=>h);have dX:=ab.size;have dt:A<V.heap.size:=aa;obtain⟨t,u,cV,-,bT,cb⟩:=Ma.aD a8;have ct:=af bT;have cJ:=af cb;subst cV;have co:Hid (∀a,t=some a->W.heap.size<=a.block):=fun a c0=>(by have h1:=(a8.lt a.block (by rw[c0];rfl)).1;omega);clear b6 ce ab a8 bT cb)
     |(refine bD KA base (aR (S:=fun _=>False) i.o.gL (M.o.alloc _) (fun _ _ h=>h)) [.slice t l'.length u] rfl (by simp[Value.oneCell']) rfl (.tmp 62) (.tmp 70) rfl rfl _ rfl (by first|exact bV _ _|exact kY _ _) dJ aa aG ?_
       intro B ac be D a6 bR dT;have cG:=af D;have cr:=af bR;obtain⟨d6,d7⟩:=cz ((ay.refl (fun k=>s.ownBlock=some k) _).grown a6 (fun k G=>.inl G)) (b:=A) (by first|(simp;done)|(simp;omega)) (fun e=>c6.o e);clear D bR))
    all_goals
     have aj:=i.o.below (M.o.toBelow (aB _) (fun k h=>h.elim));have bX:=aj.below ((aJ _ _).alloc (aB _) (.cells #[.slice t l'.length u] 209));have b4:be.ownsRow base 209 1 (.slice (some ⟨B,0,none⟩) (c.length+1) ac) (c++[(t,l',u)]).length ((c++[(t,l',u)]).map dU):=by
      rw[bQ,bL];exact cG.o
     have a3:Value.ownBlock (.slice (some ⟨B,0,none⟩) (c.length+1) ac)=s.ownBlock\/(V.alloc (.cells #[.slice t l'.length u] 209)).heap.size<=B:=by
      rcases cr.o with h9|h9
      .exact .inl h9.symm
      .exact .inr (by rw[h9];first|exact aB _|simp)
     have cw:=af (bX.P5 a6 b4 (a3.imp (fun h=>h) (fun h=>.inr ⟨B,rfl,h⟩)));have cq:=af a3;have bE:ay (fun k=>k=A\/s.ownBlock=some k) V (be.setCell ⟨A,1,none⟩ (.slice (some ⟨B,0,none⟩) (c.length+1) ac)):=(((ay.refl _ V).alloc _).grown a6 (fun k G=>.inl (.inr G))).set (a:=⟨A,1,none⟩) _ (.inl (.inl rfl));have bp:=af bE;clear aj bX b4 a3 bE;go_wp2;go_roundw
     case rel=>
      have aj:=i.o.below (M.o.toBelow (aB _) (fun k h=>h.elim));have d0:=M.o.size;have bG:ay (fun k=>k=A\/s.ownBlock=some k) wr (be.setCell ⟨A,1,none⟩ (.slice (some ⟨B,0,none⟩) (c.length+1) ac)):=(M.o.mono (fun k h=>h.elim)).trans bp.o;refine⟨_,c++[(t,l',u)],aA,cw.o,cO.o (t,l',u) cH.o cK.o,bt.o.snoc co.o,?_,?_,?_⟩
      .intro h Q;rcases bP.1 Q with h1|h1
       .exact⟨(aE.o h h1).1.kept fun b v fr g=>i.o.fe (T:=fun _=>False) (bG.mono fun k h=>.inl (h.imp id (fun h=>.inr (.inl h)))) b v fr g (fun h=>h),(aE.o h h1).2⟩
       .obtain rfl:h=(t,l',u):=aQ h1;exact⟨cJ.o.kept fun b v fr g=>aj.fe (T:=fun _=>False) (bp.o.mono fun k h=>.inl (h.imp id (fun h=>.inr (.inl h)))) b v fr g (fun h=>h),ct.o⟩
      .rcases cq.o with h9|h9
       .rw[h9];exact aI.o
       .exact .inr ⟨B,rfl,by simp at h9;omega⟩
      .refine ay.strip ((K.o.mono (fun k h=>.inl h)).trans (bG.mono (fun k h=>?_)));rcases h with h|h
       .exact .inl h
       .rcases aI.o with h9|⟨b,h9,ad⟩
        .rw[h9]at h;cases h
        .rw[h9]at h;injection h with h;exact .inr aa
     case measure=>exact eO
   .have bY:c.length=d.length:=by have:=aH.o.1;omega
    have hd:decide ((c.length:Int)<(d.length:Int))=false:=aG;have dE:¬(c.length:Int)<(d.length:Int):=aa;have cx:=af bY;clear bY;go_wp2
    go_end0
    have cZ:jX wr d:=bx.o.kept fun b v fr g=>J.o.fe (T:=fun _=>False) (K.o.mono fun k h=>.inl (.inl h)) b v fr g (fun h=>h);obtain⟨hp,c8⟩:=aH.o.done cx.o;have a9:=KE aK.o (NB':=c.map (·.2.1)) (by rw[<-br.o,<-bs.o];exact hp) c8;rw[<-br.o,<-bs.o]at a9;have cd:=E.o.size;have da:=aw.o.size;refine⟨s,aW,c,d,_,bg,rfl,i.o.rep aE.o cZ,a9.1,a9.2,?_,?_,bt.o,Nw.refl.trans cA.o aa⟩
    .rintro k (h|h|h|h|h|h)
     .exact .inl (.inl h)
     .exact .inl (.inr (.inl h))
     .rcases aI.o with h9|⟨b,h9,ad⟩
      .rw[h9]at h;cases h
      .rw[h9]at h;injection h with h;exact .inr aa
     .exact .inl (.inr (.inr (.inr (.inl h))))
     .exact .inl (.inr (.inr (.inr (.inr (.inl h)))))
     .rcases cP.o with h9|⟨b,h9,ad⟩
      .rw[h9]at h;cases h
      .rw[h9]at h;injection h with h;exact .inr aa
    .exact(((ay.refl (oz A Cb bv pv lv cv) W).below E.o).trans (aw.o.mono (fun k h=>.inr (.inl h)))).trans (K.o.mono (fun k h=>.inl h))
end
section
variable {W:World} {base A Cb:Nat} {bv pv lv cv:Value} {bh ch:List lH} {al:List Bool} {pl:List Int} {n N wk:Int}
def P6 (t:TypeId):Bool:=t==207||t==290||t==209||t==3||t==4
theorem zi (a:dN W base A Cb bv pv lv cv bh ch al pl n N wk):∀k,oz A Cb bv pv lv cv k->∃cs t fr,W.heap[k]? =some (Obj.cells cs t fr)/\P6 t=true:=by
 have d:∀{e:TypeId} {sz:Nat} {v:Value} {n:Nat} {xs:List Value} {k:Nat},W.ownsRow base e sz v n xs->v.ownBlock=some k->∃b,W.heap[k]? =some (Obj.cells b e (0,0)):=by
  intro e sz v n xs k a f;rcases a.2 with⟨rfl,_⟩|⟨g,l,b,rfl,_,i,_⟩
  .cases f
  .simp only[Value.ownBlock,jl]at f;subst f;exact⟨b,i⟩
 intro k j;rcases j with h|h|h|h|h|h
 .exact⟨_,_,_,h▸a.blk,ai⟩
 .exact⟨_,_,_,h▸a.fM.blk,ai⟩
 .obtain⟨b,c⟩:=d a.gL h;exact⟨_,_,_,c,ai⟩
 .obtain⟨b,c⟩:=d a.iD h;exact⟨_,_,_,c,ai⟩
 .obtain⟨b,c⟩:=d a.dK h;exact⟨_,_,_,c,ai⟩
 .obtain⟨b,c⟩:=d a.fM.row h;exact⟨_,_,_,c,ai⟩
theorem J7 (h:dN W base A Cb bv pv lv cv bh ch al pl n N wk) (f:o6 (ch.map (·.2.1)) (bh.map (·.2.1)) al pl n N) (id:Int) (F:∀p,¬gQ (ch.map (·.2.1)).flatten al pl id p):
  Calls prog 58 #[.pointer (some ⟨A,0,none⟩),.int .u32 id] W fun e w'=>e=.returned (.tuple #[.int .i64 0,.bool false])/\Below W.heap.size W w':=by
 have r:=af (DR h);have H:=af h;have i:=f.Sg;have u:=af (fun W' (a:Below W.heap.size W W')=>o5 A id W' _ bh bv base ((h.below a).cell.2.1) (h.below a).gL rfl (h.below a).bE f.sorted (by have:=i.1;simp at this;omega) (fun l D=>by have:=i.2.2.1 l D;omega));have c:=af f;go_enter func58,ntmps58
 go_wp2_with fail
 refine r.o.mono ?_;rintro e w2 ⟨rfl,d⟩
 go_wp2_with fail
 refine(u.o w2 d).mono ?_;rintro e w3 ⟨k,t,rfl,ht,C,z⟩;have b:=d.trans (z.mono d.size);obtain⟨-,-,-,O,-⟩:=(H.o.below b).cell;rcases C with⟨y,g,w,rfl⟩|⟨rfl,-⟩
 .rw[fU c.o.perm]at g;have⟨m,j,q⟩:=c.o.ui y g;obtain⟨K,L,rfl,-,-,G⟩:=Rd.aD (H.o.below b).dK;obtain⟨J,M,v,-,x⟩:=G.get aa;have I:=x m q;have B:al[m]=false:=by
   cases a:al[m]with
   |false=>rfl
   |true=>
    have E:m<pl.length:=by have:=c.o.len;omega
    exact absurd ⟨m,by rw[<-w,<-j];exact g,by rw[bZ q,a],bZ E⟩ (F pl[m])
  rw[B]at I;have s:=af v;rw[j];obtain rfl:=s.o;have Q:(m:Int)<(al.length:Int):=aa;have P:decide ((m:Int)<0)=false:=aA;go_wp2;go_ret2;exact⟨rfl,b⟩
 .go_wp2;go_ret2;exact⟨rfl,b⟩
def T9 (W:World) (base A Cb:Nat) (bv pv lv cv:Value) (bh ch:List lH) (al:List Bool) (pl:List Int) (n:Int) (k:Nat) (p:Int) (e:Ending) (w':World):Prop:=
 ∃(Sq CS:Value) (bh' qW:List lH) (N' Ko:Int),e=.returned (.tuple #[.int .i64 p,.bool true])/\dN w' base A Cb Sq pv lv CS bh' qW (al.set k false) pl (n-1) N' Ko/\o6 (qW.map (·.2.1)) (bh'.map (·.2.1)) (al.set k false) pl (n-1) N'/\
  (∀id p,gQ (qW.map (·.2.1)).flatten (al.set k false) pl id p↔gQ (ch.map (·.2.1)).flatten (al.set k false) pl id p)/\(∀k,oz A Cb Sq pv lv CS k->oz A Cb bv pv lv cv k\/W.heap.size<=k)/\ay (oz A Cb bv pv lv cv) W w'/\Nw W.heap.size bh bh'/\Nw W.heap.size ch qW
theorem H7 (h:dN W base A Cb bv pv lv cv bh ch al pl n N wk) (a5:base<=W.heap.size) (r:o6 (ch.map (·.2.1)) (bh.map (·.2.1)) al pl n N) (id p:Int) (m:Nat) (V:(id,(m:Int))∈(ch.map (·.2.1)).flatten) (B:al[m]? =some true) (hp:pl[m]? =some p):
  Calls prog 58 #[.pointer (some ⟨A,0,none⟩),.int .u32 id] W (T9 W base A Cb bv pv lv cv bh ch al pl n m p):=by
 have ai:=af (DR h);have H:=af h;have U:=r.Sg;have ak:=af (fun W' (G:Below W.heap.size W W')=>o5 A id W' _ bh bv base ((h.below G).cell.2.1) (h.below G).gL rfl (h.below G).bE r.sorted (by have:=U.1;simp at this;omega) (fun l aP=>by have:=U.2.2.1 l aP;omega));have E:=af r;have be:1<=n/\n<=5000:=by
  have Q:=r.cnt;have S:al.count true<=al.length:=Em;have a3:=r.bound;have⟨X,aS⟩:=fq.1 B;have a6:0<al.count true:=List.count_pos_iff.2 (aS▸bF X);omega
 have M:=af (KD r m B);go_enter func58,ntmps58
 go_wp2_with fail
 refine ai.o.mono ?_;rintro e w2 ⟨rfl,I⟩
 go_wp2_with fail
 refine(ak.o w2 I).mono ?_;rintro e w3 ⟨k,t,rfl,ht,u,aL⟩;have K:=af (I.trans (aL.mono I.size));have s:=af (H.o.below K.o);have⟨aC,aY,aD,aZ,aE⟩:=s.o.cell;have aO:k=(m:Int):=by
  rcases u with⟨y,Z,Q,S⟩|⟨-,aV⟩
  .rw[fU E.o.perm]at Z;have:=mE E.o.ids Z V (aQ Q);rw[<-S,this]
  .exact absurd rfl (aV _ ((fU E.o.perm _).2 V))
 subst aO;obtain⟨X,-⟩:=fq.1 B;obtain⟨bd,-⟩:=fq.1 hp;obtain⟨b,f,aF,a7,a8,-,-⟩:=aU s.o.dK aa;subst aF;have ac:=s.o.dK.cellAt m aa;rw[iB,B]at ac;simp only[fQ]at ac;have a1:=s.o.dK.frozenAt m;have F:=af (s.o.Tk rfl m false);have⟨d0,d1,d2,d3,d4⟩:=F.o.cell;have f4:=F.o.frozen 4;have z:=af (F.o.Tj (n-1));have ap:Hid (ay (oz A Cb bv pv (.slice (some ⟨b,0,none⟩) al.length f) cv) W ((w3.setCell ⟨b,m,none⟩ (.bool false)).setCell ⟨A,4,none⟩ (.int .i64 (n-1)))):=
  (((ay.refl _ W).below K.o).set (a:=⟨b,m,none⟩) _ (.inl (.inr (.inr (.inr (.inr (.inl rfl))))))).set (a:=⟨A,4,none⟩) _ (.inl (.inl rfl))
 have bb:(m:Int)<(al.length:Int):=aa;have bc:(m:Int)<(pl.length:Int):=aa;have a0:decide ((m:Int)<0)=false:=aA;have Y:(-9223372036854775808:Int)<=n-1/\n-1<=9223372036854775807:=aa;have aw:=af hp
 go_upto_region 8 with fail
 generalize(w3.setCell ⟨b,m,none⟩ (.bool false)).setCell ⟨A,4,none⟩ (.int .i64 (n-1))=J at*
 go_cut [51]from 41 to 50 (fun tv w=>tv=.bool (decide (2*(n-1)<N))/\Hid (dN w base A Cb bv pv (.slice (some ⟨b,0,none⟩) al.length f) cv bh ch (al.set m false) pl (n-1) N wk)/\Hid (ay (oz A Cb bv pv (.slice (some ⟨b,0,none⟩) al.length f) cv) W w))
 case first=>
  obtain⟨aC,-,-,-,aE⟩:=z.o.cell;have ag:=af (QW (z.o.below (aJ _ _).drew).fM);have a4:(-9223372036854775808:Int)<=2*(n-1)/\2*(n-1)<=9223372036854775807:=aa;have ah:Hid (Calls prog 137 #[.pointer (some ⟨Cb,0,none⟩)] J.drew fun e d=>e=.returned (.int .i64 N)/\Hid (Below J.drew.heap.size J.drew d)/\d.cell? ⟨A,0,none⟩=some (.pointer (some ⟨Cb,0,none⟩))/\d.cell? ⟨A,4,none⟩=some (.int .i64 (n-1))):=af (by
   refine ag.o.mono ?_;rintro e d ⟨rfl,T⟩;obtain⟨O,-,-,-,P⟩:=((z.o.below (aJ _ _).drew).below T).cell;exact⟨rfl,T,O,P⟩)
  go_region_with (go_at_call 137;(with_reducible refine ah.o.mono ?_);rintro e d ⟨rfl,L,O,P⟩)
  all_goals
   have x:=af ((z.o.below (aJ _ _).drew).below L.o)
   go_wp2_with fail
   go_meet;exact⟨by rw[show IntKind.i64.wrap (2*(n-1))=2*(n-1)from x8 _ aa],x,(ap.o.drew).below L.o⟩
 case rest=>
 obtain⟨rfl,x,g⟩:=hcut;obtain⟨d,aH⟩:∃d:World,d=wc:=⟨_,rfl⟩;subst aH;generalize aM:decide (2*(n-1)<N)=dg;have aj:=af aM
 go_upto_if 51 with fail
 go_cut []from 51 to 53 (fun w=>∃(j q:Value) (bh' c:List lH) (i v:Int),Hid (dN w base A Cb j pv (.slice (some ⟨b,0,none⟩) al.length f) q bh' c (al.set m false) pl (n-1) i v)/\Hid (o6 (c.map (·.2.1)) (bh'.map (·.2.1)) (al.set m false) pl (n-1) i)/\
  Hid (∀id p,gQ (c.map (·.2.1)).flatten (al.set m false) pl id p↔gQ (ch.map (·.2.1)).flatten (al.set m false) pl id p)/\Hid (∀k,oz A Cb j pv (.slice (some ⟨b,0,none⟩) al.length f) q k->oz A Cb bv pv (.slice (some ⟨b,0,none⟩) al.length f) cv k\/W.heap.size<=k)/\Hid (ay (oz A Cb bv pv (.slice (some ⟨b,0,none⟩) al.length f) cv) W w)/\Hid (Nw W.heap.size bh bh')/\Hid (Nw W.heap.size ch c))
 case first=>
  cases dg
  .have au:Hid (N<=2*(n-1)):=af (by have:=aj.o;simp at this;omega)
   go_wp2_with fail
   go_meet;exact⟨bv,cv,bh,ch,N,wk,x,⟨M.o,au.o⟩,fun _ _=>Iff.rfl,fun k u=>.inl u,g,Nw.refl,Nw.refl⟩
  .have ae:=af (RP x.o (by have:=g.o.size;omega) M.o)
   go_wp2_with fail
   refine ae.o.mono ?_;rintro e bg ⟨j,q,bh',c,i,v,rfl,aW,aX,aN,aR,aK,Y,aT⟩;have C:=af Y;have D:=af aT;have ax:=af aW;have aB:=af aX;have am:=af aN;have ar:=af aR;have aq:=af aK
   go_wp2_with fail
   go_meet;exact⟨j,q,bh',c,i,v,ax,aB,am,fun k u=>(ar.o k u).imp (fun h=>h) (fun h=>by have:=g.o.size;omega),g.o.trans aq.o,Nw.nil C.o g.o.size,Nw.nil D.o g.o.size⟩
 case rest=>
  have⟨j,q,bh',c,i,v,R,az,an,av,ao,C,D⟩:=hcut;obtain⟨ab,aI⟩:∃ab:World,ab=wc:=⟨_,rfl⟩;subst aI;obtain⟨-,-,aD,-,-⟩:=R.o.cell;obtain⟨a2,bf,aG,a9,ba,-,-⟩:=aU R.o.iD aa;subst aG;have ad:=R.o.iD.cellAt m aa;rw[iB,aw.o]at ad;simp only[fQ]at ad;go_wp2;go_ret2;exact⟨j,q,bh',c,i,v,rfl,R.o,az.o,an.o,av.o,ao.o,C.o,D.o⟩
end
end
end Go.Proofs.YtkjdbndekceffaaGreat
