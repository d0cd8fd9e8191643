/- Made small by a program. -/
import Derived.Test.YtkjdbndekceffaaGreatV16
set_option linter.unusedSimpArgs false
set_option linter.unusedVariables false
set_option maxRecDepth 100000
set_option maxHeartbeats 16000000
namespace Go.Proofs.YtkjdbndekceffaaGreat
open Tryz
section
open Go.RowKit Go.Sort Go.Shelf Go.Lib Go.Maps
attribute [local irreducible] wpQuiet
theorem Ot:eU 150:=bP func150 aL rfl
theorem GA:eU 153:=bP func153 aL rfl
theorem QY (l:List Int):l.map (Value.int .u32)=l.flatMap fun x=>[ak x]:=by
 induction l with
 |nil=>rfl
 |cons x l ih=>simp[ih]
theorem QZ {fn:FuncId} {cs:Array Value} (W:∀args w,(callFunc fn args).run prog w=.ok (.enter fn args) w) {u:World} {r ob tb:Nat} {m:Value} {b R:List Int} {base:Nat} {bd:Nat->Prop} (X:u.cell? (ag r 0)=some (.func (.func fn) #[] cs)) (y:u.heap[ob]? =some (Obj.cells #[m] 35 (0,0))) (ab:ob<base) (Y:base<=u.heap.size) (z:u.ownsRow base 27 1 m b.length (b.map (Value.int .u32))) (Z:b.length+R.length<=1000000)
  (M:aK fn (#[aj tb]++cs) u fun e d=>∃(v:Value) (c:Nat),e=.returned (.tuple #[v,ae (c:Nat)])/\bd c/\d.ownsRow u.heap.size 27 1 v R.length (R.map (Value.int .u32))/\Below u.heap.size u d):
  aK 150 #[aj tb,aj r,aj ob] u fun e d=>∃c:Nat,e=.returned (ae (c:Nat))/\bd c/\∃A,d.heap[ob]? =some (Obj.cells #[A] 35 (0,0))/\d.ownsRow base 27 1 A (b++R).length ((b++R).map (Value.int .u32))/\aB (fun k=>k=ob\/m.ownBlock=some k) u d:=by
 have C:=af M;have HO:=af y;have p:=af z;obtain⟨i,j,rfl,-,-,-⟩:=Rd.aD z;have ac:=(bg.1 y).1;go_enter func150,ntmps150
 go_wp2_with fail
 refine C.o.mono ?_;rintro e u1 ⟨v,c,rfl,K,P,I⟩;have B:=af K;have E:=af P;have f:=af I;obtain⟨U,V,rfl,-,-,S⟩:=Rd.aD E.o;have G:=af (Rd.WT (show Rd (.int .u32) u1 U R from S));have n:=af ((aP f.o HO.o).trans HO.o);have F:=af (az p.o f.o);have ad:=f.o.size;have al:u1.cell? (ag ob 0)=some (.slice i b.length j):=ek n.o;have N:b.length+R.length<=maxLen:=dE;have O:(b.length+R.length)*4<=140737488355328:=aa;have L:base<=u1.heap.size:=aa;have D:Hid (Value.ownBlock (.slice i b.length j)≠some ob):=fun e=>by have:=(p.o.lt ob e).1;omega
 go_wp2_with (at_builtin;go_loud (refine jl vg (enc:=fun x=>[ak x]) (fun _=>rfl) (fun x u hu=>by simp at hu;subst hu;rfl) base F.o G.o rfl _ _ rfl rfl V rfl N O L ?_;intro T u6 Q t;have l:=(t.block ob aa (fun e=>D.o e.symm)).trans n.o;have ah:u6.cell? (ag ob 0)=some (.slice i b.length j):=(ek l);have ai:u6.frozen? (ag ob 0)=false:=(aI l);have g:u6.ownsRow base 27 1 T (b++R).length ((b++R).map (Value.int .u32)):=(by rw[bJ,bQ,QY R];exact Q);obtain⟨q,s,rfl,-,-,-⟩:=Rd.aD g))
 go_ret;rw[bQ]at g;have J:(u6.setCell (ag ob 0) (.slice q (b.length+R.length) s)).heap[ob]? =some (Obj.cells #[.slice q (b.length+R.length) s] 35 (0,0)):=by
  rw[dC u6 ob 0 _ _ _ l];rfl
 refine⟨c,rfl,B.o,_,J,?_,((((aB.refl (fun k=>k=ob\/Value.ownBlock (.slice i b.length j)=some k) u).below f.o).grown t fun k e=>.inl (.inr e))).set (a:=(ag ob 0)) _ (.inl (.inl rfl))⟩;rw[bQ];exact aU g ((aB.refl (fun k=>k=ob) u6).set (a:=(ag ob 0)) _ (.inl rfl)) (fun H e h=>by have:=(g.lt H e).1;omega)
theorem I7 {fn:FuncId} {cs:Array Value} (s:∀args w,(callFunc fn args).run prog w=.ok (.enter fn args) w) {u:World} {g ob tb:Nat} {b r:Nat} {bd:Nat->Prop} (t:u.cell? (ag g 0)=some (.func (.func fn) #[] cs)) (q:u.heap[ob]? =some (Obj.cells #[ae (b:Nat)] 3 (0,0))) (v:b+r<=1000000)
  (p:aK fn (#[aj tb]++cs) u fun e d=>∃c:Nat,e=.returned (.tuple #[ae (r:Nat),ae (c:Nat)])/\bd c/\Below u.heap.size u d):
  aK 153 #[aj tb,aj g,aj ob] u fun e d=>∃c:Nat,e=.returned (ae (c:Nat))/\bd c/\d.heap[ob]? =some (Obj.cells #[ae (b+r:Nat)] 3 (0,0))/\aB (fun k=>k=ob) u d:=by
 have l:=af p;have HO:=af q;go_enter func153,ntmps153
 go_wp2_with fail
 refine l.o.mono ?_;rintro e u1 ⟨c,rfl,n,h⟩;have j:=af n;have f:=(aP h HO.o).trans HO.o;have m:=af f;have i:=af h;have y:u1.cell? (ag ob 0)=some (ae (b:Nat)):=ek f;have f1:u1.frozen? (ag ob 0)=false:=aI f;have x:IntKind.i64.wrap ((b:Int)+(r:Int))=((b+r:Nat):Int):=by rw[BZ _ aa];omega
 go_wp2;go_ret;refine⟨c,rfl,j.o,?_,((aB.refl (fun k=>k=ob) u).below i.o).set (a:=(ag ob 0)) _ (.inl rfl)⟩;rw[dC u1 ob 0 _ _ _ m.o,show((b+r:Nat):Int)=(b:Int)+(r:Int) by omega];rfl
section
variable {w:World} {Pb Hb:Nat} {dv av:Value} {eT:Int} {GH:Nat->Prop} {m:Nat} {A:List fB} {N wk:Int}
structure DC (w w1:World) (GH:Nat->Prop) (A:List fB) (N:Int) (B:List (Nat×Nat×List Pt)) (F:Nat->Nat->Prop):Prop where
 below:Below w.heap.size w w1
 wd:nS w1 GH F B
 perm:(ja B).Perm (A.map (·.1))
 log:B.length≠0->(2:Int)^(B.length-1)<=N
 built:∀b∈B,(b.2.1:Int)<=N/\b.2.1<=20000
 few:B.length<=13
def Xo (w:World) (GH:Nat->Prop) (fn:FuncId) (cs:Array Value) (B:List (Nat×Nat×List Pt)) (F:Nat->Nat->Prop) (R:Nat->List Int) (bd:Nat->Nat->Prop):Prop:=
 ∀(i:Nat) (hi:i<B.length) (u:World),Below w.heap.size w u->nS u GH F B->aK fn (#[aj (B[i].1)]++cs) u fun e u'=>∃(v:Value) (c:Nat),e=.returned (.tuple #[v,ae (c:Nat)])/\bd i c/\u'.ownsRow u.heap.size 27 1 v (R i).length ((R i).map (Value.int .u32))/\Below u.heap.size u u'
def Ws (w:World) (Pb Hb:Nat) (dv av:Value) (eT:Int) (Q:List Int->Nat->Prop) (e:Ending) (w':World):Prop:=
 ∃(v:Value) (L:List Int) (uY:Nat),e=.returned (.tuple #[v,ae uY])/\w'.ownsRow w.heap.size 27 1 v L.length (L.map (Value.int .u32))/\Q L uY/\aB (fun k=>k=Pb) w w'/\w'.heap[Pb]? =some (Obj.cells #[aj Hb,dv,av,ae (wrap64 (eT+uY))] yz (0,0))
theorem GD {R:Nat->List Int} {b:Nat} (h:∀i,(R i).length<=b):∀i,((List.range i).flatMap R).length<=i*b
 |0=>ax
 |i+1=>by
  have e:([i].flatMap R).length=(R i).length:=ax;rw[qB,gZ,bQ,Nat.succ_mul,e];have a:=GD h i;have c:=h i;omega
theorem Bj {r:Nat->Nat} {b:Nat} (h:∀i,r i<=b):∀i,((List.range i).map r).sum<=i*b
 |0=>ax
 |i+1=>by
  have e:([i].map r).sum=r i:=ax;rw[qB,bJ,sS,Nat.succ_mul,e];have a:=Bj h i;have c:=h i;omega
theorem Tp {fn:FuncId} {cs:Array Value} {Q:List Int->Nat->Prop} (ai:∀args w,(callFunc fn args).run prog w=.ok (.enter fn args) w) (G:w.heap[Pb]? =some (Obj.cells #[aj Hb,dv,av,ae eT] yz (0,0))) (h:jM w Hb GH m A N wk) (al:∀k,GH k->k<w.heap.size)
  (aq:∀w1 B F,DC w w1 GH A N B F->∃R bd,(∀i t,bd i t->t<=1000000)/\(∀i,(R i).length<=20000)/\Xo w GH fn cs B F R bd/\∀n,SumB bd B.length n->Q (dh ((List.range B.length).flatMap R)) n):
  aK 65 #[aj Pb,.func (.func fn) #[] cs] w (Ws w Pb Hb dv av eT Q):=by
 have aW:=(bg.1 G).1;have T:aB (fun _=>False) w ((w.alloc (.cells #[.func (.func fn) #[] cs] 121)).alloc (.cells #[aM] 35)):=((aB.refl _ w).alloc _).alloc _;have C:=FR w (.cells #[.func (.func fn) #[] cs] 121) (.cells #[aM] 35);have U:=Ci w (.cells #[.func (.func fn) #[] cs] 121) (.cells #[aM] 35);have s:Below w.heap.size w ((w.alloc (.cells #[.func (.func fn) #[] cs] 121)).alloc (.cells #[aM] 35)):=((aJ _ _).alloc (aA _) _).alloc ax _;have aS:((w.alloc (.cells #[.func (.func fn) #[] cs] 121)).alloc (.cells #[aM] 35)).heap.size=w.heap.size+2:=ax;have H:=bu T G (fun h=>h);have V:=af (Gz (Sx:=fun k=>k=w.heap.size+1) (cs:=#[aj w.heap.size,aj (w.heap.size+1)]) (Q:=fun B f u=>∃(L:List Int) (d:Value),u.heap[w.heap.size+1]? =some (Obj.cells #[d] 35 (0,0))/\u.ownsRow w.heap.size 27 1 d L.length (L.map (Value.int .u32))/\w.heap.size+2<=u.heap.size/\(∀l,d.ownBlock=some l->w.heap.size+2<=l)/\L.length<=1000000/\Q (dh L) f) Ot H (h.kept T (fun _ _ h=>h)) (fun k I=>by rw[aS];omega) (fun w1 B F p E aI aE aF D=>by
  have⟨R,bd,aw,x,ak,v⟩:=aq w1 B F ⟨s.trans (p.mono aa),E,aI,aE,aF,D⟩;have aY:=p.size;have ah:=(aP p C).trans C;have aN:=(aP p U).trans U;refine⟨fun i n u=>SumB bd i n/\∃d,u.heap[w.heap.size+1]? =some (Obj.cells #[d] 35 (0,0))/\u.ownsRow w1.heap.size 27 1 d ((List.range i).flatMap R).length (((List.range i).flatMap R).map (Value.int .u32))/\aB (fun k=>k=w.heap.size+1) w1 u,⟨rfl,_,aN,cZ _ _ _ _,aB.refl _ _⟩,fun i n u g=>g.2.choose_spec.2.2,fun i n u g=>g.1.le aw,fun i n hi u g=>?_,fun n u g=>?_⟩
  .obtain⟨y,d,q,j,b⟩:=g;have S:=b.size;have ap:u.cell? (ag w.heap.size 0)=some (.func (.func fn) #[] cs):=by
    have:=bu b ah aa;simp only[World.cell?,this];rfl
   have au:Below w.heap.size w u:=s.trans ((p.mono aa).trans (b.toBelow aa (by rintro k rfl;omega)));have az:=GD x i;have ay:i*20000<=13*20000:=oz _ aa;have aX:=x i;refine(QZ (bd:=bd i) ai ap q aa S j aa (ak i hi u au (E.kept b fun k I e=>by have:=al k I;omega))).mono ?_;rintro e aZ ⟨c,rfl,ar,aR,aH,aL,am⟩;refine⟨c,rfl,⟨n,c,y,ar,rfl⟩,aR,aH,?_,?_⟩
   .rw[qB,gZ];simpa using aL
   .refine aB.strip ((b.mono fun k h=>.inl h).trans (am.mono fun k h=>?_));rcases h with h|h
    .exact .inl h
    .exact .inr (j.lt k h).1
  .obtain⟨y,d,q,j,b⟩:=g;have az:=GD x B.length;have ay:B.length*20000<=13*20000:=oz _ D;exact⟨_,d,q,bN j aa,by have:=b.size;omega,fun l e=>by have:=(j.lt l e).1;omega,aa,v n y⟩))
 have X:=af s;have Y:=af H;go_enter func65,ntmps65
 go_wp2_with fail
 refine V.o.mono ?_;rintro e aV ⟨B,f,u,rfl,⟨L,d,q,j,S,M,aC,v⟩,b,rfl⟩;have ao:=bu b Y.o aa;have an:Hid ((u.setCell (ag Pb 3) (.int .i64 (wrap64 (eT+(f:Int))))).heap[Pb]? =some (Obj.cells #[aj Hb,dv,av,ae (wrap64 (eT+(f:Int)))] yz (0,0))):=by
  show _=_;rw[dC u Pb 3 _ _ _ ao];rfl
 have K:(u.setCell (ag Pb 3) (.int .i64 (wrap64 (eT+(f:Int))))).heap[w.heap.size+1]? =some (Obj.cells #[d] 35 (0,0)):=(aG (a:=(ag Pb 3)) (fun e:Pb=w.heap.size+1=>aa)).trans q;have P:=aU j ((aB.refl (fun k=>k=Pb) u).set (a:=(ag Pb 3)) (.int .i64 (wrap64 (eT+(f:Int)))) (.inl rfl)) (fun l e h=>by have:=M l e;omega);have Z:Hid (aB (fun k=>k=Pb) w (u.setCell (ag Pb 3) (.int .i64 (wrap64 (eT+(f:Int)))))):=aB.strip ((((aB.refl (fun k=>k=Pb\/w.heap.size<=k) w).below X.o).trans (b.mono fun k h=>.inr aa)).set (a:=(ag Pb 3)) _ (.inl (.inl rfl)));have r:=af M;have ad:=af v;have a1:(u.setCell (ag Pb 3) (.int .i64 (wrap64 (eT+(f:Int))))).cell? (ag (w.heap.size+1) 0)=some d:=ek K;have W:=af (A7 P aC);have ab:=af K;obtain⟨aO,aQ,rfl,-,-,-⟩:=Rd.aD P;generalize u.setCell (ag Pb 3) (.int .i64 (wrap64 (eT+(f:Int))))=aV at*
 go_wp2_with (go_at_call 64;refine W.o.mono ?_;rintro e aT ⟨rfl,O,b⟩;have J:=bu b ab.o (fun e=>by have:=r.o _ e;omega);have a0:aT.cell? (ag (w.heap.size+1) 0)=some (.slice aO L.length aQ):=(ek J);have ac:=af O;have z:=af b;clear O b J)
 go_ret2;refine⟨_,dh L,f,rfl,by rw[dY];exact ac.o,ad.o,aB.strip ((Z.o.mono fun k h=>.inl h).trans (z.o.mono fun k h=>.inr (by have:=r.o k h;omega))),bu z.o an.o (fun e=>by have:=r.o _ e;omega)⟩
def Xp (w:World) (GH:Nat->Prop) (fn:FuncId) (cs:Array Value) (B:List (Nat×Nat×List Pt)) (F:Nat->Nat->Prop) (r:Nat->Nat) (bd:Nat->Nat->Prop):Prop:=
 ∀(i:Nat) (hi:i<B.length) (u:World),Below w.heap.size w u->nS u GH F B->aK fn (#[aj (B[i].1)]++cs) u fun e u'=>∃c:Nat,e=.returned (.tuple #[ae (r i:Nat),ae (c:Nat)])/\bd i c/\Below u.heap.size u u'
def Q0 (w:World) (Pb Hb:Nat) (dv av:Value) (eT:Int) (Q:Nat->Nat->Prop) (e:Ending) (w':World):Prop:=
 ∃(n uY:Nat),e=.returned (.tuple #[ae n,ae uY])/\Q n uY/\aB (fun k=>k=Pb) w w'/\w'.heap[Pb]? =some (Obj.cells #[aj Hb,dv,av,ae (wrap64 (eT+uY))] yz (0,0))
theorem K7 {fn:FuncId} {cs:Array Value} {Q:Nat->Nat->Prop} (L:∀args w,(callFunc fn args).run prog w=.ok (.enter fn args) w) (x:w.heap[Pb]? =some (Obj.cells #[aj Hb,dv,av,ae eT] yz (0,0))) (h:jM w Hb GH m A N wk) (P:∀k,GH k->k<w.heap.size)
  (V:∀w1 B F,DC w w1 GH A N B F->∃r bd,(∀i t,bd i t->t<=1000000)/\(∀i,r i<=20000)/\Xp w GH fn cs B F r bd/\∀n,SumB bd B.length n->Q (((List.range B.length).map r).sum) n):
  aK 73 #[aj Pb,.func (.func fn) #[] cs] w (Q0 w Pb Hb dv av eT Q):=by
 have an:=(bg.1 x).1;have C:aB (fun _=>False) w ((w.alloc (.cells #[.func (.func fn) #[] cs] 128)).alloc (.cells #[ae ((0:Nat):Int)] 3)):=((aB.refl _ w).alloc _).alloc _;have q:=FR w (.cells #[.func (.func fn) #[] cs] 128) (.cells #[ae ((0:Nat):Int)] 3);have D:=Ci w (.cells #[.func (.func fn) #[] cs] 128) (.cells #[ae ((0:Nat):Int)] 3);have j:Below w.heap.size w ((w.alloc (.cells #[.func (.func fn) #[] cs] 128)).alloc (.cells #[ae ((0:Nat):Int)] 3)):=((aJ _ _).alloc (aA _) _).alloc ax _;have al:((w.alloc (.cells #[.func (.func fn) #[] cs] 128)).alloc (.cells #[ae ((0:Nat):Int)] 3)).heap.size=w.heap.size+2:=ax;have y:=bu C x (fun h=>h);have E:=af (Gz (Sx:=fun k=>k=w.heap.size+1) (cs:=#[aj w.heap.size,aj (w.heap.size+1)]) (Q:=fun B b u=>∃n:Nat,u.heap[w.heap.size+1]? =some (Obj.cells #[ae (n:Nat)] 3 (0,0))/\Q n b) GA y (h.kept C (fun _ _ h=>h)) (fun k z=>by rw[al];omega) (fun w1 B F g v ah Z ab M=>by
  have⟨r,bd,Y,s,O,l⟩:=V w1 B F ⟨j.trans (g.mono aa),v,ah,Z,ab,M⟩;have ar:=g.size;have K:=(aP g q).trans q;have ak:=(aP g D).trans D;refine⟨fun i n u=>SumB bd i n/\u.heap[w.heap.size+1]? =some (Obj.cells #[ae ((((List.range i).map r).sum:Nat):Int)] 3 (0,0))/\aB (fun k=>k=w.heap.size+1) w1 u,⟨rfl,ak,aB.refl _ _⟩,fun i n u d=>d.2.2,fun i n u d=>d.1.le Y,fun i n hi u d=>?_,fun n u d=>⟨_,d.2.1,l n d.1⟩⟩;have⟨ai,p,f⟩:=d;have U:u.cell? (ag w.heap.size 0)=some (.func (.func fn) #[] cs):=by
   have:=bu f K aa;simp only[World.cell?,this];rfl
  have X:Below w.heap.size w u:=j.trans ((g.mono aa).trans (f.toBelow aa (by rintro k rfl;omega)));have aq:((List.range i).map r).sum<=i*20000:=Bj s i;have ap:i*20000<=13*20000:=oz _ aa;have ao:=s i;refine(I7 (bd:=bd i) L U p aa (O i hi u X (v.kept f fun k z e=>by have:=P k z;omega))).mono ?_;rintro e au ⟨c,rfl,W,ac,R⟩;exact⟨c,rfl,⟨n,c,ai,W,rfl⟩,by rw[qB,bJ,sS];simpa using ac,f.trans R⟩))
 have G:=af j;have H:=af y;go_enter func73,ntmps73
 go_wp2_with fail
 refine E.o.mono ?_;rintro e am ⟨B,b,u,rfl,⟨n,p,l⟩,f,rfl⟩;have T:=bu f H.o aa;have S:Hid ((u.setCell (ag Pb 3) (.int .i64 (wrap64 (eT+(b:Int))))).heap[Pb]? =some (Obj.cells #[aj Hb,dv,av,ae (wrap64 (eT+(b:Int)))] yz (0,0))):=by
  show _=_;rw[dC u Pb 3 _ _ _ T];rfl
 have ad:(u.setCell (ag Pb 3) (.int .i64 (wrap64 (eT+(b:Int))))).heap[w.heap.size+1]? =some (Obj.cells #[ae (n:Nat)] 3 (0,0)):=(aG (a:=(ag Pb 3)) (fun e:Pb=w.heap.size+1=>aa)).trans p;have I:Hid (aB (fun k=>k=Pb) w (u.setCell (ag Pb 3) (.int .i64 (wrap64 (eT+(b:Int)))))):=aB.strip ((((aB.refl (fun k=>k=Pb\/w.heap.size<=k) w).below G.o).trans (f.mono fun k h=>.inr aa)).set (a:=(ag Pb 3)) _ (.inl (.inl rfl)));have J:=af l;have aw:(u.setCell (ag Pb 3) (.int .i64 (wrap64 (eT+(b:Int))))).cell? (ag (w.heap.size+1) 0)=some (ae (n:Nat)):=ek ad;generalize u.setCell (ag Pb 3) (.int .i64 (wrap64 (eT+(b:Int))))=am at*;go_wp2;go_ret2;exact⟨n,b,rfl,J.o,I.o,S.o⟩
end
end
section
open Go.RowKit Go.Sort Go.Shelf Go.Lib Go.Maps
attribute [local irreducible] wpQuiet
attribute [local go_sem] Oper.dZ
def wY (l:List Pt) (x y way:Int):List Int:=if way<=3 then rY l (kM x y (decide (way%2=1)) (decide (2<=way)))else[]
theorem EP {a:Int} (b:0<=a) (h:a<=3):a=(if decide (a%2=1)then 1 else 0)+(if decide (2<=a)then 2 else 0):=by
 have:a=0\/a=1\/a=2\/a=3:=aa;rcases this with rfl|rfl|rfl|rfl<;>decide
theorem Wt {w:World} {lo hi cb n0:Nat} {l:List Pt} (h:qd w lo hi cb n0 l) (f:Rw l) (x y a:Int) (d:0<=a):
  aK 40 #[aj cb,ae x,ae y,.int .u8 a] w fun e w'=>∃v,∃c:Nat,e=.returned (.tuple #[v,ae ((c+(wY l x y a).length:Nat):Int)])/\c<=8*Lib.bitLen n0+1/\w'.ownsRow w.heap.size 27 1 v (wY l x y a).length ((wY l x y a).map (Value.int .u32))/\Below w.heap.size w w':=by
 unfold wY;by_cases b:a<=3
 .rw[aO b];exact Qc h f x y _ _ a (EP d b)
 .rw[aN b];refine(Ir h x y a aa).mono ?_;rintro e w' ⟨rfl,rfl⟩;exact⟨_,0,rfl,aT _,cZ _ _ _ _,aJ _ _⟩
theorem Wu {w:World} {lo hi cb n0:Nat} {l:List Pt} (h:qd w lo hi cb n0 l) (f:Rw l) (x y a:Int) (d:0<=a):
  aK 84 #[aj cb,ae x,ae y,.int .u8 a] w fun e w'=>(∃c:Nat,e=.returned (.tuple #[ae ((wY l x y a).length:Nat),ae c])/\c<=8*Lib.bitLen n0+1)/\Below w.heap.size w w':=by
 unfold wY;by_cases b:a<=3
 .rw[aO b];exact Sw h f x y _ _ a (EP d b)
 .rw[aN b];refine(KA h x y a aa).mono ?_;rintro e w' ⟨rfl,rfl⟩;exact⟨⟨0,rfl,aT _⟩,aJ _ _⟩
theorem I8:eU 39:=bP func39 aL rfl
theorem I9:eU 66:=bP func66 aL rfl
theorem Ou {u:World} {F:Nat->Prop} {tb n0:Nat} {l:List Pt} (h:Bk u F tb n0 l) (x1 x2 y1 y2 b:Int) {a:Nat} (k:u.cell? (ag a 0)=some (ae x1)) (m:u.cell? (ag a 1)=some (ae x2)) (n:u.cell? (ag a 2)=some (ae y1)) (q:u.cell? (ag a 3)=some (ae y2)) (r:u.cell? (ag a 4)=some (ak b)):
  aK 66 #[aj tb,aj a] u fun e d=>∃v,∃t:Nat,e=.returned (.tuple #[v,ae t])/\(∃c:Nat,t=c+(hasB l x1 x2 y1 y2).length/\c<=8*Lib.bitLen n0+1)/\d.ownsRow u.heap.size 27 1 v (hasB l x1 x2 y1 y2).length ((hasB l x1 x2 y1 y2).map (Value.int .u32))/\Below u.heap.size u d:=by
 have⟨lo,m0,m1,m2,m3,m4,hi,bx,cn,hp,lw,ob,tl,sv,dn,h⟩:=h;have H:=af h;have j:u.cell? (ag tb 1)=some (aj bx):=aI h.blk;have i:aB (fun _=>False) u u.drew:=(aB.refl _ u).drew;have f:=af (LY (H.o.box.kept i (fun _ _ _ h=>h)) x1 x2 y1 y2 b);have E:=ah j;have z:=ah k;have A:=ah m;have B:=ah n;have C:=ah q;have D:=ah r;go_enter func66,ntmps66
 go_wp2_with fail
 refine au (fun W=>∃p:aR u,W=p.W) [5,6,7,8,9] [(0,false),(1,false),(2,false),(3,true),(4,true)] ⟨⟨_,(aJ _ _).drew⟩,rfl⟩ 5 ?_;refine ay 5 rfl fun K s=>?_;refine aY I8 rfl _ _ rfl (vals:=#[aj bx,.agg #[ae x1,ae x2,ae y1,ae y2,ak b]]) rfl f.o ?_;rintro e u1 ⟨v,c,rfl,x,y,w⟩;have g:Hid (Below u.heap.size u u1):=(aJ _ _).drew.trans w;refine⟨_,rfl,?_⟩;refine s _ _ (fun _ h=>absurd ai h) ?_;have HO:=af y;refine dQ (fun _=>True) [8,9] aL ?_;refine aW [(6,false),(7,false)] trivial rfl ?_;refine aF [8,9] ?_;go_wp2;go_ret2;exact⟨_,_,rfl,⟨c,rfl,x⟩,HO.o,g.o⟩
theorem K8:eU 41:=bP func41 aL rfl
theorem K9:eU 68:=bP func68 aL rfl
theorem Q3 {u:World} {F:Nat->Prop} {tb n0:Nat} {l:List Pt} (h:Bk u F tb n0 l) (x1 x2 y:Int) {a b d:Nat} (m:u.cell? (ag a 0)=some (ae x1)) (n:u.cell? (ag b 0)=some (ae x2)) (q:u.cell? (ag d 0)=some (ae y)):
  aK 68 #[aj tb,aj a,aj b,aj d] u fun e f=>∃v,∃t:Nat,e=.returned (.tuple #[v,ae t])/\((rZ l x1 x2 y).length<=t/\t<=2*(rZ l x1 x2 y).length+Ay n0)/\f.ownsRow u.heap.size 27 1 v (rZ l x1 x2 y).length ((rZ l x1 x2 y).map (Value.int .u32))/\Below u.heap.size u f:=by
 have⟨lo,m0,m1,m2,m3,m4,hi,bx,cn,hp,lw,ob,tl,sv,dn,h⟩:=h;have H:=af h;have k:u.cell? (ag tb 3)=some (aj hp):=aI h.blk;have j:aB (fun _=>False) u u.drew:=(aB.refl _ u).drew;have g:=af (UY (H.o.VA.kept j (fun _ _ _ h=>h)) x1 x2 y);have C:=ah k;have z:=ah m;have A:=ah n;have B:=ah q;go_enter func68,ntmps68
 go_wp2_with fail
 refine au (fun W=>∃p:aR u,W=p.W) [7,8,9,10,11] [(0,false),(1,false),(2,false),(3,true),(4,true),(5,true),(6,true)] ⟨⟨_,(aJ _ _).drew⟩,rfl⟩ 5 ?_;refine ay 7 rfl fun K r=>?_;refine aY K8 rfl _ _ rfl (vals:=#[aj hp,ae x1,ae x2,ae y]) rfl g.o ?_;rintro e u1 ⟨v,c,rfl,w,x,s⟩;have i:Hid (Below u.heap.size u u1):=(aJ _ _).drew.trans s;refine⟨_,rfl,?_⟩;refine r _ _ (fun _ h=>absurd ai h) ?_;have HO:=af x;refine dQ (fun _=>True) [10,11] aL ?_;refine aW [(8,false),(9,false)] trivial rfl ?_;refine aF [10,11] ?_;go_wp2;go_ret2;exact⟨_,_,rfl,w,HO.o,i.o⟩
theorem Ja:eU 40:=bP func40 aL rfl
theorem Jb:eU 67:=bP func67 aL rfl
theorem Ov {u:World} {F:Nat->Prop} {tb n0:Nat} {l:List Pt} (h:Bk u F tb n0 l) (x y a:Int) (C:Rw l) (B:0<=a) {b d f:Nat} (n:u.cell? (ag b 0)=some (ae x)) (q:u.cell? (ag d 0)=some (ae y)) (r:u.cell? (ag f 0)=some (.int .u8 a)):
  aK 67 #[aj tb,aj b,aj d,aj f] u fun e g=>∃v,∃t:Nat,e=.returned (.tuple #[v,ae t])/\(∃c:Nat,t=c+(wY l x y a).length/\c<=8*Lib.bitLen n0+1)/\g.ownsRow u.heap.size 27 1 v (wY l x y a).length ((wY l x y a).map (Value.int .u32))/\Below u.heap.size u g:=by
 have⟨lo,m0,m1,m2,m3,m4,hi,bx,cn,hp,lw,ob,tl,sv,dn,h⟩:=h;have H:=af h;have m:u.cell? (ag tb 2)=some (aj cn):=aI h.blk;have k:aB (fun _=>False) u u.drew:=(aB.refl _ u).drew;have i:=af (Wt (H.o.Vz.kept k (fun _ _ _ h=>h)) C x y a B);have I:=ah m;have D:=ah n;have E:=ah q;have G:=ah r;go_enter func67,ntmps67
 go_wp2_with fail
 refine au (fun W=>∃p:aR u,W=p.W) [7,8,9,10,11] [(0,false),(1,false),(2,false),(3,true),(4,true),(5,true),(6,true)] ⟨⟨_,(aJ _ _).drew⟩,rfl⟩ 5 ?_;refine ay 7 rfl fun K s=>?_;refine aY Ja rfl _ _ rfl (vals:=#[aj cn,ae x,ae y,.int .u8 a]) rfl i.o ?_;rintro e u1 ⟨v,c,rfl,z,A,w⟩;have j:Hid (Below u.heap.size u u1):=(aJ _ _).drew.trans w;refine⟨_,rfl,?_⟩;refine s _ _ (fun _ h=>absurd ai h) ?_;have HO:=af A;refine dQ (fun _=>True) [10,11] aL ?_;refine aW [(8,false),(9,false)] trivial rfl ?_;refine aF [10,11] ?_;go_wp2;go_ret2;exact⟨_,_,rfl,⟨c,rfl,z⟩,HO.o,j.o⟩
theorem La:eU 82:=bP func82 aL rfl
theorem Lb:eU 81:=bP func81 aL rfl
theorem Q4 {u:World} {F:Nat->Prop} {tb n0:Nat} {l:List Pt} (h:Bk u F tb n0 l) (x1 x2 y1 y2 b:Int) {a:Nat} (j:u.cell? (ag a 0)=some (ae x1)) (k:u.cell? (ag a 1)=some (ae x2)) (m:u.cell? (ag a 2)=some (ae y1)) (n:u.cell? (ag a 3)=some (ae y2)) (q:u.cell? (ag a 4)=some (ak b)):
  aK 81 #[aj tb,aj a] u fun e w=>∃t:Nat,e=.returned (.tuple #[ae ((l.filter (sj x1 x2 y1 y2)).length:Nat),ae t])/\t<=8*Lib.bitLen n0+1/\Below u.heap.size u w:=by
 have⟨lo,m0,m1,m2,m3,m4,hi,bx,cn,hp,lw,ob,tl,sv,dn,h⟩:=h;have H:=af h;have i:u.cell? (ag tb 1)=some (aj bx):=aI h.blk;have g:aB (fun _=>False) u u.drew:=(aB.refl _ u).drew;have d:=af (P6 (H.o.box.kept g (fun _ _ _ h=>h)) x1 x2 y1 y2 b);have C:=ah i;have x:=ah j;have y:=ah k;have z:=ah m;have A:=ah n;have B:=ah q;go_enter func81,ntmps81
 go_wp2_with fail
 refine au (fun W=>∃p:aR u,W=p.W) [5,6,7,8,9] [(0,false),(1,false),(2,false),(3,true),(4,true)] ⟨⟨_,(aJ _ _).drew⟩,rfl⟩ 5 ?_;refine ay 5 rfl fun K r=>?_;refine aY La rfl _ _ rfl (vals:=#[aj bx,.agg #[ae x1,ae x2,ae y1,ae y2,ak b]]) rfl d.o ?_;rintro e u1 ⟨⟨c,rfl,v⟩,s⟩;have f:Hid (Below u.heap.size u u1):=(aJ _ _).drew.trans s;refine⟨_,rfl,?_⟩;refine r _ _ (fun _ h=>absurd ai h) ?_;refine dQ (fun _=>True) [8,9] aL ?_;refine aW [(6,false),(7,false)] trivial rfl ?_;refine aF [8,9] ?_;go_wp2;go_ret2;exact⟨c,rfl,v,f.o⟩
theorem GG:eU 84:=bP func84 aL rfl
theorem GI:eU 83:=bP func83 aL rfl
theorem Lc {u:World} {F:Nat->Prop} {tb n0:Nat} {l:List Pt} (h:Bk u F tb n0 l) (x y a:Int) (z:Rw l) (w:0<=a) {b d f:Nat} (m:u.cell? (ag b 0)=some (ae x)) (n:u.cell? (ag d 0)=some (ae y)) (q:u.cell? (ag f 0)=some (.int .u8 a)):
  aK 83 #[aj tb,aj b,aj d,aj f] u fun e A=>∃t:Nat,e=.returned (.tuple #[ae ((wY l x y a).length:Nat),ae t])/\t<=8*Lib.bitLen n0+1/\Below u.heap.size u A:=by
 have⟨lo,m0,m1,m2,m3,m4,hi,bx,cn,hp,lw,ob,tl,sv,dn,h⟩:=h;have H:=af h;have k:u.cell? (ag tb 2)=some (aj cn):=aI h.blk;have j:aB (fun _=>False) u u.drew:=(aB.refl _ u).drew;have g:=af (Wu (H.o.Vz.kept j (fun _ _ _ h=>h)) z x y a w);have E:=ah k;have B:=ah m;have C:=ah n;have D:=ah q;go_enter func83,ntmps83
 go_wp2_with fail
 refine au (fun W=>∃p:aR u,W=p.W) [7,8,9,10,11] [(0,false),(1,false),(2,false),(3,true),(4,true),(5,true),(6,true)] ⟨⟨_,(aJ _ _).drew⟩,rfl⟩ 5 ?_;refine ay 7 rfl fun K r=>?_;refine aY GG rfl _ _ rfl (vals:=#[aj cn,ae x,ae y,.int .u8 a]) rfl g.o ?_;rintro e u1 ⟨⟨c,rfl,v⟩,s⟩;have i:Hid (Below u.heap.size u u1):=(aJ _ _).drew.trans s;refine⟨_,rfl,?_⟩;refine r _ _ (fun _ h=>absurd ai h) ?_;refine dQ (fun _=>True) [10,11] aL ?_;refine aW [(8,false),(9,false)] trivial rfl ?_;refine aF [10,11] ?_;go_wp2;go_ret2;exact⟨c,rfl,v,i.o⟩
theorem Q5:eU 75:=bP func75 aL rfl
theorem Q6:eU 74:=bP func74 aL rfl
theorem Vj {u:World} {F:Nat->Prop} {tb n0:Nat} {l:List Pt} (h:Bk u F tb n0 l) (x1 x2 y:Int) {d f g:Nat} (n:u.cell? (ag d 0)=some (ae x1)) (q:u.cell? (ag f 0)=some (ae x2)) (r:u.cell? (ag g 0)=some (ae y)):
  aK 74 #[aj tb,aj d,aj f,aj g] u fun e w=>∃t:Nat,e=.returned (.tuple #[ae ((if 0<(l.filter (oV x1 x2 y)).length then 1 else 0):Nat),ae t])/\t<=Ay n0/\Below u.heap.size u w:=by
 have⟨lo,m0,m1,m2,m3,m4,hi,bx,cn,hp,lw,ob,tl,sv,dn,h⟩:=h;have H:=af h;have m:u.cell? (ag tb 3)=some (aj hp):=aI h.blk;have k:aB (fun _=>False) u u.drew:=(aB.refl _ u).drew;have j:=af (Xi (H.o.VA.kept k (fun _ _ _ h=>h)) x1 x2 y);have B:=ah m;have x:=ah n;have z:=ah q;have A:=ah r;go_enter func74,ntmps74
 go_wp2_with fail
 refine au (fun W=>∃p:aR u,W=p.W) [7,8,9,10,11,12] [(0,false),(1,false),(2,false),(3,true),(4,true),(5,true),(6,true)] ⟨⟨_,(aJ _ _).drew⟩,rfl⟩ 6 ?_;refine ay 7 rfl fun K s=>?_;refine aY Q5 rfl _ _ rfl (vals:=#[aj hp,ae x1,ae x2,ae y]) rfl j.o ?_;rintro e u1 ⟨⟨c,rfl,i⟩,v⟩;have b:Hid (Below u.heap.size u u1):=(aJ _ _).drew.trans v;refine⟨_,rfl,?_⟩;refine s _ _ (fun _ h=>absurd ai h) ?_;refine dQ (fun _=>True) [11,12] aL ?_;refine aW [(8,false),(9,false),(10,false)] trivial rfl ?_;refine aF [11,12] ?_;by_cases a:0<(l.filter (oV x1 x2 y)).length
 .rw[oH a];go_wp2;go_ret2;exact⟨c,by first|rfl|(simp only[a,gJ];rfl)|simp[a],i,b.o⟩
 .rw[FM a];go_wp2;go_ret2;exact⟨c,by first|rfl|(simp only[a,jC];rfl)|simp[a],i,b.o⟩
end
end Go.Proofs.YtkjdbndekceffaaGreat
