/- Made small by a program. -/
import Derived.Test.YtkjdbndekceffaaGreatX16
set_option linter.unusedSimpArgs false
set_option linter.unusedVariables false
set_option maxRecDepth 100000
set_option maxHeartbeats 16000000
namespace Go.Proofs.YtkjdbndekceffaaGreat
open Tryz
section
open Go.RowKit Go.Sort Go.Shelf Go.Lib Go.Maps
attribute [local irreducible] wpQuiet
theorem Nl:eY 150:=bO func150 aM rfl
theorem FE:eY 153:=bO func153 aM rfl
theorem P8 (l:List Int):l.map (Value.int .u32)=l.flatMap fun x=>[ak x]:=by
 induction l with
 |nil=>rfl
 |cons x l ih=>simp[ih]
theorem P9 {fn:FuncId} {cs:Array Value} (W:∀args w,(callFunc fn args).run prog w=.ok (.enter fn args) w) {u:World} {r ob tb:Nat} {m:Value} {b R:List Int} {base:Nat} {bd:Nat->Prop} (X:u.cell? (af r 0)=some (.func (.func fn) #[] cs)) (y:u.heap[ob]? =some (Obj.cells #[m] 35 (0,0))) (ab:ob<base) (Y:base<=u.heap.size) (z:u.ownsRow base 27 1 m b.length (b.map (Value.int .u32))) (Z:b.length+R.length<=1000000)
  (M:aK fn (#[aj tb]++cs) u fun e d=>∃(v:Value) (c:Nat),e=.returned (.tuple #[v,ae (c:Nat)])/\bd c/\d.ownsRow u.heap.size 27 1 v R.length (R.map (Value.int .u32))/\Below u.heap.size u d):
  aK 150 #[aj tb,aj r,aj ob] u fun e d=>∃c:Nat,e=.returned (ae (c:Nat))/\bd c/\∃A,d.heap[ob]? =some (Obj.cells #[A] 35 (0,0))/\d.ownsRow base 27 1 A (b++R).length ((b++R).map (Value.int .u32))/\ax (fun k=>k=ob\/m.ownBlock=some k) u d:=by
 have C:=ag M;have HO:=ag y;have p:=ag z;obtain⟨i,j,rfl,-,-,-⟩:=Rd.aJ z;have ac:=(aY.1 y).1;go_enter func150,ntmps150
 go_wp2_with fail
 refine C.o.mono ?_;rintro e u1 ⟨v,c,rfl,K,P,I⟩;have B:=ag K;have E:=ag P;have f:=ag I;obtain⟨U,V,rfl,-,-,S⟩:=Rd.aJ E.o;have G:=ag (Rd.VH (show Rd (.int .u32) u1 U R from S));have n:=ag ((aP f.o HO.o).trans HO.o);have F:=ag (az p.o f.o);have ad:=f.o.size;have al:u1.cell? (af ob 0)=some (.slice i b.length j):=dV n.o;have N:b.length+R.length<=maxLen:=dJ;have O:(b.length+R.length)*4<=140737488355328:=aa;have L:base<=u1.heap.size:=aa;have D:Hid (Value.ownBlock (.slice i b.length j)≠some ob):=fun e=>by have:=(p.o.lt ob e).1;omega
 go_wp2_with (at_builtin;go_loud (refine iU uw (enc:=fun x=>[ak x]) (fun _=>rfl) (fun x u hu=>by simp at hu;subst hu;rfl) base F.o G.o rfl _ _ rfl rfl V rfl N O L ?_;intro T u6 Q t;have l:=(t.block ob aa (fun e=>D.o e.symm)).trans n.o;have ah:u6.cell? (af ob 0)=some (.slice i b.length j):=(dV l);have ai:u6.frozen? (af ob 0)=false:=(aD l);have g:u6.ownsRow base 27 1 T (b++R).length ((b++R).map (Value.int .u32)):=(by rw[bM,bS,P8 R];exact Q);obtain⟨q,s,rfl,-,-,-⟩:=Rd.aJ g))
 go_ret;rw[bS]at g;have J:(u6.setCell (af ob 0) (.slice q (b.length+R.length) s)).heap[ob]? =some (Obj.cells #[.slice q (b.length+R.length) s] 35 (0,0)):=by
  rw[di u6 ob 0 _ _ _ l];rfl
 refine⟨c,rfl,B.o,_,J,?_,((((ax.refl (fun k=>k=ob\/Value.ownBlock (.slice i b.length j)=some k) u).below f.o).grown t fun k e=>.inl (.inr e))).set (a:=(af ob 0)) _ (.inl (.inl rfl))⟩;rw[bS];exact aR g ((ax.refl (fun k=>k=ob) u6).set (a:=(af ob 0)) _ (.inl rfl)) (fun H e h=>by have:=(g.lt H e).1;omega)
theorem H9 {fn:FuncId} {cs:Array Value} (s:∀args w,(callFunc fn args).run prog w=.ok (.enter fn args) w) {u:World} {g ob tb:Nat} {b r:Nat} {bd:Nat->Prop} (t:u.cell? (af g 0)=some (.func (.func fn) #[] cs)) (q:u.heap[ob]? =some (Obj.cells #[ae (b:Nat)] 3 (0,0))) (v:b+r<=1000000)
  (p:aK fn (#[aj tb]++cs) u fun e d=>∃c:Nat,e=.returned (.tuple #[ae (r:Nat),ae (c:Nat)])/\bd c/\Below u.heap.size u d):
  aK 153 #[aj tb,aj g,aj ob] u fun e d=>∃c:Nat,e=.returned (ae (c:Nat))/\bd c/\d.heap[ob]? =some (Obj.cells #[ae (b+r:Nat)] 3 (0,0))/\ax (fun k=>k=ob) u d:=by
 have l:=ag p;have HO:=ag q;go_enter func153,ntmps153
 go_wp2_with fail
 refine l.o.mono ?_;rintro e u1 ⟨c,rfl,n,h⟩;have j:=ag n;have f:=(aP h HO.o).trans HO.o;have m:=ag f;have i:=ag h;have y:u1.cell? (af ob 0)=some (ae (b:Nat)):=dV f;have f1:u1.frozen? (af ob 0)=false:=aD f;have x:IntKind.i64.wrap ((b:Int)+(r:Int))=((b+r:Nat):Int):=by rw[iQ _ aa];omega
 go_wp2;go_ret;refine⟨c,rfl,j.o,?_,((ax.refl (fun k=>k=ob) u).below i.o).set (a:=(af ob 0)) _ (.inl rfl)⟩;rw[di u1 ob 0 _ _ _ m.o,show((b+r:Nat):Int)=(b:Int)+(r:Int) by omega];rfl
section
variable {w:World} {Pb Hb:Nat} {dv av:Value} {eB:Int} {GH:Nat->Prop} {m:Nat} {A:List eX} {N wk:Int}
structure CG (w w1:World) (GH:Nat->Prop) (A:List eX) (N:Int) (B:List (Nat×Nat×List Pt)) (F:Nat->Nat->Prop):Prop where
 below:Below w.heap.size w w1
 wd:nA w1 GH F B
 perm:(iO B).Perm (A.map (·.1))
 log:B.length≠0->(2:Int)^(B.length-1)<=N
 built:∀b∈B,(b.2.1:Int)<=N/\b.2.1<=20000
 few:B.length<=13
def V7 (w:World) (GH:Nat->Prop) (fn:FuncId) (cs:Array Value) (B:List (Nat×Nat×List Pt)) (F:Nat->Nat->Prop) (R:Nat->List Int) (bd:Nat->Nat->Prop):Prop:=
 ∀(i:Nat) (hi:i<B.length) (u:World),Below w.heap.size w u->nA u GH F B->aK fn (#[aj (B[i].1)]++cs) u fun e u'=>∃(v:Value) (c:Nat),e=.returned (.tuple #[v,ae (c:Nat)])/\bd i c/\u'.ownsRow u.heap.size 27 1 v (R i).length ((R i).map (Value.int .u32))/\Below u.heap.size u u'
def Vm (w:World) (Pb Hb:Nat) (dv av:Value) (eB:Int) (Q:List Int->Nat->Prop) (e:Ending) (w':World):Prop:=
 ∃(v:Value) (L:List Int) (xu:Nat),e=.returned (.tuple #[v,ae xu])/\w'.ownsRow w.heap.size 27 1 v L.length (L.map (Value.int .u32))/\Q L xu/\ax (fun k=>k=Pb) w w'/\w'.heap[Pb]? =some (Obj.cells #[aj Hb,dv,av,ae (wrap64 (eB+xu))] xG (0,0))
theorem FH {R:Nat->List Int} {b:Nat} (h:∀i,(R i).length<=b):∀i,((List.range i).flatMap R).length<=i*b
 |0=>ay
 |i+1=>by
  have e:([i].flatMap R).length=(R i).length:=ay;rw[pM,gX,bS,Nat.succ_mul,e];have a:=FH h i;have c:=h i;omega
theorem Al {r:Nat->Nat} {b:Nat} (h:∀i,r i<=b):∀i,((List.range i).map r).sum<=i*b
 |0=>ay
 |i+1=>by
  have e:([i].map r).sum=r i:=ay;rw[pM,bM,rO,Nat.succ_mul,e];have a:=Al h i;have c:=h i;omega
theorem RY {fn:FuncId} {cs:Array Value} {Q:List Int->Nat->Prop} (ai:∀args w,(callFunc fn args).run prog w=.ok (.enter fn args) w) (G:w.heap[Pb]? =some (Obj.cells #[aj Hb,dv,av,ae eB] xG (0,0))) (h:jd w Hb GH m A N wk) (al:∀k,GH k->k<w.heap.size)
  (aq:∀w1 B F,CG w w1 GH A N B F->∃R bd,(∀i t,bd i t->t<=1000000)/\(∀i,(R i).length<=20000)/\V7 w GH fn cs B F R bd/\∀n,SumB bd B.length n->Q (eD ((List.range B.length).flatMap R)) n):
  aK 65 #[aj Pb,.func (.func fn) #[] cs] w (Vm w Pb Hb dv av eB Q):=by
 have aW:=(aY.1 G).1;have T:ax (fun _=>False) w ((w.alloc (.cells #[.func (.func fn) #[] cs] 121)).alloc (.cells #[aL] 35)):=((ax.refl _ w).alloc _).alloc _;have C:=EG w (.cells #[.func (.func fn) #[] cs] 121) (.cells #[aL] 35);have U:=Bh w (.cells #[.func (.func fn) #[] cs] 121) (.cells #[aL] 35);have s:Below w.heap.size w ((w.alloc (.cells #[.func (.func fn) #[] cs] 121)).alloc (.cells #[aL] 35)):=((aI _ _).alloc (aB _) _).alloc ay _;have aT:((w.alloc (.cells #[.func (.func fn) #[] cs] 121)).alloc (.cells #[aL] 35)).heap.size=w.heap.size+2:=ay;have H:=bq T G (fun h=>h);have V:=ag (FD (Sx:=fun k=>k=w.heap.size+1) (cs:=#[aj w.heap.size,aj (w.heap.size+1)]) (Q:=fun B f u=>∃(L:List Int) (d:Value),u.heap[w.heap.size+1]? =some (Obj.cells #[d] 35 (0,0))/\u.ownsRow w.heap.size 27 1 d L.length (L.map (Value.int .u32))/\w.heap.size+2<=u.heap.size/\(∀l,d.ownBlock=some l->w.heap.size+2<=l)/\L.length<=1000000/\Q (eD L) f) Nl H (h.kept T (fun _ _ h=>h)) (fun k I=>by rw[aT];omega) (fun w1 B F p E aH aD aE D=>by
  have⟨R,bd,aw,x,ak,v⟩:=aq w1 B F ⟨s.trans (p.mono aa),E,aH,aD,aE,D⟩;have aZ:=p.size;have ah:=(aP p C).trans C;have aN:=(aP p U).trans U;refine⟨fun i n u=>SumB bd i n/\∃d,u.heap[w.heap.size+1]? =some (Obj.cells #[d] 35 (0,0))/\u.ownsRow w1.heap.size 27 1 d ((List.range i).flatMap R).length (((List.range i).flatMap R).map (Value.int .u32))/\ax (fun k=>k=w.heap.size+1) w1 u,⟨rfl,_,aN,dx _ _ _ _,ax.refl _ _⟩,fun i n u g=>g.2.choose_spec.2.2,fun i n u g=>g.1.le aw,fun i n hi u g=>?_,fun n u g=>?_⟩
  .obtain⟨y,d,q,j,b⟩:=g;have S:=b.size;have ap:u.cell? (af w.heap.size 0)=some (.func (.func fn) #[] cs):=by
    have:=bq b ah aa;simp only[World.cell?,this];rfl
   have au:Below w.heap.size w u:=s.trans ((p.mono aa).trans (b.toBelow aa (by rintro k rfl;omega)));have aA:=FH x i;have az:i*20000<=13*20000:=nR _ aa;have aX:=x i;refine(P9 (bd:=bd i) ai ap q aa S j aa (ak i hi u au (E.kept b fun k I e=>by have:=al k I;omega))).mono ?_;rintro e a0 ⟨c,rfl,ar,aS,aG,aM,am⟩;refine⟨c,rfl,⟨n,c,y,ar,rfl⟩,aS,aG,?_,?_⟩
   .rw[pM,gX];simpa using aM
   .refine ax.strip ((b.mono fun k h=>.inl h).trans (am.mono fun k h=>?_));rcases h with h|h
    .exact .inl h
    .exact .inr (j.lt k h).1
  .obtain⟨y,d,q,j,b⟩:=g;have aA:=FH x B.length;have az:B.length*20000<=13*20000:=nR _ D;exact⟨_,d,q,dm j aa,by have:=b.size;omega,fun l e=>by have:=(j.lt l e).1;omega,aa,v n y⟩))
 have X:=ag s;have Y:=ag H;go_enter func65,ntmps65
 go_wp2_with fail
 refine V.o.mono ?_;rintro e aV ⟨B,f,u,rfl,⟨L,d,q,j,S,M,aC,v⟩,b,rfl⟩;have ao:=bq b Y.o aa;have an:Hid ((u.setCell (af Pb 3) (.int .i64 (wrap64 (eB+(f:Int))))).heap[Pb]? =some (Obj.cells #[aj Hb,dv,av,ae (wrap64 (eB+(f:Int)))] xG (0,0))):=by
  show _=_;rw[di u Pb 3 _ _ _ ao];rfl
 have K:(u.setCell (af Pb 3) (.int .i64 (wrap64 (eB+(f:Int))))).heap[w.heap.size+1]? =some (Obj.cells #[d] 35 (0,0)):=(aF (a:=(af Pb 3)) (fun e:Pb=w.heap.size+1=>aa)).trans q;have P:=aR j ((ax.refl (fun k=>k=Pb) u).set (a:=(af Pb 3)) (.int .i64 (wrap64 (eB+(f:Int)))) (.inl rfl)) (fun l e h=>by have:=M l e;omega);have Z:Hid (ax (fun k=>k=Pb) w (u.setCell (af Pb 3) (.int .i64 (wrap64 (eB+(f:Int)))))):=ax.strip ((((ax.refl (fun k=>k=Pb\/w.heap.size<=k) w).below X.o).trans (b.mono fun k h=>.inr aa)).set (a:=(af Pb 3)) _ (.inl (.inl rfl)));have r:=ag M;have ad:=ag v;have a2:(u.setCell (af Pb 3) (.int .i64 (wrap64 (eB+(f:Int))))).cell? (af (w.heap.size+1) 0)=some d:=dV K;have W:=ag (zY P aC);have ab:=ag K;obtain⟨aO,aQ,rfl,-,-,-⟩:=Rd.aJ P;generalize u.setCell (af Pb 3) (.int .i64 (wrap64 (eB+(f:Int))))=aV at*
 go_wp2_with (go_at_call 64;refine W.o.mono ?_;rintro e aU ⟨rfl,O,b⟩;have J:=bq b ab.o (fun e=>by have:=r.o _ e;omega);have a1:aU.cell? (af (w.heap.size+1) 0)=some (.slice aO L.length aQ):=(dV J);have ac:=ag O;have z:=ag b;clear O b J)
 go_ret2;refine⟨_,eD L,f,rfl,by rw[gV];exact ac.o,ad.o,ax.strip ((Z.o.mono fun k h=>.inl h).trans (z.o.mono fun k h=>.inr (by have:=r.o k h;omega))),bq z.o an.o (fun e=>by have:=r.o _ e;omega)⟩
def V8 (w:World) (GH:Nat->Prop) (fn:FuncId) (cs:Array Value) (B:List (Nat×Nat×List Pt)) (F:Nat->Nat->Prop) (r:Nat->Nat) (bd:Nat->Nat->Prop):Prop:=
 ∀(i:Nat) (hi:i<B.length) (u:World),Below w.heap.size w u->nA u GH F B->aK fn (#[aj (B[i].1)]++cs) u fun e u'=>∃c:Nat,e=.returned (.tuple #[ae (r i:Nat),ae (c:Nat)])/\bd i c/\Below u.heap.size u u'
def Qa (w:World) (Pb Hb:Nat) (dv av:Value) (eB:Int) (Q:Nat->Nat->Prop) (e:Ending) (w':World):Prop:=
 ∃(n xu:Nat),e=.returned (.tuple #[ae n,ae xu])/\Q n xu/\ax (fun k=>k=Pb) w w'/\w'.heap[Pb]? =some (Obj.cells #[aj Hb,dv,av,ae (wrap64 (eB+xu))] xG (0,0))
theorem Ke {fn:FuncId} {cs:Array Value} {Q:Nat->Nat->Prop} (L:∀args w,(callFunc fn args).run prog w=.ok (.enter fn args) w) (x:w.heap[Pb]? =some (Obj.cells #[aj Hb,dv,av,ae eB] xG (0,0))) (h:jd w Hb GH m A N wk) (P:∀k,GH k->k<w.heap.size)
  (V:∀w1 B F,CG w w1 GH A N B F->∃r bd,(∀i t,bd i t->t<=1000000)/\(∀i,r i<=20000)/\V8 w GH fn cs B F r bd/\∀n,SumB bd B.length n->Q (((List.range B.length).map r).sum) n):
  aK 73 #[aj Pb,.func (.func fn) #[] cs] w (Qa w Pb Hb dv av eB Q):=by
 have an:=(aY.1 x).1;have C:ax (fun _=>False) w ((w.alloc (.cells #[.func (.func fn) #[] cs] 128)).alloc (.cells #[ae ((0:Nat):Int)] 3)):=((ax.refl _ w).alloc _).alloc _;have q:=EG w (.cells #[.func (.func fn) #[] cs] 128) (.cells #[ae ((0:Nat):Int)] 3);have D:=Bh w (.cells #[.func (.func fn) #[] cs] 128) (.cells #[ae ((0:Nat):Int)] 3);have j:Below w.heap.size w ((w.alloc (.cells #[.func (.func fn) #[] cs] 128)).alloc (.cells #[ae ((0:Nat):Int)] 3)):=((aI _ _).alloc (aB _) _).alloc ay _;have al:((w.alloc (.cells #[.func (.func fn) #[] cs] 128)).alloc (.cells #[ae ((0:Nat):Int)] 3)).heap.size=w.heap.size+2:=ay;have y:=bq C x (fun h=>h);have E:=ag (FD (Sx:=fun k=>k=w.heap.size+1) (cs:=#[aj w.heap.size,aj (w.heap.size+1)]) (Q:=fun B b u=>∃n:Nat,u.heap[w.heap.size+1]? =some (Obj.cells #[ae (n:Nat)] 3 (0,0))/\Q n b) FE y (h.kept C (fun _ _ h=>h)) (fun k z=>by rw[al];omega) (fun w1 B F g v ah Z ab M=>by
  have⟨r,bd,Y,s,O,l⟩:=V w1 B F ⟨j.trans (g.mono aa),v,ah,Z,ab,M⟩;have ar:=g.size;have K:=(aP g q).trans q;have ak:=(aP g D).trans D;refine⟨fun i n u=>SumB bd i n/\u.heap[w.heap.size+1]? =some (Obj.cells #[ae ((((List.range i).map r).sum:Nat):Int)] 3 (0,0))/\ax (fun k=>k=w.heap.size+1) w1 u,⟨rfl,ak,ax.refl _ _⟩,fun i n u d=>d.2.2,fun i n u d=>d.1.le Y,fun i n hi u d=>?_,fun n u d=>⟨_,d.2.1,l n d.1⟩⟩;have⟨ai,p,f⟩:=d;have U:u.cell? (af w.heap.size 0)=some (.func (.func fn) #[] cs):=by
   have:=bq f K aa;simp only[World.cell?,this];rfl
  have X:Below w.heap.size w u:=j.trans ((g.mono aa).trans (f.toBelow aa (by rintro k rfl;omega)));have aq:((List.range i).map r).sum<=i*20000:=Al s i;have ap:i*20000<=13*20000:=nR _ aa;have ao:=s i;refine(H9 (bd:=bd i) L U p aa (O i hi u X (v.kept f fun k z e=>by have:=P k z;omega))).mono ?_;rintro e au ⟨c,rfl,W,ac,R⟩;exact⟨c,rfl,⟨n,c,ai,W,rfl⟩,by rw[pM,bM,rO];simpa using ac,f.trans R⟩))
 have G:=ag j;have H:=ag y;go_enter func73,ntmps73
 go_wp2_with fail
 refine E.o.mono ?_;rintro e am ⟨B,b,u,rfl,⟨n,p,l⟩,f,rfl⟩;have T:=bq f H.o aa;have S:Hid ((u.setCell (af Pb 3) (.int .i64 (wrap64 (eB+(b:Int))))).heap[Pb]? =some (Obj.cells #[aj Hb,dv,av,ae (wrap64 (eB+(b:Int)))] xG (0,0))):=by
  show _=_;rw[di u Pb 3 _ _ _ T];rfl
 have ad:(u.setCell (af Pb 3) (.int .i64 (wrap64 (eB+(b:Int))))).heap[w.heap.size+1]? =some (Obj.cells #[ae (n:Nat)] 3 (0,0)):=(aF (a:=(af Pb 3)) (fun e:Pb=w.heap.size+1=>aa)).trans p;have I:Hid (ax (fun k=>k=Pb) w (u.setCell (af Pb 3) (.int .i64 (wrap64 (eB+(b:Int)))))):=ax.strip ((((ax.refl (fun k=>k=Pb\/w.heap.size<=k) w).below G.o).trans (f.mono fun k h=>.inr aa)).set (a:=(af Pb 3)) _ (.inl (.inl rfl)));have J:=ag l;have aw:(u.setCell (af Pb 3) (.int .i64 (wrap64 (eB+(b:Int))))).cell? (af (w.heap.size+1) 0)=some (ae (n:Nat)):=dV ad;generalize u.setCell (af Pb 3) (.int .i64 (wrap64 (eB+(b:Int))))=am at*;go_wp2;go_ret2;exact⟨n,b,rfl,J.o,I.o,S.o⟩
end
end
section
open Go.RowKit Go.Sort Go.Shelf Go.Lib Go.Maps
attribute [local irreducible] wpQuiet
attribute [local go_sem] Oper.fB
def vY (l:List Pt) (x y way:Int):List Int:=if way<=3 then yR l (yS x y (decide (way%2=1)) (decide (2<=way)))else[]
theorem D7 {a:Int} (b:0<=a) (h:a<=3):a=(if decide (a%2=1)then 1 else 0)+(if decide (2<=a)then 2 else 0):=by
 have:a=0\/a=1\/a=2\/a=3:=aa;rcases this with rfl|rfl|rfl|rfl<;>decide
theorem Vn {w:World} {lo hi cb n0:Nat} {l:List Pt} (h:o7 w lo hi cb n0 l) (f:Qv l) (x y a:Int) (d:0<=a):
  aK 40 #[aj cb,ae x,ae y,.int .u8 a] w fun e w'=>∃v,∃c:Nat,e=.returned (.tuple #[v,ae ((c+(vY l x y a).length:Nat):Int)])/\c<=8*Lib.bitLen n0+1/\w'.ownsRow w.heap.size 27 1 v (vY l x y a).length ((vY l x y a).map (Value.int .u32))/\Below w.heap.size w w':=by
 unfold vY;by_cases b:a<=3
 .rw[aO b];exact O4 h f x y _ _ a (D7 d b)
 .rw[aN b];refine(G5 h x y a aa).mono ?_;rintro e w' ⟨rfl,rfl⟩;exact⟨_,0,rfl,bD _,dx _ _ _ _,aI _ _⟩
theorem Vo {w:World} {lo hi cb n0:Nat} {l:List Pt} (h:o7 w lo hi cb n0 l) (f:Qv l) (x y a:Int) (d:0<=a):
  aK 84 #[aj cb,ae x,ae y,.int .u8 a] w fun e w'=>(∃c:Nat,e=.returned (.tuple #[ae ((vY l x y a).length:Nat),ae c])/\c<=8*Lib.bitLen n0+1)/\Below w.heap.size w w':=by
 unfold vY;by_cases b:a<=3
 .rw[aO b];exact Ri h f x y _ _ a (D7 d b)
 .rw[aN b];refine(JI h x y a aa).mono ?_;rintro e w' ⟨rfl,rfl⟩;exact⟨⟨0,rfl,bD _⟩,aI _ _⟩
theorem Ia:eY 39:=bO func39 aM rfl
theorem Ib:eY 66:=bO func66 aM rfl
theorem Nn {u:World} {F:Nat->Prop} {tb n0:Nat} {l:List Pt} (h:Bk u F tb n0 l) (x1 x2 y1 y2 b:Int) {a:Nat} (k:u.cell? (af a 0)=some (ae x1)) (m:u.cell? (af a 1)=some (ae x2)) (n:u.cell? (af a 2)=some (ae y1)) (q:u.cell? (af a 3)=some (ae y2)) (r:u.cell? (af a 4)=some (ak b)):
  aK 66 #[aj tb,aj a] u fun e d=>∃v,∃t:Nat,e=.returned (.tuple #[v,ae t])/\(∃c:Nat,t=c+(hasB l x1 x2 y1 y2).length/\c<=8*Lib.bitLen n0+1)/\d.ownsRow u.heap.size 27 1 v (hasB l x1 x2 y1 y2).length ((hasB l x1 x2 y1 y2).map (Value.int .u32))/\Below u.heap.size u d:=by
 have⟨lo,m0,m1,m2,m3,m4,hi,bx,cn,hp,lw,ob,tl,sv,dn,h⟩:=h;have H:=ag h;have j:u.cell? (af tb 1)=some (aj bx):=aD h.blk;have i:ax (fun _=>False) u u.drew:=(ax.refl _ u).drew;have f:=ag (KY (H.o.box.kept i (fun _ _ _ h=>h)) x1 x2 y1 y2 b);have E:=ah j;have z:=ah k;have A:=ah m;have B:=ah n;have C:=ah q;have D:=ah r;go_enter func66,ntmps66
 go_wp2_with fail
 refine au (fun W=>∃p:aS u,W=p.W) [5,6,7,8,9] [(0,false),(1,false),(2,false),(3,true),(4,true)] ⟨⟨_,(aI _ _).drew⟩,rfl⟩ 5 ?_;refine aC 5 rfl fun K s=>?_;refine aT Ia rfl _ _ rfl (vals:=#[aj bx,.agg #[ae x1,ae x2,ae y1,ae y2,ak b]]) rfl f.o ?_;rintro e u1 ⟨v,c,rfl,x,y,w⟩;have g:Hid (Below u.heap.size u u1):=(aI _ _).drew.trans w;refine⟨_,rfl,?_⟩;refine s _ _ (fun _ h=>absurd ai h) ?_;have HO:=ag y;refine fV (fun _=>True) [8,9] aM ?_;refine bf [(6,false),(7,false)] trivial rfl ?_;refine aG [8,9] ?_;go_wp2;go_ret2;exact⟨_,_,rfl,⟨c,rfl,x⟩,HO.o,g.o⟩
theorem Kg:eY 41:=bO func41 aM rfl
theorem Kh:eY 68:=bO func68 aM rfl
theorem Qb {u:World} {F:Nat->Prop} {tb n0:Nat} {l:List Pt} (h:Bk u F tb n0 l) (x1 x2 y:Int) {a b d:Nat} (m:u.cell? (af a 0)=some (ae x1)) (n:u.cell? (af b 0)=some (ae x2)) (q:u.cell? (af d 0)=some (ae y)):
  aK 68 #[aj tb,aj a,aj b,aj d] u fun e f=>∃v,∃t:Nat,e=.returned (.tuple #[v,ae t])/\((xx l x1 x2 y).length<=t/\t<=2*(xx l x1 x2 y).length+zJ n0)/\f.ownsRow u.heap.size 27 1 v (xx l x1 x2 y).length ((xx l x1 x2 y).map (Value.int .u32))/\Below u.heap.size u f:=by
 have⟨lo,m0,m1,m2,m3,m4,hi,bx,cn,hp,lw,ob,tl,sv,dn,h⟩:=h;have H:=ag h;have k:u.cell? (af tb 3)=some (aj hp):=aD h.blk;have j:ax (fun _=>False) u u.drew:=(ax.refl _ u).drew;have g:=ag (TM (H.o.Uz.kept j (fun _ _ _ h=>h)) x1 x2 y);have C:=ah k;have z:=ah m;have A:=ah n;have B:=ah q;go_enter func68,ntmps68
 go_wp2_with fail
 refine au (fun W=>∃p:aS u,W=p.W) [7,8,9,10,11] [(0,false),(1,false),(2,false),(3,true),(4,true),(5,true),(6,true)] ⟨⟨_,(aI _ _).drew⟩,rfl⟩ 5 ?_;refine aC 7 rfl fun K r=>?_;refine aT Kg rfl _ _ rfl (vals:=#[aj hp,ae x1,ae x2,ae y]) rfl g.o ?_;rintro e u1 ⟨v,c,rfl,w,x,s⟩;have i:Hid (Below u.heap.size u u1):=(aI _ _).drew.trans s;refine⟨_,rfl,?_⟩;refine r _ _ (fun _ h=>absurd ai h) ?_;have HO:=ag x;refine fV (fun _=>True) [10,11] aM ?_;refine bf [(8,false),(9,false)] trivial rfl ?_;refine aG [10,11] ?_;go_wp2;go_ret2;exact⟨_,_,rfl,w,HO.o,i.o⟩
theorem Ic:eY 40:=bO func40 aM rfl
theorem Ie:eY 67:=bO func67 aM rfl
theorem Np {u:World} {F:Nat->Prop} {tb n0:Nat} {l:List Pt} (h:Bk u F tb n0 l) (x y a:Int) (C:Qv l) (B:0<=a) {b d f:Nat} (n:u.cell? (af b 0)=some (ae x)) (q:u.cell? (af d 0)=some (ae y)) (r:u.cell? (af f 0)=some (.int .u8 a)):
  aK 67 #[aj tb,aj b,aj d,aj f] u fun e g=>∃v,∃t:Nat,e=.returned (.tuple #[v,ae t])/\(∃c:Nat,t=c+(vY l x y a).length/\c<=8*Lib.bitLen n0+1)/\g.ownsRow u.heap.size 27 1 v (vY l x y a).length ((vY l x y a).map (Value.int .u32))/\Below u.heap.size u g:=by
 have⟨lo,m0,m1,m2,m3,m4,hi,bx,cn,hp,lw,ob,tl,sv,dn,h⟩:=h;have H:=ag h;have m:u.cell? (af tb 2)=some (aj cn):=aD h.blk;have k:ax (fun _=>False) u u.drew:=(ax.refl _ u).drew;have i:=ag (Vn (H.o.Uy.kept k (fun _ _ _ h=>h)) C x y a B);have I:=ah m;have D:=ah n;have E:=ah q;have G:=ah r;go_enter func67,ntmps67
 go_wp2_with fail
 refine au (fun W=>∃p:aS u,W=p.W) [7,8,9,10,11] [(0,false),(1,false),(2,false),(3,true),(4,true),(5,true),(6,true)] ⟨⟨_,(aI _ _).drew⟩,rfl⟩ 5 ?_;refine aC 7 rfl fun K s=>?_;refine aT Ic rfl _ _ rfl (vals:=#[aj cn,ae x,ae y,.int .u8 a]) rfl i.o ?_;rintro e u1 ⟨v,c,rfl,z,A,w⟩;have j:Hid (Below u.heap.size u u1):=(aI _ _).drew.trans w;refine⟨_,rfl,?_⟩;refine s _ _ (fun _ h=>absurd ai h) ?_;have HO:=ag A;refine fV (fun _=>True) [10,11] aM ?_;refine bf [(8,false),(9,false)] trivial rfl ?_;refine aG [10,11] ?_;go_wp2;go_ret2;exact⟨_,_,rfl,⟨c,rfl,z⟩,HO.o,j.o⟩
theorem Ki:eY 82:=bO func82 aM rfl
theorem Kj:eY 81:=bO func81 aM rfl
theorem Qc {u:World} {F:Nat->Prop} {tb n0:Nat} {l:List Pt} (h:Bk u F tb n0 l) (x1 x2 y1 y2 b:Int) {a:Nat} (j:u.cell? (af a 0)=some (ae x1)) (k:u.cell? (af a 1)=some (ae x2)) (m:u.cell? (af a 2)=some (ae y1)) (n:u.cell? (af a 3)=some (ae y2)) (q:u.cell? (af a 4)=some (ak b)):
  aK 81 #[aj tb,aj a] u fun e w=>∃t:Nat,e=.returned (.tuple #[ae ((l.filter (Dc x1 x2 y1 y2)).length:Nat),ae t])/\t<=8*Lib.bitLen n0+1/\Below u.heap.size u w:=by
 have⟨lo,m0,m1,m2,m3,m4,hi,bx,cn,hp,lw,ob,tl,sv,dn,h⟩:=h;have H:=ag h;have i:u.cell? (af tb 1)=some (aj bx):=aD h.blk;have g:ax (fun _=>False) u u.drew:=(ax.refl _ u).drew;have d:=ag (OW (H.o.box.kept g (fun _ _ _ h=>h)) x1 x2 y1 y2 b);have C:=ah i;have x:=ah j;have y:=ah k;have z:=ah m;have A:=ah n;have B:=ah q;go_enter func81,ntmps81
 go_wp2_with fail
 refine au (fun W=>∃p:aS u,W=p.W) [5,6,7,8,9] [(0,false),(1,false),(2,false),(3,true),(4,true)] ⟨⟨_,(aI _ _).drew⟩,rfl⟩ 5 ?_;refine aC 5 rfl fun K r=>?_;refine aT Ki rfl _ _ rfl (vals:=#[aj bx,.agg #[ae x1,ae x2,ae y1,ae y2,ak b]]) rfl d.o ?_;rintro e u1 ⟨⟨c,rfl,v⟩,s⟩;have f:Hid (Below u.heap.size u u1):=(aI _ _).drew.trans s;refine⟨_,rfl,?_⟩;refine r _ _ (fun _ h=>absurd ai h) ?_;refine fV (fun _=>True) [8,9] aM ?_;refine bf [(6,false),(7,false)] trivial rfl ?_;refine aG [8,9] ?_;go_wp2;go_ret2;exact⟨c,rfl,v,f.o⟩
theorem FI:eY 84:=bO func84 aM rfl
theorem FJ:eY 83:=bO func83 aM rfl
theorem Kk {u:World} {F:Nat->Prop} {tb n0:Nat} {l:List Pt} (h:Bk u F tb n0 l) (x y a:Int) (z:Qv l) (w:0<=a) {b d f:Nat} (m:u.cell? (af b 0)=some (ae x)) (n:u.cell? (af d 0)=some (ae y)) (q:u.cell? (af f 0)=some (.int .u8 a)):
  aK 83 #[aj tb,aj b,aj d,aj f] u fun e A=>∃t:Nat,e=.returned (.tuple #[ae ((vY l x y a).length:Nat),ae t])/\t<=8*Lib.bitLen n0+1/\Below u.heap.size u A:=by
 have⟨lo,m0,m1,m2,m3,m4,hi,bx,cn,hp,lw,ob,tl,sv,dn,h⟩:=h;have H:=ag h;have k:u.cell? (af tb 2)=some (aj cn):=aD h.blk;have j:ax (fun _=>False) u u.drew:=(ax.refl _ u).drew;have g:=ag (Vo (H.o.Uy.kept j (fun _ _ _ h=>h)) z x y a w);have E:=ah k;have B:=ah m;have C:=ah n;have D:=ah q;go_enter func83,ntmps83
 go_wp2_with fail
 refine au (fun W=>∃p:aS u,W=p.W) [7,8,9,10,11] [(0,false),(1,false),(2,false),(3,true),(4,true),(5,true),(6,true)] ⟨⟨_,(aI _ _).drew⟩,rfl⟩ 5 ?_;refine aC 7 rfl fun K r=>?_;refine aT FI rfl _ _ rfl (vals:=#[aj cn,ae x,ae y,.int .u8 a]) rfl g.o ?_;rintro e u1 ⟨⟨c,rfl,v⟩,s⟩;have i:Hid (Below u.heap.size u u1):=(aI _ _).drew.trans s;refine⟨_,rfl,?_⟩;refine r _ _ (fun _ h=>absurd ai h) ?_;refine fV (fun _=>True) [10,11] aM ?_;refine bf [(8,false),(9,false)] trivial rfl ?_;refine aG [10,11] ?_;go_wp2;go_ret2;exact⟨c,rfl,v,i.o⟩
theorem Qd:eY 75:=bO func75 aM rfl
theorem Qe:eY 74:=bO func74 aM rfl
theorem Uh {u:World} {F:Nat->Prop} {tb n0:Nat} {l:List Pt} (h:Bk u F tb n0 l) (x1 x2 y:Int) {d f g:Nat} (n:u.cell? (af d 0)=some (ae x1)) (q:u.cell? (af f 0)=some (ae x2)) (r:u.cell? (af g 0)=some (ae y)):
  aK 74 #[aj tb,aj d,aj f,aj g] u fun e w=>∃t:Nat,e=.returned (.tuple #[ae ((if 0<(l.filter (xw x1 x2 y)).length then 1 else 0):Nat),ae t])/\t<=zJ n0/\Below u.heap.size u w:=by
 have⟨lo,m0,m1,m2,m3,m4,hi,bx,cn,hp,lw,ob,tl,sv,dn,h⟩:=h;have H:=ag h;have m:u.cell? (af tb 3)=some (aj hp):=aD h.blk;have k:ax (fun _=>False) u u.drew:=(ax.refl _ u).drew;have j:=ag (VY (H.o.Uz.kept k (fun _ _ _ h=>h)) x1 x2 y);have B:=ah m;have x:=ah n;have z:=ah q;have A:=ah r;go_enter func74,ntmps74
 go_wp2_with fail
 refine au (fun W=>∃p:aS u,W=p.W) [7,8,9,10,11,12] [(0,false),(1,false),(2,false),(3,true),(4,true),(5,true),(6,true)] ⟨⟨_,(aI _ _).drew⟩,rfl⟩ 6 ?_;refine aC 7 rfl fun K s=>?_;refine aT Qd rfl _ _ rfl (vals:=#[aj hp,ae x1,ae x2,ae y]) rfl j.o ?_;rintro e u1 ⟨⟨c,rfl,i⟩,v⟩;have b:Hid (Below u.heap.size u u1):=(aI _ _).drew.trans v;refine⟨_,rfl,?_⟩;refine s _ _ (fun _ h=>absurd ai h) ?_;refine fV (fun _=>True) [11,12] aM ?_;refine bf [(8,false),(9,false),(10,false)] trivial rfl ?_;refine aG [11,12] ?_;by_cases a:0<(l.filter (xw x1 x2 y)).length
 .rw[decide_eq_true a];go_wp2;go_ret2;exact⟨c,by first|rfl|(simp only[a,gF];rfl)|simp[a],i,b.o⟩
 .rw[EA a];go_wp2;go_ret2;exact⟨c,by first|rfl|(simp only[a,jC];rfl)|simp[a],i,b.o⟩
end
end Go.Proofs.YtkjdbndekceffaaGreat
