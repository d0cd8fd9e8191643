/- Made small by a program. -/
import Derived.Test.YtkjdbndekceffaaGreatW17
set_option linter.unusedSimpArgs false
set_option linter.unusedVariables false
set_option maxRecDepth 100000
set_option maxHeartbeats 16000000
namespace Go.Proofs.YtkjdbndekceffaaGreat
open Tryz
section
open Go.RowKit Go.Sort Go.Shelf Go.Lib Go.Maps
attribute [local irreducible] wpQuiet
def fI (B:List (Nat×Nat×List Pt)) (i:Nat):List Pt:=(B[i]?.getD (0,0,[])).2.2
def jr (B:List (Nat×Nat×List Pt)) (i:Nat):Nat:=(B[i]?.getD (0,0,[])).2.1
theorem Je {α b:Type} (B:List α) (d:α) (g:α->List b):(List.range B.length).flatMap (fun i=>g (B[i]?.getD d))=B.flatMap g:=by
 rw[zD,zD];congr 1;refine qI (by simp) fun i c a=>?_;rw[bX]at a;rw[fJ,fJ,wQ,dw a,gq]
theorem CK (B:List (Nat×Nat×List Pt)) {a:Type} (g:List Pt->List a):(List.range B.length).flatMap (fun i=>g (fI B i))=B.flatMap fun b=>g b.2.2:=Je B (0,0,[]) fun b=>g b.2.2
theorem CL {α b:Type} {g h:α->List b}:∀(l:List α),(∀a,(g a).Perm (h a))->(l.flatMap g).Perm (l.flatMap h)
 |[],_=>.refl _
 |a::l,H=>by
  rw[lq,lq];exact(H a).append (CL l H)
theorem Jf {B:List (Nat×Nat×List Pt)} {now:List Pt} (hp:(iX B).Perm now) (f:Pt->Bool):eD ((List.range B.length).flatMap fun i=>eD (ids ((fI B i).filter f)))=eD (ids (now.filter f)):=by
 rw[CK B fun l=>eD (ids (l.filter f))];refine D7 (rA _) ((qz _ _).trans ?_);have a:(ids ((iX B).filter f)).Perm (ids (now.filter f)):=(hp.filter f).map _;refine a.symm.trans ?_;unfold iX ids;rw[List.filter_flatMap,List.map_flatMap];exact CL B fun b=>(qz _ _).symm
theorem SumB.two {bd:Nat->Nat->Prop} {r:Nat->Nat} {b:Nat} (c:∀i t,bd i t->r i<=t/\t<=2*r i+b):∀{i n:Nat},SumB bd i n->((List.range i).map r).sum<=n/\n<=2*((List.range i).map r).sum+i*b
 |0,n,a=>by simp[SumB]at a;subst a;simp
 |i+1,n,a=>by
  obtain⟨n',t,d,f,rfl⟩:=a;have g:=SumB.two c d;have h:=c i t f;have e:([i].map r).sum=r i:=by simp
  rw[uf,bS,zI,e,oU i 1 b];omega
def CO (N:Int) (L BK:Nat):Prop:=L<=BK/\∀K:Nat,N<((2^K:Nat):Int)->BK<=2*L+K*(8*K+1)
theorem bitLen_le {n K:Nat} (h:n<2^K) (f:n<=20000):Lib.bitLen n<=K:=by
 by_cases a:n=0
 .subst a;exact bf _
 .obtain⟨c,b,d⟩:=bM n (by omega) a;have e:Lib.bitLen n-1<K:=(GL (by decide:1<2)).1 (qE b h);omega
section
variable {w w1:World} {Pb m:Nat} {G GH:Nat->Prop} {now:List Pt} {A:List eG} {N wk ik:Int} {B:List (Nat×Nat×List Pt)} {F:Nat->Nat->Prop}
theorem Et.cost (T:Et w w1 GH A N B F) {r:Nat->Nat} {bd:Nat->Nat->Prop} (g:∀i t,bd i t->r i<=t/\t<=2*r i+(8*Lib.bitLen (jr B i)+1)) {n:Nat} (j:SumB bd B.length n):CO N ((List.range B.length).map r).sum n:=by
 have c:∀i,jr B i<=20000/\∀K:Nat,N<((2^K:Nat):Int)->jr B i<2^K:=fun i=>by
  unfold jr;by_cases hi:i<B.length
  .rw[dw hi];have a:=T.built _ (bN hi);refine⟨a.2,fun K f=>?_⟩;simp only[gq];omega
  .rw[nM (by omega)];exact⟨bf _,fun K _=>oV (by decide)⟩
 refine⟨(SumB.two (r:=r) (b:=2000) (fun i t h=>?_) j).1,fun K f=>?_⟩
 .have a:=g i t h;have d:Lib.bitLen (jr B i)<=15:=bitLen_le (qE (c i).1 (by decide)) (c i).1;omega
 .have a:=(SumB.two (r:=r) (b:=8*K+1) (fun i t h=>by
   have a:=g i t h;have d:=bitLen_le ((c i).2 K f) (c i).1;omega) j).2
  have d:B.length<=K:=by
   by_cases k:B.length=0
   .omega
   .have e:=T.log k;have l:((2:Int)^(B.length-1))=((2^(B.length-1):Nat):Int):=by simp
    rw[l]at e;have m:(2:Nat)^(B.length-1)<2^K:=by omega
    have o:=(GL (by decide:1<2)).1 m;omega
  have e:=oC (8*K+1) d;omega
def Ke (w:World) (Pb:Nat) (G:Nat->Prop) (m:Nat) (now:List Pt) (N wk ik:Int) (L:List Int) (e:Ending) (w':World):Prop:=
 ∃(v:Value) (BK:Nat),e=.returned (.tuple #[v,aa BK])/\w'.ownsRow w.heap.size 27 1 v L.length (L.map (Value.int .u32))/\CO N L.length BK/\au (fun k=>k=Pb) w w'/\gL w' Pb G m now N wk (wrap64 (ik+BK))
theorem nJ.at (W:nJ w G F B) {i:Nat} (hi:i<B.length):Bk w (F i) B[i].1 (jr B i) (fI B i):=by
 have h:=W.bk i hi;unfold jr fI;rwa [dw hi]
theorem nJ.few (W:nJ w G F B) (f:Pt->Bool) (i:Nat):((fI B i).filter f).length<=20000:=by
 refine bJ (gK _ _) ?_;by_cases hi:i<B.length
 .obtain⟨lo,m0,m1,m2,m3,m4,a,bx,cn,hp,lw,ob,tl,sv,dn,h⟩:=W.at hi;have:=h.box.En;omega
 .unfold fI;rw[nM (by omega)];simp
theorem nJ.U2 (hp:(iX B).Perm (A.map (·.1))) (d:∀c∈A,Gy c.1) (i:Nat):SA (fI B i):=fun p a=>by
 have b:p∈iX B:=by
  unfold fI at a;by_cases hi:i<B.length
  .rw[dw hi]at a;exact wV.2 ⟨_,bN hi,a⟩
  .rw[nM (by omega)]at a;simp at a
 obtain⟨c,e,rfl⟩:=dI.1 (hp.mem_iff.1 b);exact d c e
theorem Jg {fn:FuncId} {cs:Array Value} (f:Pt->Bool) (q:∀args w,(callFunc fn args).run prog w=.ok (.enter fn args) w) (h:gL w Pb G m now N wk ik)
  (ask:∀(u:World) (F:Nat->Prop) (tb n0:Nat) (l:List Pt),Below w.heap.size w u->Bk u F tb n0 l->SA l->aH fn (#[ah tb]++cs) u fun e d=>∃(v:Value) (t:Nat),e=.returned (.tuple #[v,aa t])/\((eD (ids (l.filter f))).length<=t/\t<=2*(eD (ids (l.filter f))).length+(8*Lib.bitLen n0+1))/\d.ownsRow u.heap.size 27 1 v (eD (ids (l.filter f))).length ((eD (ids (l.filter f))).map (Value.int .u32))/\Below u.heap.size u d):
  aH 65 #[ah Pb,.func (.func fn) #[] cs] w (Ke w Pb G m now N wk ik (eD (ids (now.filter f)))):=by
 obtain⟨Hb,Ab,base,av,GH,SD,A,D,ALL,a,rfl,s⟩:=h;have x:=a.half.facts.2.2.2.2.1;refine(Qp (Q:=fun L n=>L=eD (ids ((A.map (·.1)).filter f))/\CO N L.length n) q a.blk a.half (fun k E=>(a.qy.1 k E).2.2.2) ?_).mono ?_
 .intro w1 B F T;have p:∀i,(eD (ids ((fI B i).filter f))).length=((fI B i).filter f).length:=fun i=>by rw[jC];exact bX _
  have o:=fun i=>T.wd.few f i;refine⟨fun i=>eD (ids ((fI B i).filter f)),fun i t=>(eD (ids ((fI B i).filter f))).length<=t/\t<=2*(eD (ids ((fI B i).filter f))).length+(8*Lib.bitLen (jr B i)+1)/\jr B i<=20000,fun i t ht=>?_,fun i=>by rw[p];exact o i,fun i hi u b y=>?_,fun n H=>⟨Jf T.perm f,?_⟩⟩
  .have g:=o i
   replace ht:(eD (ids ((fI B i).filter f))).length<=t/\t<=2*(eD (ids ((fI B i).filter f))).length+(8*Lib.bitLen (jr B i)+1)/\jr B i<=20000:=ht
   have j:Lib.bitLen (jr B i)<=15:=bitLen_le (qE ht.2.2 (by decide)) ht.2.2;rw[p]at ht;omega
  .refine(ask u (F i) B[i].1 (jr B i) (fI B i) b (y.at hi) (nJ.U2 T.perm x i)).mono ?_;rintro e d ⟨v,t,rfl,ht,c,z⟩;refine⟨v,t,rfl,⟨ht.1,ht.2,?_⟩,c,z⟩;unfold jr;rw[dw hi];exact(T.built _ (bN hi)).2
  .have g:=T.cost (r:=fun i=>(eD (ids ((fI B i).filter f))).length) (fun i t ht=>⟨ht.1,ht.2.1⟩) H;have j:(eD ((List.range B.length).flatMap fun i=>eD (ids ((fI B i).filter f)))).length=((List.range B.length).map fun i=>(eD (ids ((fI B i).filter f))).length).sum:=by rw[jC,List.length_flatMap]
   rw[j];exact g
 .rintro e w' ⟨v,L,I,rfl,c,⟨rfl,C⟩,K,b⟩;exact⟨v,I,rfl,c,C,K,Hb,Ab,base,av,GH,SD,A,D,ALL,a.QV K b,rfl,s⟩
def Ma (x y way:Int) (p:Pt):Bool:=decide (way<=3)&&AB x y (decide (way%2=1)) (decide (2<=way)) p
theorem Qv (l:List Pt) (x y a:Int):Ev l x y a=eD (ids (l.filter (Ma x y a))):=by
 unfold Ev Ma;by_cases b:a<=3
 .simp only[b,gD,decide_true,Bool.true_and];rfl
 .simp only[b,jA,decide_false,Bool.false_and];rw[wK.2 (by simp)];exact Nu.symm
theorem OG (h:gL w Pb G m now N wk ik) (x1 x2 y1 y2 a:Int):aH 17 #[ah Pb,.agg #[aa x1,aa x2,aa y1,aa y2,ai a]] w (Ke w Pb G m now N wk ik (eD (ids (now.filter (Jy x1 x2 y1 y2))))):=by
 have s:Below w.heap.size w (w.alloc (.cells #[aa x1,aa x2,aa y1,aa y2,ai a] 38)):=(aB _ _).alloc (ay _) _;have sz:(w.alloc (.cells #[aa x1,aa x2,aa y1,aa y2,ai a] 38)).heap.size=w.heap.size+1:=by simp
 have i:(w.alloc (.cells #[aa x1,aa x2,aa y1,aa y2,ai a] 38)).heap[w.heap.size]? =some (Obj.cells #[aa x1,aa x2,aa y1,aa y2,ai a] 38 (0,0)):=by
  have q:=di w (.cells #[aa x1,aa x2,aa y1,aa y2,ai a] 38);have e:w.heap.size=w.heap.size:=by simp
  rw[e]at q;exact q
 have j:=af (Jg (fn:=66) (cs:=#[ah w.heap.size]) (Jy x1 x2 y1 y2) Gh (h.below s) fun u F tb n0 l y x C=>by
  have b:=(aL y i).trans i;refine(LY x x1 x2 y1 y2 a (by simp only[World.cell?,b];rfl) (by simp only[World.cell?,b];rfl) (by simp only[World.cell?,b];rfl) (by simp only[World.cell?,b];rfl) (by simp only[World.cell?,b];rfl)).mono ?_;rintro e D ⟨v,t,rfl,⟨c,rfl,g⟩,f,z⟩;exact⟨v,_,rfl,⟨Nat.le_add_left _ _,by unfold hasB at*;omega⟩,f,z⟩)
 have d:au (fun k=>k=Pb) w (w.alloc (.cells #[aa x1,aa x2,aa y1,aa y2,ai a] 38)):=(au.refl _ w).alloc _;have d:=af d;have A:=af sz;go_enter func17,ntmps17
 go_wp2_with fail
 refine j.o.mono ?_;rintro e E ⟨v,B,rfl,f,g,K,hP⟩;have HO:=af f;have r:=af hP;have p:=af K;have n:=af g;go_wp2;go_ret2;exact⟨v,B,rfl,eu HO.o (by rw[A.o];omega),n.o,d.o.trans p.o,r.o⟩
theorem Qw (h:gL w Pb G m now N wk ik) (x1 x2 y:Int):aH 19 #[ah Pb,aa x1,aa x2,aa y] w (Ke w Pb G m now N wk ik (eD (ids (now.filter (JL x1 x2 y))))):=by
 have r:Below w.heap.size w (((w.alloc (.cells #[aa x1] 2)).alloc (.cells #[aa x2] 2)).alloc (.cells #[aa y] 2)):=(((aB _ _).alloc (ay _) _).alloc (by simp) _).alloc (by simp;omega) _;have sz:(((w.alloc (.cells #[aa x1] 2)).alloc (.cells #[aa x2] 2)).alloc (.cells #[aa y] 2)).heap.size=w.heap.size+3:=by simp
 have d:(((w.alloc (.cells #[aa x1] 2)).alloc (.cells #[aa x2] 2)).alloc (.cells #[aa y] 2)).heap[w.heap.size]? =some (Obj.cells #[aa x1] 2 (0,0)):=by
  have q:=di w (.cells #[aa x1] 2);have e:w.heap.size=w.heap.size:=by simp
  rw[e]at q;exact(bY _ _ _ (by simp;try omega)).trans ((bY _ _ _ (by simp;try omega)).trans (q))
 have f:(((w.alloc (.cells #[aa x1] 2)).alloc (.cells #[aa x2] 2)).alloc (.cells #[aa y] 2)).heap[w.heap.size+1]? =some (Obj.cells #[aa x2] 2 (0,0)):=by
  have q:=di (w.alloc (.cells #[aa x1] 2)) (.cells #[aa x2] 2);have e:(w.alloc (.cells #[aa x1] 2)).heap.size=w.heap.size+1:=by simp
  rw[e]at q;exact(bY _ _ _ (by simp;try omega)).trans (q)
 have g:(((w.alloc (.cells #[aa x1] 2)).alloc (.cells #[aa x2] 2)).alloc (.cells #[aa y] 2)).heap[w.heap.size+2]? =some (Obj.cells #[aa y] 2 (0,0)):=by
  have q:=di ((w.alloc (.cells #[aa x1] 2)).alloc (.cells #[aa x2] 2)) (.cells #[aa y] 2);have e:((w.alloc (.cells #[aa x1] 2)).alloc (.cells #[aa x2] 2)).heap.size=w.heap.size+2:=by simp
  rw[e]at q;exact q
 have i:=af (Jg (fn:=68) (cs:=#[ah w.heap.size,ah (w.heap.size+1),ah (w.heap.size+2)]) (JL x1 x2 y) I9 (h.below r) fun u F tb n0 l b s J=>by
  have D:=(aL b d).trans d;have E:=(aL b f).trans f;have H:=(aL b g).trans g;refine(OB s x1 x2 y (by simp only[World.cell?,D];rfl) (by simp only[World.cell?,E];rfl) (by simp only[World.cell?,H];rfl)).mono ?_;rintro e L ⟨v,t,rfl,⟨A,B⟩,c,x⟩;exact⟨v,t,rfl,⟨A,bJ B (by unfold JW vZ;omega)⟩,c,x⟩)
 have a:au (fun k=>k=Pb) w (((w.alloc (.cells #[aa x1] 2)).alloc (.cells #[aa x2] 2)).alloc (.cells #[aa y] 2)):=(((au.refl _ w).alloc _).alloc _).alloc _;have a:=af a;have C:=af sz;go_enter func19,ntmps19
 go_wp2_with fail
 refine i.o.mono ?_;rintro e M ⟨v,I,rfl,c,z,K,hP⟩;have HO:=af c;have p:=af hP;have n:=af K;have j:=af z;go_wp2;go_ret2;exact⟨v,I,rfl,eu HO.o (by rw[C.o];omega),j.o,a.o.trans n.o,p.o⟩
theorem OH (h:gL w Pb G m now N wk ik) (x y a:Int) (B:0<=a):aH 18 #[ah Pb,aa x,aa y,.int .u8 a] w (Ke w Pb G m now N wk ik (eD (ids (now.filter (Ma x y a))))):=by
 have A:Below w.heap.size w (((w.alloc (.cells #[aa x] 2)).alloc (.cells #[aa y] 2)).alloc (.cells #[.int .u8 a] 5)):=(((aB _ _).alloc (ay _) _).alloc (by simp) _).alloc (by simp;omega) _;have sz:(((w.alloc (.cells #[aa x] 2)).alloc (.cells #[aa y] 2)).alloc (.cells #[.int .u8 a] 5)).heap.size=w.heap.size+3:=by simp
 have i:(((w.alloc (.cells #[aa x] 2)).alloc (.cells #[aa y] 2)).alloc (.cells #[.int .u8 a] 5)).heap[w.heap.size]? =some (Obj.cells #[aa x] 2 (0,0)):=by
  have q:=di w (.cells #[aa x] 2);have e:w.heap.size=w.heap.size:=by simp
  rw[e]at q;exact(bY _ _ _ (by simp;try omega)).trans ((bY _ _ _ (by simp;try omega)).trans (q))
 have j:(((w.alloc (.cells #[aa x] 2)).alloc (.cells #[aa y] 2)).alloc (.cells #[.int .u8 a] 5)).heap[w.heap.size+1]? =some (Obj.cells #[aa y] 2 (0,0)):=by
  have q:=di (w.alloc (.cells #[aa x] 2)) (.cells #[aa y] 2);have e:(w.alloc (.cells #[aa x] 2)).heap.size=w.heap.size+1:=by simp
  rw[e]at q;exact(bY _ _ _ (by simp;try omega)).trans (q)
 have n:(((w.alloc (.cells #[aa x] 2)).alloc (.cells #[aa y] 2)).alloc (.cells #[.int .u8 a] 5)).heap[w.heap.size+2]? =some (Obj.cells #[.int .u8 a] 5 (0,0)):=by
  have q:=di ((w.alloc (.cells #[aa x] 2)).alloc (.cells #[aa y] 2)) (.cells #[.int .u8 a] 5);have e:((w.alloc (.cells #[aa x] 2)).alloc (.cells #[aa y] 2)).heap.size=w.heap.size+2:=by simp
  rw[e]at q;exact q
 have p:=af (Jg (fn:=67) (cs:=#[ah w.heap.size,ah (w.heap.size+1),ah (w.heap.size+2)]) (Ma x y a) Gj (h.below A) fun u F tb n0 l d C E=>by
  have I:=(aL d i).trans i;have J:=(aL d j).trans j;have L:=(aL d n).trans n;refine(LZ C x y a E B (by simp only[World.cell?,I];rfl) (by simp only[World.cell?,J];rfl) (by simp only[World.cell?,L];rfl)).mono ?_;rw[Qv];rintro e O ⟨v,t,rfl,⟨c,rfl,g⟩,f,D⟩;exact⟨v,_,rfl,⟨Nat.le_add_left _ _,by omega⟩,f,D⟩)
 have b:au (fun k=>k=Pb) w (((w.alloc (.cells #[aa x] 2)).alloc (.cells #[aa y] 2)).alloc (.cells #[.int .u8 a] 5)):=(((au.refl _ w).alloc _).alloc _).alloc _;have b:=af b;have H:=af sz;go_enter func18,ntmps18
 go_wp2_with fail
 refine p.o.mono ?_;rintro e P ⟨v,M,rfl,f,g,K,hP⟩;have HO:=af f;have z:=af hP;have s:=af K;have r:=af g;go_wp2;go_ret2;exact⟨v,M,rfl,eu HO.o (by rw[H.o];omega),r.o,b.o.trans s.o,z.o⟩
end
end
section
open Go.RowKit Go.Sort Go.Shelf Go.Lib Go.Maps
attribute [local irreducible] wpQuiet
attribute [local go_sem] Oper.fo
def lowMin (s:Option Pt):Option Pt->Option Pt
 |none=>s
 |some p=>match s with
  |none=>some p
  |some q=>if nA p q<0 then some p else some q
def sI (l:List Pt) (x1 x2:Int):Option Pt:=(Ml l x1 x2).head?
theorem au.Ex {S:Nat->Prop} {w w':World} (K:au S w w') {g:Nat} (b:S g) (cs:Array Value):au S w (w'.setRow g cs):=
 ⟨K.os,K.tape,K.output,by rw[setRow_size];exact K.size,fun k c a=>(setRow_other w' g k cs (fun e=>a (e▸b))).trans (K.block k c a)⟩
def Ey (s:Option Pt):Obj:=.cells #[.bool s.isSome] 4 (0,0)
theorem Gp:∀args w,(callFunc 42 args).run prog w=.ok (.enter 42 args) w:=cK func42 (by kernel_rfl) rfl
theorem OI:∀args w,(callFunc 70 args).run prog w=.ok (.enter 70 args) w:=cK func70 (by kernel_rfl) rfl
theorem Sj {u:World} {F:Nat->Prop} {tb n0:Nat} {l:List Pt} (h:Bk u F tb n0 l) (x1 x2:Int) (s:Option Pt) {ar av fb d:Nat} (ax:u.cell? (ae ar 0)=some (aa x1)) (ay:u.cell? (ae av 0)=some (aa x2)) (ab:u.heap[fb]? =some (Ey s)) (hp:u.heap[d]? =some (wG (s.getD (0,0,0)))) (S:fb≠d):
  aH 70 #[ah tb,ah ar,ah av,ah fb,ah d] u fun e ad=>∃t:Nat,e=.returned (aa t)/\t<=tq n0/\ad.heap[fb]? =some (Ey (lowMin s (sI l x1 x2)))/\ad.heap[d]? =some (wG ((lowMin s (sI l x1 x2)).getD (0,0,0)))/\au (fun k=>k=fb\/k=d) u ad:=by
 obtain⟨lo,m0,m1,m2,m3,m4,hi,bx,cn,bb,lw,ob,tl,sv,dn,h⟩:=h;have H:=af h;have aw:u.cell? (ae tb 4)=some (ah lw):=by simp[World.cell?,h.blk]
 have G:Hid (∀W,Below u.heap.size u W->aH 42 #[ah lw,aa x1,aa x2] W fun e w'=>(∃c:Nat,e=.returned (.tuple #[iD ((sI l x1 x2).getD (0,0,0)).1 ((sI l x1 x2).getD (0,0,0)).2.1 ((sI l x1 x2).getD (0,0,0)).2.2,.bool (sI l x1 x2).isSome,aa c])/\c<=tq n0)/\Below W.heap.size W w'):=fun W a0=>by
  refine(Qb (H.o.low.kept ((au.refl (fun _=>False) u).below a0) (fun _ _ _ h=>h)) x1 x2).mono ?_;rintro e w' ⟨⟨p,hp,c,a2,A⟩,a1⟩;subst hp;exact⟨⟨c,a2,A⟩,a1⟩
 have Z:=ag aw;have X:=ag ax;have Y:=ag ay;have a3:=(aZ.1 ab).1;have a4:=(aZ.1 hp).1;have aS:=af ab;have aU:=af hp;clear h aw ab hp ax ay;generalize sI l x1 x2=r at*;go_enter func70,ntmps70
 go_upto_region 1 with fail
 go_cut [7,8,9]from 10 (fun a5 a6 a7 aR=>∃g c:Nat,a5=ah g/\a6=.bool r.isSome/\a7=.int .i64 c/\Hid (c<=tq n0)/\Hid (Below u.heap.size u aR)/\Hid (u.heap.size<=g)/\Hid (aR.heap[g]? =some (wG (r.getD (0,0,0)))))
 case first=>
  refine ak (fun W=>∃p:aT u,W=p.W) [6,7,8,9,10,12,13,14] [(0,false),(1,false),(2,false),(3,true),(4,true),(5,true)] ⟨⟨_,(aB _ _).drew⟩,rfl⟩ 9 ?_;simp only[bn,aX,aY,aW,aN,aM,aO]
  repeat(refine aD (fun K b=>?_);go_simp;first|(refine b _ ?_;clear b K)|(apply Exists.intro;refine⟨fun _=>?_,b _ ?_⟩;rfl;clear b K))
  refine aJ ?_;have w:Below u.heap.size u u.drew:=(aB _ _).drew;generalize u.drew=w0 at*;refine eT [6,11] (by kernel_rfl) (by simp) ?_;refine bA.cons rfl (fun K b=>?_) (bA.cons rfl (fun K b=>?_) bA.nil)
  .refine bg Gp rfl _ _ rfl (vals:=#[ah lw,aa x1,aa x2]) rfl (G.o _ w) ?_;rintro e w1 ⟨⟨c,rfl,A⟩,aC⟩;have n:=w.trans (aC.mono w.size);refine⟨_,rfl,?_⟩;refine b _ _ (fun _ h=>absurd (by decide) h) ?_;clear b K Z X Y G;have x:=af A;refine bG [(7,false),(8,false),(9,false),(10,false)] ⟨⟨_,n⟩,rfl⟩ rfl ?_;simp only[bn,aX,aY,aW,aN,aM,aO]
   repeat(refine aD (fun K b=>?_);go_simp;first|(refine b _ ?_;clear b K)|(apply Exists.intro;refine⟨fun _=>?_,b _ ?_⟩;rfl;clear b K))
   refine aJ ?_;refine aA 11 rfl fun K b=>?_;go_simp;obtain⟨w2,Q⟩:∃W,W=w1.alloc (.cells #[aa 0,aa 0,ai 0] 29):=⟨_,rfl⟩;have E:w2.heap[w1.heap.size]? =some (wG (0,0,0)):=by rw[Q];exact di w1 _
   have B:Below u.heap.size u w2:=by rw[Q];exact n.alloc n.size _
   rw[<-Q];clear Q;refine b _ _ (fun _ _=>⟨⟨_,B⟩,rfl⟩) ?_;clear b K;refine aF [12,13,14] _ _ _ (by kernel_rfl) ?_;simp only[pick,aX,aY,aW,aN,aM];have z:=af B;have ao:=af E;have aP:=af n.size;clear w n B E aC A;refine tL rfl 29 (.tmp 7) (.tmp 18) rfl rfl w1.heap.size #[aa (r.getD (0,0,0)).1,aa (r.getD (0,0,0)).2.1,ai (r.getD (0,0,0)).2.2] rfl rfl _ _ ao.o (by kernel_rfl) rfl (by simp[Value.oneCell']) ?_
   go_wp2_with fail
   go_meet;exact⟨_,c,rfl,rfl,rfl,x,af (xq z.o aP.o _),aP,af (qQ _ _ _ _ _ _ ao.o)⟩
  .go_simp;obtain⟨w1,P⟩:∃W,W=w0.alloc (.cells #[aa 0,aa 0,ai 0] 29):=⟨_,rfl⟩;have E:w1.heap[w0.heap.size]? =some (wG (0,0,0)):=by rw[P];exact di w0 _
   have n:Below u.heap.size u w1:=by rw[P];exact w.alloc w.size _
   rw[<-P];clear P;refine b _ _ (fun _ _=>⟨⟨_,n⟩,rfl⟩) ?_;clear b K;refine aA 6 rfl fun K b=>?_;refine bg Gp rfl _ _ rfl (vals:=#[ah lw,aa x1,aa x2]) rfl (G.o _ n) ?_;rintro e w2 ⟨⟨c,rfl,A⟩,f⟩;have B:=n.trans (f.mono n.size);have aq:=(f.block _ (aZ.1 E).1).trans E;refine⟨_,rfl,?_⟩;refine b _ _ (fun _ h=>absurd (by decide) h) ?_;clear b K Z X Y G;have x:=af A;refine iI (fun _=>True) [12,13,14] (by kernel_rfl) ?_;refine bG [(7,false),(8,false),(9,false),(10,false)] trivial rfl ?_;simp only[bn,aX,aY,aW,aN,aM,aO]
   repeat(refine aD (fun K b=>?_);go_simp;first|(refine b _ ?_;clear b K)|(apply Exists.intro;refine⟨fun _=>?_,b _ ?_⟩;rfl;clear b K))
   refine aJ ?_;refine aF [12,13,14] _ _ _ (by kernel_rfl) ?_;simp only[pick,aX,aY,aW,aN,aM];have z:=af B;have ap:=af aq;have aG:=af w.size;clear w n B E aq f A;refine tL rfl 29 (.tmp 7) (.tmp 18) rfl rfl w0.heap.size #[aa (r.getD (0,0,0)).1,aa (r.getD (0,0,0)).2.1,ai (r.getD (0,0,0)).2.2] rfl rfl _ _ ap.o (by kernel_rfl) rfl (by simp[Value.oneCell']) ?_
   go_wp2_with fail
   go_meet;exact⟨_,c,rfl,rfl,rfl,x,af (xq z.o aG.o _),aG,af (qQ _ _ _ _ _ _ ap.o)⟩
 case rest=>
  obtain⟨g,c,rfl,rfl,rfl,x,v,a9,V⟩:=hcut;have C:=(v.o.block fb a3).trans aS.o;have O:=(v.o.block d a4).trans aU.o;have D:=af C;have y:=af O;have aQ:=v.o.size;have ba:=af aQ;clear Z X Y G aQ;cases r with
  |none=>
   simp only[Option.isSome_none,lowMin,l6]at*;clear C O;go_wp2;go_ret;exact⟨c,rfl,x.o,D.o,y.o,((au.refl (fun k=>k=fb\/k=d) u).below v.o)⟩
  |some p=>
   obtain⟨i,j,m⟩:=p;simp only[Option.isSome_some,gq]at*;obtain⟨aj,al,am⟩:=gp V.o;simp only at aj al am;cases s with
   |none=>
    have f0:wc.cell? (ae fb 0)=some (.bool false):=by simp[World.cell?,C,Ey]
    have aV:=af (qQ wc d _ #[aa i,aa j,ai m] _ _ y.o);have HO:=af ((setRow_other wc d fb #[aa i,aa j,ai m] S).trans D.o);have f1:(wc.setRow d #[aa i,aa j,ai m]).cell? (ae fb 0)=some (.bool false):=by simp[World.cell?,HO.o,Ey]
    have f2:(wc.setRow d #[aa i,aa j,ai m]).frozen? (ae fb 0)=false:=by simp[World.frozen?,HO.o,Ey]
    clear C O
    go_wp2_with (refine tL rfl 29 (.tmp 4) (.tmp 32) rfl rfl d #[aa i,aa j,ai m] rfl rfl _ _ y.o (by kernel_rfl) rfl (by simp[Value.oneCell']) ?_)
    go_ret;refine⟨c,rfl,x.o,?_,(az (a:=(ae fb 0)) S).trans aV.o,(((au.refl (fun k=>k=fb\/k=d) u).below v.o).Ex (.inr rfl) _).set (a:=(ae fb 0)) _ (.inl (show fb=fb\/fb=d from .inl rfl))⟩;rw[dA _ fb 0 _ _ _ HO.o];rfl
   |some q=>
    have f0:wc.cell? (ae fb 0)=some (.bool true):=by simp[World.cell?,C,Ey]
    obtain⟨J,L,M⟩:=q;obtain⟨a8,y1,y2⟩:=gp y.o;simp only[gq]at a8 y1 y2;have CB:=af (NK (i,j,m) (J,L,M) wc);generalize aE:nA (i,j,m) (J,L,M)=ac at*;have an:=af aE;clear aE C O;by_cases R:ac<0
    .have hd:decide (ac<0)=true:=decide_eq_true R;have I:lowMin (some (J,L,M)) (some (i,j,m))=some (i,j,m):=by simp only[lowMin];rw[an.o,aK R]
     have T:=af I;clear I
     go_wp2_with (first|(go_at_call 71;refine CB.o.mono ?_;rintro e w2 ⟨rfl,f⟩;obtain⟨aj,al,am⟩:=gp ((f.block g (aZ.1 V.o).1).trans V.o);simp only at aj al am;have z:=af (v.o.trans (f.mono v.o.size));have N:=af ((aL f y.o).trans y.o);have U:=af ((aL f D.o).trans D.o);have HO:=af ((setRow_other w2 d fb #[aa i,aa j,ai m] S).trans U.o);have f1:(w2.setRow d #[aa i,aa j,ai m]).cell? (ae fb 0)=some (.bool true):=(by simp[World.cell?,HO.o,Ey]);have f2:(w2.setRow d #[aa i,aa j,ai m]).frozen? (ae fb 0)=false:=(by simp[World.frozen?,HO.o,Ey]);clear f)|(refine tL rfl 29 (.tmp 4) (.tmp 32) rfl rfl d #[aa i,aa j,ai m] rfl rfl _ _ N.o (by kernel_rfl) rfl (by simp[Value.oneCell']) ?_))
     go_ret;rw[T.o];refine⟨c,rfl,x.o,?_,(az (a:=(ae fb 0)) S).trans (qQ _ _ _ _ _ _ N.o),(((au.refl (fun k=>k=fb\/k=d) u).below z.o).Ex (.inr rfl) _).set (a:=(ae fb 0)) _ (.inl (show fb=fb\/fb=d from .inl rfl))⟩;rw[dA _ fb 0 _ _ _ HO.o];rfl
    .have hd:decide (ac<0)=false:=Dt R;have I:lowMin (some (J,L,M)) (some (i,j,m))=some (J,L,M):=by simp only[lowMin];rw[an.o,aI R]
     have T:=af I;clear I
     go_wp2_with (go_at_call 71;refine CB.o.mono ?_;rintro e w2 ⟨rfl,f⟩;have z:=af (v.o.trans (f.mono v.o.size));have N:=af ((aL f y.o).trans y.o);have U:=af ((aL f D.o).trans D.o);clear f)
     go_ret;rw[T.o];exact⟨c,rfl,x.o,U.o,N.o,((au.refl (fun k=>k=fb\/k=d) u).below z.o)⟩
def Bo (x1 x2:Int) (l:List Pt):Option Pt->Prop
 |none=>∀p∈l,yR x1 x2 p=false
 |some p=>p∈l/\yR x1 x2 p=true/\∀q∈l,yR x1 x2 q=true->¬sG q p
theorem Ez (l:List Pt) (x1 x2:Int):Bo x1 x2 l (sI l x1 x2):=by
 have hp:=iM (l.filter (yR x1 x2));have f:(jP (l.filter (yR x1 x2))).Pairwise fun p q=>Mk p q=true:=qA (le:=Mk) (fun p q r g i=>by simp only[Mk,nO,iA]at*;unfold sG at*;omega) (fun p q=>by simp only[Mk,zF,nO,iA];unfold sG;omega) _;unfold sI Ml;generalize jP (l.filter (yR x1 x2))=S at*;cases S with
 |nil=>
  intro p c;cases h:yR x1 x2 p with
  |false=>rfl
  |true=>exact absurd (hp.mem_iff.2 (bK.2 ⟨c,h⟩)) gZ
 |cons p T=>
  have a:=bK.1 (hp.mem_iff.1 mZ);refine⟨a.1,a.2,fun q d e h=>?_⟩;rcases gP.1 (hp.mem_iff.2 (bK.2 ⟨d,e⟩))with rfl|h2
  .exact ve _ h
  .have b:=(lh.1 f).1 q h2;unfold Mk at b;simp[h]at b
theorem Mc {x1 x2:Int} {l k:List Pt} {s r:Option Pt} (b:Bo x1 x2 l s) (c:Bo x1 x2 k r):Bo x1 x2 (l++k) (lowMin s r):=by
 cases r with
 |none=>
  cases s with
  |none=>exact fun p hp=>(bT.1 hp).elim (b p) (c p)
  |some q=>exact⟨bT.2 (.inl b.1),b.2.1,fun p hp a=>(bT.1 hp).elim (fun h=>b.2.2 p h a) (fun h=>absurd a (by rw[c p h];simp))⟩
 |some p=>
  cases s with
  |none=>exact⟨bT.2 (.inr c.1),c.2.1,fun q f a=>(bT.1 f).elim (fun h=>absurd a (by rw[b q h];simp)) (fun h=>c.2.2 q h a)⟩
  |some q=>
   simp only[lowMin];by_cases d:nA p q<0
   .rw[aK d];rw[pK]at d;refine⟨bT.2 (.inr c.1),c.2.1,fun t ht a=>(bT.1 ht).elim (fun h e=>b.2.2 t h a (rR e d)) (fun h=>c.2.2 t h a)⟩
   .rw[aI d];rw[pK]at d;refine⟨bT.2 (.inl b.1),b.2.1,fun t ht a=>(bT.1 ht).elim (fun h=>b.2.2 t h a) (fun h e=>?_)⟩;have:=c.2.2 t h a;unfold sG at*;omega
theorem CP {x1 x2:Int} {l k:List Pt} (hp:k.Perm l) (hu:(ids l).Nodup) {s r:Option Pt} (a:Bo x1 x2 l s) (b:Bo x1 x2 k r):s=r:=by
 cases s with
 |none=>
  cases r with
  |none=>rfl
  |some p=>exact absurd b.2.1 (by rw[a p (hp.mem_iff.1 b.1)];simp)
 |some q=>
  cases r with
  |none=>exact absurd a.2.1 (by rw[b q (hp.mem_iff.2 a.1)];simp)
  |some p=>
   have c:=a.2.2 p (hp.mem_iff.1 b.1) b.2.1;have d:=b.2.2 q (hp.mem_iff.2 a.1) a.2.1;rw[O4 hu a.1 (hp.mem_iff.1 b.1) (by unfold sG at*;omega)]
def Md (B:List (Nat×Nat×List Pt)) (x1 x2:Int):Nat->Option Pt
 |0=>none
 |i+1=>lowMin (Md B x1 x2 i) (sI (fI B i) x1 x2)
theorem Kg (B:List (Nat×Nat×List Pt)) (x1 x2:Int):∀i,Bo x1 x2 ((List.range i).flatMap (fI B)) (Md B x1 x2 i)
 |0=>fun p hp=>by simp at hp
 |i+1=>by
  rw[uf,gM];have e:[i].flatMap (fI B)=fI B i:=by simp
  rw[e];exact Mc (Kg B x1 x2 i) (Ez _ _ _)
theorem Gq {B:List (Nat×Nat×List Pt)} {now:List Pt} (hp:(iX B).Perm now) (hu:(ids now).Nodup) (x1 x2:Int):Md B x1 x2 B.length=sI now x1 x2:=by
 have a:=Kg B x1 x2 B.length;rw[show(List.range B.length).flatMap (fI B)=iX B from CK B fun l=>l]at a;exact(CP hp hu (Ez now x1 x2) a).symm
section
variable {w w1:World} {Pb m:Nat} {G GH:Nat->Prop} {now:List Pt} {A:List eG} {N wk ik:Int}
def TQ (w:World) (Pb:Nat) (G:Nat->Prop) (m:Nat) (now:List Pt) (N wk ik:Int) (o:Option Pt) (e:Ending) (w':World):Prop:=
 ∃BK:Nat,e=.returned (.tuple #[iD (o.getD (0,0,0)).1 (o.getD (0,0,0)).2.1 (o.getD (0,0,0)).2.2,.bool o.isSome,aa BK])/\CO N 0 BK/\au (fun k=>k=Pb) w w'/\gL w' Pb G m now N wk (wrap64 (ik+BK))
def wD (w:World) (x1 x2:Int):World:=((((w.alloc (.cells #[aa x1] 2)).alloc (.cells #[aa x2] 2)).alloc (.cells #[aa 0,aa 0,ai 0] 29)).alloc (.cells #[aa 0,aa 0,ai 0] 29)).alloc (.cells #[.bool false] 4)
theorem Bp (w:World) (x1 x2:Int):Below w.heap.size w (wD w x1 x2)/\(wD w x1 x2).heap.size=w.heap.size+5/\(wD w x1 x2).heap[w.heap.size]? =some (.cells #[aa x1] 2 (0,0))/\(wD w x1 x2).heap[w.heap.size+1]? =some (.cells #[aa x2] 2 (0,0))/\
  (wD w x1 x2).heap[w.heap.size+1+1]? =some (wG (0,0,0))/\(wD w x1 x2).heap[w.heap.size+1+1+1]? =some (wG (0,0,0))/\(wD w x1 x2).heap[w.heap.size+1+1+1+1]? =some (Ey none):=by
 obtain⟨b,a⟩:∃W,W=wD w x1 x2:=⟨_,rfl⟩;rw[<-a];unfold wD at a;have c:Below w.heap.size w b:=by
  rw[a];exact(((((aB _ _).alloc (ay _) _).alloc (by simp) _).alloc (by simp<;>omega) _).alloc (by simp<;>omega) _).alloc (by simp<;>omega) _
 have sz:b.heap.size=w.heap.size+5:=by rw[a];simp
 have d:b.heap[w.heap.size]? =some (.cells #[aa x1] 2 (0,0)):=by
  rw[a];exact(bY _ _ _ (by simp<;>omega)).trans ((bY _ _ _ (by simp<;>omega)).trans ((bY _ _ _ (by simp<;>omega)).trans ((bY _ _ _ (by simp)).trans (di w _))))
 have e:b.heap[w.heap.size+1]? =some (.cells #[aa x2] 2 (0,0)):=by
  rw[a];exact(bY _ _ _ (by simp<;>omega)).trans ((bY _ _ _ (by simp<;>omega)).trans ((bY _ _ _ (by simp)).trans (xx w (.cells #[aa x1] 2) (.cells #[aa x2] 2))))
 have f:b.heap[w.heap.size+1+1]? =some (wG (0,0,0)):=by
  rw[a];exact(bY _ _ _ (by simp<;>omega)).trans ((bY _ _ _ (by simp)).trans (by have:=di ((w.alloc (.cells #[aa x1] 2)).alloc (.cells #[aa x2] 2)) (.cells #[aa 0,aa 0,ai 0] 29);rwa [show((w.alloc (.cells #[aa x1] 2)).alloc (.cells #[aa x2] 2)).heap.size=w.heap.size+1+1 by simp]at this))
 have g:b.heap[w.heap.size+1+1+1]? =some (wG (0,0,0)):=by
  rw[a];exact(bY _ _ _ (by simp)).trans (by have:=di (((w.alloc (.cells #[aa x1] 2)).alloc (.cells #[aa x2] 2)).alloc (.cells #[aa 0,aa 0,ai 0] 29)) (.cells #[aa 0,aa 0,ai 0] 29);rwa [show(((w.alloc (.cells #[aa x1] 2)).alloc (.cells #[aa x2] 2)).alloc (.cells #[aa 0,aa 0,ai 0] 29)).heap.size=w.heap.size+1+1+1 by simp]at this)
 have h:b.heap[w.heap.size+1+1+1+1]? =some (Ey none):=by
  rw[a];have:=di ((((w.alloc (.cells #[aa x1] 2)).alloc (.cells #[aa x2] 2)).alloc (.cells #[aa 0,aa 0,ai 0] 29)).alloc (.cells #[aa 0,aa 0,ai 0] 29)) (.cells #[.bool false] 4);rwa [show((((w.alloc (.cells #[aa x1] 2)).alloc (.cells #[aa x2] 2)).alloc (.cells #[aa 0,aa 0,ai 0] 29)).alloc (.cells #[aa 0,aa 0,ai 0] 29)).heap.size=w.heap.size+1+1+1+1 by simp]at this
 exact⟨c,sz,d,e,f,g,h⟩
theorem Gr {w:World} {v:Value} (x1 x2:Int) (Q:Option Pt->Nat->World->Prop)
  (x:aH 69 #[v,.func (.func 70) #[] #[ah w.heap.size,ah (w.heap.size+1),ah (w.heap.size+1+1+1+1),ah (w.heap.size+1+1+1)]] (wD w x1 x2) fun e a=>∃(r:Option Pt) (d:Nat),e=.returned (aa d)/\a.heap[w.heap.size+1+1+1+1]? =some (Ey r)/\a.heap[w.heap.size+1+1+1]? =some (wG (r.getD (0,0,0)))/\a.heap[w.heap.size+1+1]? =some (wG (0,0,0))/\Q r d a):
  aH 20 #[v,aa x1,aa x2] w fun e w'=>∃(r:Option Pt) (d:Nat) (u:World),e=.returned (.tuple #[iD (r.getD (0,0,0)).1 (r.getD (0,0,0)).2.1 (r.getD (0,0,0)).2.2,.bool r.isSome,aa d])/\Q r d u/\w'=u.drew.setRow (w.heap.size+1+1) #[aa (r.getD (0,0,0)).1,aa (r.getD (0,0,0)).2.1,ai (r.getD (0,0,0)).2.2]:=by
 have k:=af x;have l:Hid (((((w.alloc (.cells #[aa x1] 2)).alloc (.cells #[aa x2] 2)).alloc (.cells #[aa 0,aa 0,ai 0] 29)).alloc (.cells #[aa 0,aa 0,ai 0] 29)).alloc (.cells #[.bool false] 4)=wD w x1 x2):=rfl;go_enter func20,ntmps20
 go_upto_region 3 with fail
 rw[l.o]
 go_wp2_with fail
 refine k.o.mono ?_;rintro e a ⟨r,d,rfl,y,hp,z,t⟩;have g:=af y;have i:=af hp;have HO:=af z;have q:=af t
 go_upto_region 4 with fail
 generalize F:w.heap.size+1+1+1+1=fb at*;generalize G:w.heap.size+1+1+1=b at*;generalize A:w.heap.size+1+1=c at*;have s:=af (show c<b/\b<fb from by omega);have n:=af A;have C:∀p:jD (fun W:World=>W.heap[fb]? =some (Ey r)/\W.heap[b]? =some (wG (r.getD (0,0,0)))),p.W.cell? (ae b 0)=some (aa (r.getD (0,0,0)).1):=fun p=>(gp p.h.2).1;have D:∀p:jD (fun W:World=>W.heap[fb]? =some (Ey r)/\W.heap[b]? =some (wG (r.getD (0,0,0)))),p.W.cell? (ae b 1)=some (aa (r.getD (0,0,0)).2.1):=fun p=>(gp p.h.2).2.1;have E:∀p:jD (fun W:World=>W.heap[fb]? =some (Ey r)/\W.heap[b]? =some (wG (r.getD (0,0,0)))),p.W.cell? (ae b 2)=some (ai (r.getD (0,0,0)).2.2):=fun p=>(gp p.h.2).2.2;have B:∀p:jD (fun W:World=>W.heap[fb]? =some (Ey r)/\W.heap[b]? =some (wG (r.getD (0,0,0)))),p.W.cell? (ae fb 0)=some (.bool r.isSome):=fun p=>by simp[World.cell?,p.h.1,Ey]
 refine ak (fun W=>∃p:jD (fun W:World=>W.heap[fb]? =some (Ey r)/\W.heap[b]? =some (wG (r.getD (0,0,0)))),W=p.W) [4,5] [(0,true),(1,true),(2,false)] ⟨⟨a.drew,⟨g.o,i.o⟩⟩,rfl⟩ 3 ?_;simp only[bn,aX,aY,aW,aN,aM,aO]
 repeat(refine aD (fun K f=>?_);go_simp;first|(refine f _ ?_;clear f K)|(apply Exists.intro;refine⟨fun _=>?_,f _ ?_⟩;rfl;clear f K))
 refine aJ ?_;have j:a.drew.heap[c]? =some (wG (0,0,0)):=HO.o;refine aA 3 rfl fun K f=>?_;rw[aK (by simp[Region.wanted])];refine wp_store_row 29 (.tmp 6) (.tmp 15) rfl c #[aa (r.getD (0,0,0)).1,aa (r.getD (0,0,0)).2.1,ai (r.getD (0,0,0)).2.2] rfl rfl _ _ j (by kernel_rfl) rfl (by simp[Value.oneCell']) ?_;have H:=s.o;refine f _ _ (fun _ _=>⟨⟨a.drew.setRow c #[aa (r.getD (0,0,0)).1,aa (r.getD (0,0,0)).2.1,ai (r.getD (0,0,0)).2.2],(setRow_other a.drew c fb _ (by omega)).trans g.o,(setRow_other a.drew c b _ (by omega)).trans i.o⟩,rfl⟩) ?_;have m:=af (qQ a.drew c _ #[aa (r.getD (0,0,0)).1,aa (r.getD (0,0,0)).2.1,ai (r.getD (0,0,0)).2.2] _ _ j);refine aF [4,5] _ _ _ (by kernel_rfl) ?_;simp only[pick,aX,aY,aW,aN,aM]
 go_wp2_with fail
 refine jT (nI rfl _ _ c _ _ _ _ (.bool r.isSome) (.int .i64 (d:Nat)) rfl rfl rfl m.o underlying29 rfl (by kernel_rfl)) rfl ?_;exact⟨r,d,a,rfl,q.o,by rw[n.o]⟩
theorem OJ (h:gL w Pb G m now N wk ik) (x1 x2:Int):aH 20 #[ah Pb,aa x1,aa x2] w (TQ w Pb G m now N wk ik (sI now x1 x2)):=by
 have⟨y,sz,H,I,an,J,K⟩:=Bp w x1 x2;obtain⟨Hb,Ab,base,av,GH,SD,A,D,ALL,j,rfl,Y⟩:=h;have l:=j.kept (S:=fun _=>False) ((au.refl _ _).below y) fun _ _ h=>h;have E:=l.half.facts;have ao:Pb<w.heap.size:=(aZ.1 j.blk).1;have L:=(J9 (fn:=70) (Sx:=fun k=>k=w.heap.size+1+1+1+1\/k=w.heap.size+1+1+1) (cs:=#[ah w.heap.size,ah (w.heap.size+1),ah (w.heap.size+1+1+1+1),ah (w.heap.size+1+1+1)]) (Q:=fun B c u=>u.heap[w.heap.size+1+1+1+1]? =some (Ey (sI (A.map (·.1)) x1 x2))/\u.heap[w.heap.size+1+1+1]? =some (wG ((sI (A.map (·.1)) x1 x2).getD (0,0,0)))/\CO N 0 c) OI l.blk l.half (fun k hk=>by omega) (fun w1 B F o C v aj ak X=>by
  have T:Et (wD w x1 x2) w1 GH A N B F:=⟨o,C,v,aj,ak,X⟩;have U:=(aL o K).trans K;have R:=(aL o J).trans J;have P:=(aL o I).trans I;have O:=(aL o H).trans H;have ag:∀i t,(t<=tq (jr B i)/\jr B i<=20000)->t<=1000000:=fun i t ht=>by
   have z:Lib.bitLen (jr B i)<=15:=bitLen_le (qE ht.2 (by decide)) ht.2;have ab:=ht.1;unfold tq at ab;omega
  refine⟨fun i n u=>SumB (fun i t=>t<=tq (jr B i)/\jr B i<=20000) i n/\u.heap[w.heap.size+1+1+1+1]? =some (Ey (Md B x1 x2 i))/\u.heap[w.heap.size+1+1+1]? =some (wG ((Md B x1 x2 i).getD (0,0,0)))/\au (fun k=>k=w.heap.size+1+1+1+1\/k=w.heap.size+1+1+1) w1 u,⟨rfl,U,R,au.refl _ _⟩,fun i n u f=>f.2.2.2,fun i n u f=>f.1.le ag,fun i n hi u f=>?_,fun n u f=>?_⟩
  .obtain⟨am,q,s,d⟩:=f;have V:=bF d O (by omega);have W:=bF d P (by omega);refine(Sj ((C.kept d fun k hk e=>by have:=(j.qy.1 k hk).2.2.2;omega).at hi) x1 x2 (Md B x1 x2 i) (by simp only[World.cell?,V];rfl) (by simp only[World.cell?,W];rfl) q s (by omega)).mono ?_;rintro e ap ⟨t,rfl,ht,ai,al,ac⟩;refine⟨t,rfl,⟨n,t,am,⟨ht,?_⟩,rfl⟩,ai,al,d.trans ac⟩;unfold jr;rw[dw hi];exact(T.built _ (bN hi)).2
  .refine⟨by rw[<-Gq v E.2.2.2.1];exact f.2.1,by rw[<-Gq v E.2.2.2.1];exact f.2.2.1,?_⟩;have Z:=T.cost (r:=fun _=>0) (fun i t ht=>⟨bf _,by have:=ht.1;unfold tq at this;omega⟩) f.1;have z:((List.range B.length).map fun _=>0).sum=0:=by have:=Ka (r:=fun _=>0) (b:=0) (fun _=>ay _) B.length;omega
   rwa [z]at Z))
 have x:∀k,GH k\/SD k\/k=Pb\/av.ownBlock=some k->k<w.heap.size:=fun k hk=>by
  rcases hk with hk|hk|hk|hk
  .exact(j.qy.1 k hk).2.2.2
  .exact(j.qy.2.1 k hk).2.2
  .omega
  .exact(j.row.lt k hk).2
 have M:au (fun k=>k=Pb) w (wD w x1 x2):=(au.refl _ _).below y;refine(Gr x1 x2 (fun r c u=>r=sI (A.map (·.1)) x1 x2/\CO N 0 c/\au (fun k=>k=Pb) w u/\Gm u Pb Hb Ab base av GH SD m A D ALL N wk (wrap64 (ik+(c:Int)))) (L.mono ?_)).mono ?_
 .rintro e aq ⟨B,c,u,rfl,⟨q,s,p⟩,d,rfl⟩;have af:=bF d l.blk (by omega);have ad:(u.setCell (ae Pb 3) (.int .i64 (wrap64 (ik+(c:Int))))).heap[Pb]? =some (Obj.cells #[ah Hb,ah Ab,av,aa (wrap64 (ik+(c:Int)))] uR (0,0)):=by
   rw[dA u Pb 3 _ _ _ af];rfl
  exact⟨_,c,rfl,(az (a:=(ae Pb 3)) (fun e:Pb=w.heap.size+1+1+1+1=>by omega)).trans q,(az (a:=(ae Pb 3)) (fun e:Pb=w.heap.size+1+1+1=>by omega)).trans s,(az (a:=(ae Pb 3)) (fun e:Pb=w.heap.size+1+1=>by omega)).trans (bF d an (by omega)),rfl,p,
   au.strip (((M.mono fun k h=>.inl h).trans (d.mono fun k h=>.inr (by omega))).set (a:=(ae Pb 3)) (.int .i64 (wrap64 (ik+(c:Int)))) (.inl (.inl rfl))),
   (l.kept d fun k hk=>by have j:=x k hk;omega).QV ((au.refl (fun k=>k=Pb) u).set (a:=(ae Pb 3)) (.int .i64 (wrap64 (ik+(c:Int)))) (.inl rfl)) ad⟩
 .rintro e w' ⟨r,c,u,rfl,⟨rfl,p,d,hP⟩,rfl⟩;exact⟨c,rfl,p,au.strip (((d.drew).mono fun k h=>.inl h).Ex (g:=w.heap.size+1+1) (.inr (by omega)) _),Hb,Ab,base,av,GH,SD,A,D,ALL,hP.kept (((au.refl (fun k=>k=w.heap.size+1+1) u).drew).Ex (g:=w.heap.size+1+1) rfl _) (fun k hk=>by have:=x k hk;omega),rfl,Y⟩
end
theorem CQ:∀args w,(callFunc 55 args).run prog w=.ok (.enter 55 args) w:=cK func55 (by kernel_rfl) rfl
theorem Gs:∀args w,(callFunc 56 args).run prog w=.ok (.enter 56 args) w:=cK func56 (by kernel_rfl) rfl
theorem OL:∀args w,(callFunc 57 args).run prog w=.ok (.enter 57 args) w:=cK func57 (by kernel_rfl) rfl
theorem Me:∀args w,(callFunc 59 args).run prog w=.ok (.enter 59 args) w:=cK func59 (by kernel_rfl) rfl
section
variable {w w':World} {Pb Hb Ab base m:Nat} {av:Value} {G GH SD S:Nat->Prop} {A:List eG} {D:List (Int×Int)} {ALL now:List Pt} {N wk ik Qu:Int}
theorem Gt (h:gL w Pb G m now N wk ik) (x y d:Int) (C:d∈ids now):
  aH 12 #[ah Pb,iD x y d] w (eY w (.tuple #[aa 0,.bool false])):=by
 obtain⟨Hb,Ab,base,av,GH,SD,A,D,ALL,f,rfl,L⟩:=h;have r:Hid (∃q,(d,q)∈D):=by
  have⟨p,hp,e⟩:=dI.1 C;obtain⟨c,B,rfl⟩:=dI.1 hp;rw[<-e];exact f.bwd c B
 have s:=af (di w (.cells #[aa x,aa y,ai d] 29));have g:Below w.heap.size w (w.alloc (.cells #[aa x,aa y,ai d] 29)):=(aB _ _).alloc (ay _) _;have b:=af (f.kept (S:=fun _=>False) ((au.refl _ _).below g) fun _ _ h=>h);have j:=af g;obtain⟨t,ac,rfl,-,-,-⟩:=cz.aC bu (by decide) f.row;go_enter func12,ntmps12
 go_wp2_with fail
 generalize w.alloc (.cells #[aa x,aa y,ai d] 29)=w1 at*;have u:w1.cell? (ae w.heap.size 2)=some (ai d):=by simp only[World.cell?,s.o];rfl
 have d1:w1.cell? (ae Pb 1)=some (ah Ab):=by simp[World.cell?,b.o.blk]
 have d2:w1.cell? (ae Pb 2)=some (.slice t ALL.length ac):=by simp[World.cell?,b.o.blk]
 have H:=ag u;have I:=ag d1;have J:=ag d2;have i:=af (b.o.kept (w':=w1.drew) (S:=fun _=>False) ((au.refl _ _).drew) fun _ _ h=>h);have k:=af (p8 i.o.blk);refine ak (fun W=>∃p:aT w1,W=p.W) [14,15,16] [(0,false)] ⟨⟨_,(aB _ _).drew⟩,rfl⟩ 16 ?_;simp only[bn,aX,aY,aW,aM,aO]
 repeat(refine aD (fun K a=>?_);go_simp;first|(refine a _ ?_;clear a K)|(apply Exists.intro;refine⟨fun _=>?_,a _ ?_⟩;rfl;clear a K))
 refine aJ ?_;refine aA 1 rfl fun K a=>?_;refine bg CQ rfl _ _ rfl (vals:=#[ah Pb]) rfl k.o ?_;rintro e w2 ⟨rfl,v⟩;subst v;refine⟨_,rfl,?_⟩;refine a _ _ (fun h _=>h) ?_;refine bG [(2,false),(3,false),(4,false),(5,false),(6,true),(7,false),(8,true),(9,false),(10,false),(11,false),(12,true),(13,false)] ⟨⟨_,(aB _ _).drew⟩,rfl⟩ rfl ?_;simp only[bn,aX,aY,aW,aN,aM,aO]
 repeat(refine aD (fun K a=>?_);go_simp;first|(refine a _ ?_;clear a K)|(apply Exists.intro;refine⟨fun _=>?_,a _ ?_⟩;rfl;clear a K))
 refine aJ ?_;have⟨q,E⟩:=r.o;have l:=af (Jd i.o.dir d (ALL.length:Int) q E);refine aA 14 rfl fun K a=>?_;refine zV Gs rfl _ _ rfl (vals:=#[ah Ab,ai d,aa ALL.length]) rfl l.o ?_;rintro e w3 ⟨rfl,z⟩;refine⟨_,rfl,?_⟩;refine a _ _ (fun _ h=>absurd (by decide) h) ?_;have n:=af z;have F:=j.o.size;refine aF [15,16] _ _ _ (by kernel_rfl) ?_;simp only[pick,aX,aY,aW,aN,aM];go_wp2;go_ret2;exact⟨rfl,j.o.trans (((aB _ _).drew.trans n.o).mono F)⟩
def TR (w:World) (Pb:Nat) (G:Nat->Prop) (m:Nat) (now:List Pt) (N wk ik:Int) (p:Pt) (e:Ending) (w':World):Prop:=
 ∃n:Nat,Mo N n/\e=.returned (.tuple #[aa n,.bool true])/\gL w' Pb (fun k=>G k\/w.heap.size<=k/\k<w'.heap.size) (m+1) (now++[p]) (N+1) (wk+n) ik/\au G w w'
theorem yo (h:gL w Pb G m now N wk ik) (ap:m<5000) (x y d:Int) (bv:Gy (x,y,d)) (aq:d∉ids now):
  aH 12 #[ah Pb,iD x y d] w (TR w Pb G m now N wk ik (x,y,d)):=by
 obtain⟨Hb,Ab,base,av,GH,SD,A,D,ALL,H,rfl,bd⟩:=h;have br:∀q,(d,q)∉D:=fun q hq=>by
  obtain⟨k,c,-,hc,-,e⟩:=H.fwd d q hq;exact aq (dI.2 ⟨c.1,dI.2 ⟨c,hc,rfl⟩,e⟩)
 have aU:=af aq;have s:=af bd;have bD:=H.few;have z:=af (di w (.cells #[aa x,aa y,ai d] 29));have Y:Below w.heap.size w (w.alloc (.cells #[aa x,aa y,ai d] 29)):=(aB _ _).alloc (ay _) _;have f:=af (H.kept (S:=fun _=>False) ((au.refl _ _).below Y) fun _ _ h=>h);have aE:=af Y;have bx:=af (p8 f.o.blk);obtain⟨l,ac,rfl,-,-,-⟩:=cz.aC bu (by decide) H.row;have t:=af H;go_enter func12,ntmps12
 go_wp2_with fail
 generalize w.alloc (.cells #[aa x,aa y,ai d] 29)=w1 at*;have M:w1.cell? (ae w.heap.size 0)=some (aa x):=by simp only[World.cell?,z.o];rfl
 have O:w1.cell? (ae w.heap.size 1)=some (aa y):=by simp only[World.cell?,z.o];rfl
 have B:w1.cell? (ae w.heap.size 2)=some (ai d):=by simp only[World.cell?,z.o];rfl
 have d1:w1.cell? (ae Pb 1)=some (ah Ab):=by simp[World.cell?,f.o.blk]
 have d2:w1.cell? (ae Pb 2)=some (.slice l ALL.length ac):=by simp[World.cell?,f.o.blk]
 have ad:=ag B;have bz:=ag d1;have al:=ag d2;have R:=af (f.o.kept (w':=w1.drew) (S:=fun _=>False) ((au.refl _ _).drew) fun _ _ h=>h);have aw:=af (p8 R.o.blk);refine ak (fun W=>∃p:aT w1,W=p.W) [14,15,16] [(0,false)] ⟨⟨_,(aB _ _).drew⟩,rfl⟩ 16 ?_;simp only[bn,aX,aY,aW,aM,aO]
 repeat(refine aD (fun K b=>?_);go_simp;first|(refine b _ ?_;clear b K)|(apply Exists.intro;refine⟨fun _=>?_,b _ ?_⟩;rfl;clear b K))
 refine aJ ?_;refine aA 1 rfl fun K b=>?_;refine bg CQ rfl _ _ rfl (vals:=#[ah Pb]) rfl aw.o ?_;rintro e w2 ⟨rfl,a8⟩;subst a8;refine⟨_,rfl,?_⟩;refine b _ _ (fun h _=>h) ?_;refine bG [(2,false),(3,false),(4,false),(5,false),(6,true),(7,false),(8,true),(9,false),(10,false),(11,false),(12,true),(13,false)] ⟨⟨_,(aB _ _).drew⟩,rfl⟩ rfl ?_;simp only[bn,aX,aY,aW,aN,aM,aO]
 repeat(refine aD (fun K b=>?_);go_simp;first|(refine b _ ?_;clear b K)|(apply Exists.intro;refine⟨fun _=>?_,b _ ?_⟩;rfl;clear b K))
 refine aJ ?_;have ax:=af (OE R.o.dir R.o.hb ap d (ALL.length:Int) br);refine aA 14 rfl fun K b=>?_;refine zV Gs rfl _ _ rfl (vals:=#[ah Ab,ai d,aa ALL.length]) rfl ax.o ?_;rintro e w3 ⟨rfl,bc,bt⟩;refine⟨_,rfl,?_⟩;refine b _ _ (fun _ h=>absurd (by decide) h) ?_;have u:au SD w1 w3:=((au.refl _ w1).drew).trans bt.Sg;have bN:=u.size;have aG:=af bc.clip;have aK:=af (f.o.half.kept u fun k hk=>(f.o.qy.1 k hk).1);have bj:=bF u f.o.blk (fun h9=>(f.o.qy.2.1 Pb h9).1 rfl);have bs:=aS f.o.row u (fun E e h9=>(f.o.qy.2.1 E h9).2.1 e);have bM:=(aZ.1 z.o).1;have L:=af (bF u z.o (fun h9=>by have:=(t.o.qy.2.1 _ h9).2.2;omega));have T:=af bj;have aV:=af bs;have aQ:=af u;refine aF [15,16] _ _ _ (by kernel_rfl) ?_;simp only[pick,aX,aY,aW,aN,aM]
 go_wp2_with fail
 have M:w3.cell? (ae w.heap.size 0)=some (aa x):=by simp only[World.cell?,L.o];rfl
 have O:w3.cell? (ae w.heap.size 1)=some (aa y):=by simp only[World.cell?,L.o];rfl
 have B:w3.cell? (ae w.heap.size 2)=some (ai d):=by simp only[World.cell?,L.o];rfl
 have d2:w3.cell? (ae Pb 2)=some (.slice l ALL.length ac):=by simp[World.cell?,T.o]
 have a9:=ag M;have ba:=ag O;have ad:=ag B;have al:=ag d2;refine ak (fun W=>∃p:aT w3,W=p.W) [7,8,9,10] [(0,false),(1,false),(2,false),(3,false),(4,true),(5,true)] ⟨⟨_,(aB _ _).drew⟩,rfl⟩ 5 ?_;simp only[bn,aX,aY,aW,aN,aM,aO]
 repeat(refine aD (fun K b=>?_);go_simp;first|(refine b _ ?_;clear b K)|(apply Exists.intro;refine⟨fun _=>?_,b _ ?_⟩;rfl;clear b K))
 refine aJ ?_;refine aA 6 rfl fun K b=>?_;go_simp;refine b _ _ (fun _ _=>⟨⟨_,((aB _ w3).alloc (ay _) _).drew⟩,rfl⟩) ?_;refine aA 7 rfl fun K b=>?_;refine bH Nt 0 (aS (S:=fun _=>False) aV.o (((au.refl _ _).alloc _).drew) (fun _ _ h=>h)) [.int .i64 x,.int .i64 y,.int .u32 d] rfl (by simp[Value.oneCell']) rfl (.tmp 27) (.tmp 29) rfl rfl _ rfl (kF _ _) (by unfold maxLen;omega) (by omega) (bf _) ?_;intro g r w4 bb bl bk bm;refine b _ _ (fun _ h=>absurd (by decide) h) ?_;have an:Value.ownBlock (.slice l ALL.length ac)=some g\/w3.heap.size<=g:=bk.imp id fun e=>by rw[e];simp
 have J:au (fun k=>Value.ownBlock (.slice l ALL.length ac)=some k) w3 w4:=((((au.refl _ w3).alloc _).drew)).grown bl fun k e=>.inl e;have bO:=J.size;have bC:=(aZ.1 T.o).1;have X:=bF J T.o f.o.qy.2.2;have a4:=af (bF J L.o (fun e=>by have:=(t.o.row.lt _ e).2;omega));have bQ:w4.cell? (ae Pb 2)=some (.slice l ALL.length ac):=by simp[World.cell?,X]
 have f4:w4.frozen? (ae Pb 2)=false:=by simp[World.frozen?,X]
 have bp:g≠Pb:=fun e=>an.elim (fun h=>f.o.qy.2.2 (by rw[h,e])) fun h=>by omega
 have bi:(w4.setCell (ae Pb 2) (aj g (ALL.length+1) r)).heap[Pb]? =some (Obj.cells #[ah Hb,ah Ab,aj g (ALL.length+1) r,aa ik] uR (0,0)):=by
  rw[dA w4 Pb 2 _ _ _ X];rfl
 have a3:au (fun k=>Value.ownBlock (.slice l ALL.length ac)=some k\/k=Pb) w3 (w4.setCell (ae Pb 2) (aj g (ALL.length+1) r)):=(J.mono fun k h=>.inl h).set _ (.inl (.inr rfl));have a6:=aS bb ((au.refl (fun k=>k=Pb) w4).set (a:=(ae Pb 2)) (aj g (ALL.length+1) r) (.inl rfl)) (fun E e h=>bp (by have C:g=E:=(by injection e);rw[C];exact h));have a5:(w4.setCell (ae Pb 2) (aj g (ALL.length+1) r)).heap[w.heap.size]? =_:=(az (a:=(ae Pb 2)) (fun e:Pb=w.heap.size=>by have:=(aZ.1 t.o.blk).1;omega)).trans a4.o;have bw:(w4.setCell (ae Pb 2) (aj g (ALL.length+1) r)).heap.size=w4.heap.size:=by simp
 have Z:=af bi;have U:=af a3;have a0:=af a6;have V:=af a5;have a1:=af bw;have aI:=af an;have aR:=af bm;refine aF [8,9,10] _ _ _ (by kernel_rfl) ?_;simp only[pick,aX,aY,aW,aN,aM]
 go_wp2_with fail
 generalize w4.setCell (ae Pb 2) (aj g (ALL.length+1) r)=j at*;have aL:=af (aK.o.kept U.o fun k hk h9=>by
  have P:=f.o.qy.1 k hk;rcases h9 with h9|h9
  .exact P.2.2.1 h9
  .exact P.2.1 h9)
 have M:j.cell? (ae w.heap.size 0)=some (aa x):=by simp only[World.cell?,V.o];rfl
 have O:j.cell? (ae w.heap.size 1)=some (aa y):=by simp only[World.cell?,V.o];rfl
 have B:j.cell? (ae w.heap.size 2)=some (ai d):=by simp only[World.cell?,V.o];rfl
 have d0:j.cell? (ae Pb 0)=some (ah Hb):=by simp[World.cell?,Z.o]
 have a9:=ag M;have ba:=ag O;have ad:=ag B;have al:=ag d0;have ar:=af (Sa (w:=j.drew) (aL.o.kept (S:=fun _=>False) ((au.refl _ j).drew) fun _ _ h=>h) ap x y d bv aU.o);refine ak (fun W=>∃p:aT j,W=p.W) [5,6,7,8,9] [(0,false),(1,false),(2,false),(3,true),(4,true)] ⟨⟨_,(aB _ _).drew⟩,rfl⟩ 5 ?_;simp only[bn,aX,aY,aW,aN,aM,aO]
 repeat(refine aD (fun K b=>?_);go_simp;first|(refine b _ ?_;clear b K)|(apply Exists.intro;refine⟨fun _=>?_,b _ ?_⟩;rfl;clear b K))
 refine aJ ?_;refine aA 5 rfl fun K b=>?_;refine bg OL rfl _ _ rfl (vals:=#[ah Hb,iD x y d]) rfl ar.o ?_;rintro e w6 ⟨n,q,bo,rfl,be,bh⟩;refine⟨_,rfl,?_⟩;refine b _ _ (fun _ h=>absurd (by decide) h) ?_;have aP:=af be.clip;have v:Hid (au GH j w6):=((au.refl _ j).drew).trans bh;refine iI (fun _=>True) [8,9] (by kernel_rfl) ?_;refine bG [(6,false),(7,false)] trivial rfl ?_;simp only[bn,aX,aY,aW,aN,aM,aO]
 repeat(refine aD (fun K b=>?_);go_simp;first|(refine b _ ?_;clear b K)|(apply Exists.intro;refine⟨fun _=>?_,b _ ?_⟩;rfl;clear b K))
 refine aJ ?_;refine aF [8,9] _ _ _ (by kernel_rfl) ?_;simp only[pick,aX,aY,aW,aN,aM];go_wp2;go_ret2;have bP:=v.o.size;have bL:=a1.o;have i:=f.o.qy;have bB:=(aZ.1 f.o.blk).1;have am:∀k,Value.ownBlock (.slice l ALL.length ac)=some k->k<w1.heap.size:=fun k e=>(f.o.row.lt k e).2;have I:∀k,Value.ownBlock (aj g (ALL.length+1) r)=some k->(Value.ownBlock (.slice l ALL.length ac)=some k\/w3.heap.size<=k)/\k<w4.heap.size:=fun k e=>by
  have C:g=k:=by injection e
  subst C;exact⟨aI.o,aR.o⟩
 have bE:w1.drew.heap.size=w1.heap.size:=rfl;have bI:j.drew.heap.size=j.heap.size:=rfl;have a2:au (fun k=>(Value.ownBlock (.slice l ALL.length ac)=some k\/k=Pb)\/GH k) w3 w6:=(U.o.mono fun k h=>.inl h).trans (v.o.mono fun k h=>.inr h);have ao:∀k,Value.ownBlock (aj g (ALL.length+1) r)=some k->¬GH k:=fun k e h=>by
  rcases(I k e).1 with h9|h9
  .exact(i.1 k h).2.2.1 h9
  .have:=(i.1 k h).2.2.2;omega
 refine⟨n,bo,rfl,⟨Hb,Ab,base,_,_,_,_,D++[(d,(ALL.length:Int))],ALL++[(x,y,d)],⟨bF v.o Z.o (fun h=>(i.1 Pb h).2.1 rfl),?_,aP.o,aG.o.kept a2 ?_,bJ t.o.hb (by omega),by simp;omega,?_,?_,⟨fun k hk=>?_,fun k hk=>?_,?_⟩⟩,by simp,fun k hk=>?_⟩,?_⟩
 .have P:=aS a0.o v.o (fun E e=>ao E e);rw[bq,gM];exact P
 .rintro k ⟨hk,bK⟩ h9;rcases hk with hk|hk
  .rcases h9 with(h9|h9)|h9
   .exact(i.2.1 k hk).2.1 h9
   .exact(i.2.1 k hk).1 h9
   .exact(i.1 k h9).1 hk
  .rcases h9 with(h9|h9)|h9
   .have:=am k h9;omega
   .omega
   .have:=(i.1 k h9).2.2.2;omega
 .intro id Q hq;rcases bT.1 hq with hq|hq
  .obtain⟨k,c,a7,hc,ab,C⟩:=t.o.fwd id Q hq;exact⟨k,c,a7,GY _ hc,by rw[kY (fC.1 ab).1];exact ab,C⟩
  .obtain⟨rfl,rfl⟩:id=d/\Q=(ALL.length:Int):=by simpa using hq
   exact⟨ALL.length,((x,y,id),q),rfl,by simp,by simp,rfl⟩
 .intro c hc;rcases bT.1 hc with hc|hc
  .obtain⟨Q,hq⟩:=t.o.bwd c hc;exact⟨Q,GY _ hq⟩
  .obtain rfl:c=((x,y,d),q):=by simpa using hc
   exact⟨_,List.mem_append_right _ mZ⟩
 .refine⟨?_,?_,fun e=>?_,hk.2⟩
  .rintro⟨h9,bA⟩;rcases hk.1 with uB|uB
   .rcases h9 with h9|h9
    .exact(i.1 k uB).1 h9
    .have:=(i.1 k uB).2.2.2;omega
   .omega
  .rintro rfl;rcases hk.1 with uB|uB
   .exact(i.1 k uB).2.1 rfl
   .omega
  .rcases hk.1 with uB|uB
   .exact ao k e uB
   .have:=(I k e).2;omega
 .refine⟨?_,fun e=>?_,by have:=hk.2;omega⟩
  .rintro rfl;rcases hk.1 with uB|uB
   .exact(i.2.1 k uB).1 rfl
   .omega
  .have F:=hk.2;rcases(I k e).1 with h9|h9
   .rcases hk.1 with uB|uB
    .exact(i.2.1 k uB).2.1 h9
    .have:=am k h9;omega
   .omega
 .intro e;rcases(I Pb e).1 with h9|h9
  .exact i.2.2 h9
  .omega
 .rcases hk with⟨hk,F⟩|⟨hk,F⟩|rfl|hk
  .rcases hk with hk|hk
   .exact .inl (s.o k (.inl hk))
   .exact .inr ⟨by omega,F⟩
  .rcases hk with hk|hk
   .exact .inl (s.o k (.inr (.inl hk)))
   .exact .inr ⟨by omega,by omega⟩
  .exact .inl (s.o k (.inr (.inr (.inl rfl))))
  .have F:=I k hk;rcases F.1 with h9|h9
   .exact .inl (s.o k (.inr (.inr (.inr h9))))
   .exact .inr ⟨by omega,by omega⟩
 .refine((((au.refl G w).below aE.o).trans (aQ.o.mono fun k h=>s.o k (.inr (.inl h)))).trans (U.o.mono fun k h=>?_)).trans (v.o.mono fun k h=>s.o k (.inl h));rcases h with h|h
  .exact s.o k (.inr (.inr (.inr h)))
  .exact s.o k (.inr (.inr (.inl h)))
end
section
variable {w w':World} {Pb Hb Ab base m:Nat} {av:Value} {G GH SD S:Nat->Prop} {A:List eG} {D:List (Int×Int)} {ALL now:List Pt} {N wk ik Qu:Int}
def TS (w:World) (Pb:Nat) (G:Nat->Prop) (m:Nat) (now:List Pt) (N wk ik:Int) (p:Pt) (e:Ending) (w':World):Prop:=
 ∃(n:Nat) (N':Int),e=.returned (.tuple #[aa n,.bool true])/\gL w' Pb (fun k=>G k\/w.heap.size<=k/\k<w'.heap.size) (m+1) (now.filter fun q=>decide (q≠p)) N' (wk+n) ik/\au G w w'/\UN (now.filter fun q=>decide (q≠p)).length N N' n
theorem Bq (h:gL w Pb G m now N wk ik) (aU:m<5000) (x y d:Int) (Q:(x,y,d)∈now):
  aH 13 #[ah Pb,ai d] w (TS w Pb G m now N wk ik (x,y,d)):=by
 obtain⟨Hb,Ab,base,av,GH,SD,A,D,ALL,i,rfl,aI⟩:=h;have⟨c,v,P⟩:=dI.1 Q;have aQ:=i.half.facts.2.2.2.1;have R:∀g∈A,g.1.2.2=d->g.1=(x,y,d):=fun g l e=>by
  have aE:(A.map (·.1)).Pairwise fun p q=>p.2.2≠q.2.2:=dE.1 aQ;rcases fE aE (tJ l) Q with h1|h1|h1
  .exact h1
  .exact absurd e h1
  .exact absurd e.symm h1
 have⟨q,j⟩:=i.bwd c v;rw[P]at j;obtain⟨k,g,rfl,l,hk,hid⟩:=i.fwd d q j;rw[R g l hid]at hk;have H:=(fC.1 hk).1;have ao:=af R;have Z:=af v;have aa:=af P;have am:=af hk;have r:=af aI;have X:=af (p8 i.blk);have V:=af (L9 i.dir i.hb d (k:Int) j);have d1:w.cell? (ae Pb 1)=some (ah Ab):=by simp[World.cell?,i.blk]
 have a:=af i;have bb:=i.few;go_enter func13,ntmps13
 go_wp2_with (go_at_call 55;refine X.o.mono ?_;rintro e w1 ⟨rfl,L⟩;have az:=L.symm;clear L;subst az)
 refine V.o.mono ?_;rintro e w3 ⟨rfl,aG,a0⟩;have t:=a0.Sg;have ab:=af aG.clip;have aj:=af (a.o.half.kept t fun k hk=>(a.o.qy.1 k hk).1);have E:=bF t a.o.blk (fun h9=>(a.o.qy.2.1 Pb h9).1 rfl);have T:=aS a.o.row t (fun C e h9=>(a.o.qy.2.1 C h9).2.1 e);have bi:=t.size;have Y:=af E;have ap:=af T;have an:=af t
 go_wp2_with fail
 obtain⟨a1,ac,ay,-,-,aV⟩:=cz.aC bu (by decide) T;have⟨a2,a3,ax,bc,F⟩:=aV.get (by omega);have J:=F k H 0 (by omega);have x1:=F k H 1 (by omega);have x2:=F k H 2 (by omega);have⟨bh,aR⟩:=fC.1 am.o;rw[aR]at J x1 x2;simp only[dx,aM,aN,dM]at J x1 x2;have d0:w3.cell? (ae Pb 0)=some (ah Hb):=by simp[World.cell?,E]
 have d2:w3.cell? (ae Pb 2)=some av:=by simp[World.cell?,E]
 rw[ay,ax]at d2;have bf:(k:Int)<(ALL.length:Int):=by omega
 have a4:=ag d0;have a5:=ag d2;have a6:=ag J;have a7:=ag x1;have a8:=ag x2;have U:=af (Qo (w:=w3.drew) (aj.o.kept (S:=fun _=>False) ((au.refl _ w3).drew) fun _ _ h=>h) aU c Z.o x y d aa.o);refine ak (fun W=>∃p:aT w3,W=p.W) [11,12,13,14,15] [(0,false),(1,false),(2,false),(3,true),(4,false),(5,false),(6,false),(7,true),(8,false),(9,false),(10,true)] ⟨⟨_,(aB _ _).drew⟩,rfl⟩ 5 ?_;simp only[bn,aX,aY,aW,aN,aM,aO]
 repeat(refine aD (fun K f=>?_);go_simp;first|(refine f _ ?_;clear f K)|(apply Exists.intro;refine⟨fun _=>?_,f _ ?_⟩;rfl;clear f K))
 refine aJ ?_;refine aA 11 rfl fun K f=>?_;refine bg Me rfl _ _ rfl (vals:=#[ah Hb,iD x y d]) rfl U.o ?_;rintro e w6 ⟨n,aq,rfl,aK,aL,aP⟩;have ad:=af aP;refine⟨_,rfl,?_⟩;refine f _ _ (fun _ h=>absurd (by decide) h) ?_;have al:=af aK.clip;have s:Hid (au GH w3 w6):=((au.refl _ w3).drew).trans aL;refine iI (fun _=>True) [14,15] (by kernel_rfl) ?_;refine bG [(12,false),(13,false)] trivial rfl ?_;simp only[bn,aX,aY,aW,aN,aM,aO]
 repeat(refine aD (fun K f=>?_);go_simp;first|(refine f _ ?_;clear f K)|(apply Exists.intro;refine⟨fun _=>?_,f _ ?_⟩;rfl;clear f K))
 refine aJ ?_;refine aF [14,15] _ _ _ (by kernel_rfl) ?_;simp only[pick,aX,aY,aW,aN,aM];go_wp2;go_ret2;have bj:=s.o.size;have b:=a.o.qy;have bd:w3.drew.heap.size=w3.heap.size:=rfl;have ba:=(aZ.1 a.o.blk).1;have O:∀k,av.ownBlock=some k->k<w.heap.size:=fun k e=>(a.o.row.lt k e).2;refine⟨n,aq,rfl,⟨Hb,Ab,base,av,_,_,_,D.filter fun z=>decide (z.1≠d),ALL,⟨bF s.o Y.o (fun h=>(b.1 Pb h).2.1 rfl),aS ap.o s.o (fun C e h=>(b.1 C h).2.2.1 e),al.o,(ab.o.mono (fun k h=>h) (Nat.le_succ _)).kept s.o ?_,bJ a.o.hb (by omega),by omega,?_,?_,⟨fun k hk=>?_,fun k hk=>?_,b.2.2⟩⟩,?_,fun k hk=>?_⟩,?_,?_⟩
 .rintro k ⟨hk,be⟩ h9;rcases hk with hk|hk
  .exact(b.1 k h9).1 hk
  .have:=(b.1 k h9).2.2.2;omega
 .intro id I j;have⟨j,u⟩:=bK.1 j;have⟨k,g,ar,v,aw,B⟩:=a.o.fwd id I j;refine⟨k,g,ar,bK.2 ⟨v,?_⟩,aw,B⟩;simp only[bW]at u |-;intro e;rw[e]at B;exact u B.symm
 .intro g l;have⟨l,u⟩:=bK.1 l;have⟨I,j⟩:=a.o.bwd g l;refine⟨I,bK.2 ⟨j,?_⟩⟩;simp only[bW]at u |-;exact fun e=>u (ao.o g l e)
 .refine⟨?_,?_,fun e=>?_,hk.2⟩
  .rintro⟨h9,a9⟩;rcases hk.1 with uB|uB
   .rcases h9 with h9|h9
    .exact(b.1 k uB).1 h9
    .have:=(b.1 k uB).2.2.2;omega
   .omega
  .rintro rfl;rcases hk.1 with uB|uB
   .exact(b.1 k uB).2.1 rfl
   .omega
  .rcases hk.1 with uB|uB
   .exact(b.1 k uB).2.2.1 e
   .have:=O k e;omega
 .refine⟨?_,fun e=>?_,by have:=hk.2;omega⟩
  .rintro rfl;rcases hk.1 with uB|uB
   .exact(b.2.1 k uB).1 rfl
   .omega
  .rcases hk.1 with uB|uB
   .exact(b.2.1 k uB).2.1 e
   .have:=O k e;omega
 .rw[wW];rfl
 .rcases hk with⟨hk,M⟩|⟨hk,M⟩|rfl|hk
  .rcases hk with hk|hk
   .exact .inl (r.o k (.inl hk))
   .exact .inr ⟨by omega,M⟩
  .rcases hk with hk|hk
   .exact .inl (r.o k (.inr (.inl hk)))
   .exact .inr ⟨by omega,by omega⟩
  .exact .inl (r.o k (.inr (.inr (.inl rfl))))
  .exact .inl (r.o k (.inr (.inr (.inr hk))))
 .exact(an.o.mono fun k h=>r.o k (.inr (.inl h))).trans (s.o.mono fun k h=>r.o k (.inl h))
 .rw[wW,bX];exact ad.o
end
end
section
open Go.RowKit Go.Maps
theorem yt {l:List Pt}:(bR l).length<=l.length:=by
 have a:(bR l).length<=(eO l).length:=by unfold bR EM;exact gK _ _
 rw[(dL l).length_eq]at a;exact a
theorem Br (A B:List Pt) (p:Pt):sN (A++B) p=(sN A p||sN B p):=by unfold sN;rw[List.any_append]
theorem mK.self {l T:List Pt} (h:mK l T):mK T T:=⟨h.1,fun p=>⟨fun hp=>⟨hp,by rw[vg h];exact((h.2 p).1 hp).2⟩,fun hp=>hp.1⟩⟩
theorem EA {l:List Pt} (hu:kQ l=true) {p:Pt} (h:p∈bR l):p∈l:=((kG ((gV l).1 hu)).2 p).1 h|>.1
theorem EB {l:List Pt} (hu:kQ l=true):kQ (bR l)=true:=by
 rw[gV]at*;have a:(ids (eO l)).Nodup:=((dL l).map _).nodup_iff.2 hu;unfold bR EM;exact a.sublist (List.Sublist.map _ Dc)
theorem Bt {l:List Pt} (hu:kQ l=true):jL (bR l)=true:=by
 unfold jL;rw[(EN _).2 (kG ((gV l).1 hu)).self,EB hu];rfl
theorem Kh {l:List Pt} (hu:kQ l=true) (h:JZ l):JZ (bR l):=fun p hp=>h p (EA hu hp)
theorem wE {A B:List Pt}:kQ (A++B)=true↔kQ A=true/\kQ B=true/\∀p∈A,∀q∈B,p.2.2≠q.2.2:=by
 simp only[gV,ids,bS,oF,dI];refine and_congr Iff.rfl (and_congr Iff.rfl ⟨fun h p hp q a=>h _ ⟨p,hp,rfl⟩ _ ⟨q,a,rfl⟩,?_⟩);rintro h _ ⟨p,hp,rfl⟩ _ ⟨q,a,rfl⟩;exact h p hp q a
theorem CR {A B:List Pt} (h:kQ (A++B)=true):kQ (bR A++bR B)=true:=by
 rw[wE]at*;exact⟨EB h.1,EB h.2.1,fun p hp q a=>h.2.2 p (EA h.1 hp) q (EA h.2.1 a)⟩
theorem CS {l m:List Pt} (b:kQ l=true) (c:kQ m=true) (h:∀p,(p∈l/\sN l p=false)↔(p∈m/\sN m p=false)):bR l=bR m:=by
 have a:=kG ((gV _).1 b);exact mK.unique (l:=m) ⟨a.1,fun p=>(a.2 p).trans (h p)⟩ (kG ((gV _).1 c))
theorem OM {A B:List Pt} (h:kQ (A++B)=true):bR (bR A++bR B)=bR (A++B):=by
 have d:=(wE.1 h).1;have e:=(wE.1 h).2.1;have b:=kG ((gV _).1 d);have c:=kG ((gV _).1 e);refine CS (CR h) h fun p=>?_;rw[Br,Br,vg b,vg c,bT,bT,b.2 p,c.2 p,Bool.or_eq_false_iff];constructor
 .rintro⟨h1|h1,a⟩
  .exact⟨.inl h1.1,a⟩
  .exact⟨.inr h1.1,a⟩
 .rintro⟨h1|h1,a⟩
  .exact⟨.inl ⟨h1,a.1⟩,a⟩
  .exact⟨.inr ⟨h1,a.2⟩,a⟩
theorem Qx:bR []=[]:=by simp[bR,EM,eO]
end
section
open Go.RowKit Go.Sort Go.Shelf Go.Lib Go.Maps
attribute [local irreducible] wpQuiet
attribute [local go_sem] Oper.fo
theorem Jh (B:List (Nat×Nat×List Pt)) (i:Nat):iX B=iX (B.take i)++iX (B.drop i):=by
 unfold iX;rw[<-gM,ji]
theorem CU {B:List (Nat×Nat×List Pt)} {i:Nat} (hi:i<B.length):iX (B.take (i+1))=iX (B.take i)++B[i].2.2:=by
 unfold iX;rw[dZ hi,gM];simp
theorem Bu (B:List (Nat×Nat×List Pt)) (i:Nat):(iX (B.take i)).Sublist (iX B):=by
 rw[Jh B i];exact List.sublist_append_left _ _
theorem Qy {l m:List Pt} (h:l.Sublist m) (a:kQ m=true):kQ l=true:=(gV l).2 (((gV m).1 a).sublist (h.map _))
theorem Gu {l m:List Pt} (h:l.Perm m) (a:kQ m=true):kQ l=true:=(gV l).2 ((show(ids l).Perm (ids m)from h.map _).nodup_iff.2 ((gV m).1 a))
theorem OO {l m:List Pt} (h:l.Perm m) (a:kQ m=true):bR l=bR m:=
 CS (Gu h a) a fun p=>by rw[h.mem_iff,Cj (fun q=>h.mem_iff) p]
theorem cz.Sg {α:Type} {enc:α->List Value} {sz:Nat} {w w':World} {a:Option Addr} {l:List α} {S:Nat->Prop} (h:cz enc sz w a l) (K:au S w w') (hS:∀x,a=some x->¬S x.block):cz enc sz w' a l:=by
 rcases h with h|⟨b,off,rfl,c,d⟩
 .exact .inl h
 .have e:=K.block b c (hS _ rfl);exact .inr ⟨b,off,rfl,bB c K.size,fun i hi j f=>(dD e).trans (d i hi j f)⟩
section
variable {w:World} {Pb m:Nat} {G:Nat->Prop} {now:List Pt} {N wk ik:Int}
theorem nJ.clip {w1:World} {F:Nat->Nat->Prop} {B:List (Nat×Nat×List Pt)} (W:nJ w1 G F B):nJ w1 G (fun j k=>F j k/\j<B.length) B:=
 ⟨fun j a=>by
  have:(fun k=>F j k/\j<B.length)=F j:=by funext k;simp[a]
  rw[this];exact W.bk j a,fun j k h=>W.TF j k h.1,fun i j k b c=>W.ap i j k b.1 c.1⟩
theorem nJ.asked {w1 w2 w3:World} {F:Nat->Nat->Prop} {B:List (Nat×Nat×List Pt)} (W:nJ w1 (fun k=>∃j,F j k) F B) (hF:∀j k,F j k->j<B.length) {i:Nat} (hi:i<B.length) (l:Bk w2 (fun k=>F i k\/w1.heap.size<=k/\k<w2.heap.size) B[i].1 B[i].2.1 B[i].2.2) (K:au (F i) w1 w2) (a:Below w2.heap.size w2 w3):
  nJ w3 (fun k=>∃j,F j k\/j=i/\w1.heap.size<=k/\k<w2.heap.size) (fun j k=>F j k\/j=i/\w1.heap.size<=k/\k<w2.heap.size) B:=by
 have b:∀j k,F j k->k<w1.heap.size:=fun j k h=>(W.bk j (hF j k h)).lt k h;refine⟨fun j m=>?_,fun j k h=>⟨j,h⟩,?_⟩
 .by_cases e:j=i
  .subst e;have:(fun k=>F j k\/j=j/\w1.heap.size<=k/\k<w2.heap.size)=fun k=>F j k\/w1.heap.size<=k/\k<w2.heap.size:=by funext k;simp
   rw[this];exact l.below a
  .have:(fun k=>F j k\/j=i/\w1.heap.size<=k/\k<w2.heap.size)=F j:=by funext k;simp[e]
   rw[this];exact((W.bk j m).kept K fun k f g=>e (W.ap j i k f g)).below a
 .rintro j c k (h|⟨e,h,-⟩) (h'|⟨d,h',-⟩)
  .exact W.ap j c k h h'
  .have:=b j k h;omega
  .have:=b c k h';omega
  .rw[e,d]
def TT (w:World) (Pb:Nat) (G:Nat->Prop) (m:Nat) (now:List Pt) (N wk ik:Int) (e:Ending) (w':World):Prop:=
 ∃(v:Value) (G':Nat->Prop),e=.returned v/\w'.ownsRow w.heap.size 27 1 v (eD (ids (bR now))).length ((eD (ids (bR now))).map (Value.int .u32))/\gL w' Pb G' m now N wk ik/\au G w w'/\∀k,G' k->(G k\/w.heap.size<=k)/\k<w'.heap.size/\v.ownBlock≠some k
theorem QW (h:gL w Pb G m now N wk ik) (cb:m<=20000):
  aH 16 #[ah Pb] w (TT w Pb G m now N wk ik):=by
 have aq:=h.facts;obtain⟨Hb,Ab,base,av,GH,SD,A,D,ALL,O,rfl,a1⟩:=h;have hu:kQ (A.map (·.1))=true:=(gV _).2 aq.2.2.2.1;have aE:=af (p8 O.blk);have aF:=af (J8 O.half.clip);have bE:w.cell? (ae Pb 0)=some (ah Hb):=by simp[World.cell?,O.blk]
 have f:=af O;have H:=af a1;have aV:=af hu;have aX:=af aq.2.2.2.2.1;have bU:(A.map (·.1)).length<=20000:=by omega
 clear O a1 hu aq;go_enter func16,ntmps16
 go_wp2_with (go_at_call 55;refine aE.o.mono ?_;rintro e w1 ⟨rfl,a0⟩;have bK:=a0.symm;clear a0;subst bK)
 refine aF.o.mono ?_;rintro e w1 ⟨v,B,F,rfl,K,q,an,Q,-,-,b3,a5⟩;have bc:kQ (iX B)=true:=Gu Q aV.o;have ca:(iX B).length<=20000:=by rw[Q.length_eq];exact bU
 have bd:JZ (iX B):=fun p hp=>by
  obtain⟨c,bN,rfl⟩:=dI.1 (Q.mem_iff.1 hp);exact(aX.o c.1 (tJ bN)).2.2
 obtain⟨cl,cn,rfl,-,-,-⟩:=Rd.aC (enc:=QT) K;have aR:=af K;have bm:=af q;have aW:=af an;have bo:=af a5;have bz:Hid (bR (iX B)=bR (A.map (·.1))):=OO Q aV.o;have bA:=af bc;have bB:=af bd;have cc:=q.size;have ab:Hid (∀j k,F j k->GH k/\k<w.heap.size):=fun j k h=>an.TF j k h;clear K q an Q a5 bc bd aF aE bE aX
 go_wp2_with fail
 go_loopw [3,17] (fun av E wr=>∃(i:Nat) (S:List Pt) (J:Option Addr) (ac:Nat) (g:Nat->Nat->Prop),av=.slice J S.length ac/\E=.int .i64 i/\i<=B.length/\S.length<=ac/\Hid (S=bR (iX (B.take i)))/\Hid (cz dx 3 wr J S)/\Hid (∀x,J=some x->∀j k,g j k->k≠x.block)/\Hid (nJ wr (fun k=>∃j,g j k) g B)/\Hid (∀j k,g j k->j<B.length/\(F j k\/w1.heap.size<=k))/\Hid (au (fun k=>∃j,F j k) w1 wr)) (fun _ E _=>B.length-(intOf E).toNat)
 case atStart=>exact⟨0,[],none,0,fun j k=>F j k/\j<B.length,rfl,rfl,bf _,bf _,by show[]=_;simp[iX,Qx],.inl rfl,(fun x e=>by cases e),⟨aW.o.clip.bk,fun j k h=>⟨j,h⟩,aW.o.clip.ap⟩,fun j k h=>⟨h.2,.inl h.1⟩,au.refl _ _⟩
 case round=>
  obtain⟨i,S,J,ac,g,rfl,rfl,hi,bM,n,aT,aO,t,r,s⟩:=hrel;by_cases d:i<B.length
  .have bb:=aS aR.o s.o (fun X e h9=>by
    obtain⟨j,h9⟩:=h9;have u:=(aR.o.lt X e).1;have y:=(ab.o j X h9).2;omega)
   obtain⟨cm,co,ag,-,-,ba⟩:=Rd.aC (enc:=QT) bb;injection ag with ag _ bI;subst ag bI;obtain⟨b1,b2,V,-,z⟩:=ba.get (by omega);have bi:=z i d;have Z:=af (Uy (t.o.bk i d));have aI:=af (fun w2 w3 u y ak=>t.o.asked (w2:=w2) (w3:=w3) (fun j k h=>(r.o j k h).1) d u y ak);have aU:=af (CU d);have Y:=(Bu B (i+1)).length_le;have C:kQ (iX (B.take (i+1)))=true:=Qy (Bu B (i+1)) bA.o;have R:JZ (iX (B.take (i+1))):=fun p hp=>bB.o p ((Bu B (i+1)).subset hp);rw[CU d]at C R Y;unfold QT at bi;subst V;generalize B[i]=b at*;obtain⟨tb,n0,lb⟩:=b;simp only at bi Z aI aU C R Y;clear z ba bb;have b8:(i:Int)<(B.length:Int):=by omega
   rw[bq]at Y;have al:=(wE.1 C).1;have am:=(wE.1 C).2.1;have bQ:=yt (l:=iX (B.take i));have bT:=yt (l:=lb);have aA:=af (fun(W:World) (T:Option Addr) (U:Nat) (u:cz dx 3 W J S) (y:cz dx 3 W T (bR lb)) (ak:(bR lb).length<=U)=>by
    have h:=LG J T S (bR lb) S.length (bR lb).length ac U W rfl rfl bM ak u y (by have:=n.o;subst this;omega) (by have:=n.o;subst this;exact Kh al fun p hp=>R p (GY _ hp)) (Kh am fun p hp=>R p (List.mem_append_right _ hp)) (by have:=n.o;subst this;exact Bt al) (Bt am) (by have:=n.o;subst this;exact CR C);have e:bR (S++bR lb)=bR (iX (B.take (i+1))):=by rw[aU.o,n.o];exact OM C
    rw[e]at h;exact h)
   clear C R Y al am bQ bT
   go_wp2_with fail
   refine Z.o.mono ?_;rintro e w2 ⟨T,U,rfl,a6,a8,a3,ar⟩;have bn:=af a3;have ad:=af ar;have aD:=af (aA.o w2 T U (aT.o.Sg ar fun x ax h=>aO.o x ax i _ h rfl) a8 a6);clear a3 ar a8 a6 aA Z
   go_wp2_with fail
   refine aD.o.mono ?_;rintro e w3 ⟨ck,rfl,aw,a4⟩;obtain⟨bC,bG,rfl,-,bO,a9⟩:=cz.aC bu (by decide) aw;have bs:=af aw;have aJ:=af a4;have bw:=af a9;have cd:=ad.o.size;have cg:=s.o.size;clear aw a4 a9 aD;go_wp2;go_roundw
   case rel=>
    refine⟨i+1,_,bC,bG,fun j k=>g j k\/j=i/\wr.heap.size<=k/\k<w2.heap.size,rfl,by go_num,by omega,bO,rfl,bw.o,fun x ax j k h=>?_,aI.o w2 w3 bn.o ad.o aJ.o,fun j k h=>?_,?_⟩
    .have u:=(bs.o.lt x.block (by rw[ax];rfl)).1;rcases h with h|⟨-,-,h⟩
     .have y:=(t.o.bk j (r.o j k h).1).lt k h;omega
     .omega
    .rcases h with h|⟨rfl,h,-⟩
     .exact r.o j k h
     .exact⟨d,.inr (by omega)⟩
    .refine(au.strip (((s.o.mono fun k h=>.inl h)).trans (ad.o.mono fun k h=>?_))).below aJ.o;rcases(r.o i k h).2 with h9|h9
     .exact .inl ⟨i,h9⟩
     .exact .inr h9
   case measure=>simp[intOf];omega
  .obtain rfl:i=B.length:=by omega
   rw[jy]at n;have b5:S.length<=20000:=by have u:=n.o;have y:=yt (l:=iX B);rw[<-u]at y;omega
   have ce:=s.o.size;have I:Hid (au GH w wr):=((au.refl GH w).below bm.o).trans (s.o.mono fun k h=>by
    obtain⟨j,h⟩:=h;exact(ab.o j k h).1)
   have ao:∀k,av.ownBlock=some k->k<w.heap.size:=fun k e=>(f.o.row.lt k e).2;have b4:=(aZ.1 f.o.blk).1;have a:=f.o.qy;have P:∀j k,g j k->k<wr.heap.size/\(GH k\/w.heap.size<=k):=fun j k h=>⟨(t.o.bk j (r.o j k h).1).lt k h,(r.o j k h).2.imp (fun h=>(ab.o j k h).1) fun h=>by omega⟩;have bv:Hid (gL wr Pb (fun k=>(G k\/w.heap.size<=k)/\k<wr.heap.size) m (A.map (·.1)) N wk ik):=by
    refine⟨Hb,Ab,base,av,fun k=>(GH k/\k<w.heap.size)\/∃j,g j k,SD,A,D,ALL,⟨bF I.o f.o.blk (fun h=>(a.1 Pb h).2.1 rfl),aS f.o.row I.o (fun X e h=>(a.1 X h).2.2.1 e),bo.o wr g _ s.o ⟨t.o.bk,fun j k h=>.inr ⟨j,h⟩,t.o.ap⟩ (fun k h=>.inl h) (fun j k h=>(r.o j k h).2),f.o.dir.kept I.o (fun k h h9=>(a.1 k h9).1 h),bJ f.o.hb I.o.size,f.o.few,f.o.fwd,f.o.bwd,⟨fun k hk=>?_,fun k hk=>⟨(a.2.1 k hk).1,(a.2.1 k hk).2.1,by have:=(a.2.1 k hk).2.2;omega⟩,a.2.2⟩⟩,rfl,fun k hk=>?_⟩
    .have hq:GH k\/w.heap.size<=k:=hk.elim (fun h=>.inl h.1) fun⟨j,h⟩=>(P j k h).2;have a7:k<wr.heap.size:=hk.elim (fun h=>by have:=h.2;omega) fun⟨j,h⟩=>(P j k h).1;rcases hq with hq|hq
     .exact⟨(a.1 k hq).1,(a.1 k hq).2.1,(a.1 k hq).2.2.1,a7⟩
     .exact⟨fun h=>by have:=(a.2.1 k h).2.2;omega,by omega,fun e=>by have:=ao k e;omega,a7⟩
    .rcases hk with hk|hk|rfl|hk
     .rcases hk with hk|⟨j,hk⟩
      .exact⟨.inl (H.o k (.inl hk.1)),by have:=hk.2;omega⟩
      .exact⟨(P j k hk).2.imp (fun h=>H.o k (.inl h)) id,(P j k hk).1⟩
     .exact⟨.inl (H.o k (.inr (.inl hk))),by have:=(a.2.1 k hk).2.2;omega⟩
     .exact⟨.inl (H.o k (.inr (.inr (.inl rfl)))),by omega⟩
     .exact⟨.inl (H.o k (.inr (.inr (.inr hk)))),by have:=ao k hk;omega⟩
   have b7:¬(B.length:Int)<(B.length:Int):=by omega
   have br:Hid (au G w wr):=I.o.mono fun k h=>H.o k (.inl h);clear I a P ao;have bx:Hid (S=bR (A.map (·.1))):=n.o.trans bz.o;clear n aO t r s;obtain⟨w4,bL⟩:∃w4:World,w4=wr:=⟨_,rfl⟩;subst bL
   go_wp2_with fail
   go_loopw [6,31] (fun v E wr=>∃i:Nat,E=.int .i64 i/\i<=S.length/\Hid (wr.ownsRow w4.heap.size 27 1 v (ids (S.take i)).length ((ids (S.take i)).map (Value.int .u32)))/\Below w4.heap.size w4 wr) (fun _ E _=>S.length-(intOf E).toNat)
   case atStart=>exact⟨0,rfl,bf _,by simp[ids];exact dz _ _ _ _,aB _ _⟩
   case round=>
    obtain⟨i,rfl,hi,HO,q⟩:=hrel;have bY:=q.size;have bV:(ids (S.take i)).length<=20000:=by
     unfold ids;rw[bX,eB];omega
    by_cases d:i<S.length
    .obtain⟨b,off,V,b6,z⟩:=(aT.o.below q).get (by omega);have bh:=z i d 0 (by omega);have x1:=z i d 1 (by omega);have x2:=z i d 2 (by omega);simp only[dx,aM,aN,dM]at bh x1 x2;have aK:Hid (ids (S.take (i+1))=ids (S.take i)++[S[i].2.2]):=by
      show _=_;unfold ids;rw[dZ d,bS];rfl
     have aG:=af V;clear z V;generalize S[i]=p at*;obtain⟨be,bg,az⟩:=p;simp only at bh x1 x2 aK;obtain rfl:=aG.o;clear aG;generalize ids (S.take i)=L at*;have b9:(i:Int)<(S.length:Int):=by omega
     have aP:=af (HO.o.alloc (.cells #[aa be,aa bg,ai az] 29));have bj:=q.alloc bY (.cells #[aa be,aa bg,ai az] 29)
     go_wp2_with (at_builtin;refine uy sM w4.heap.size aP.o [.int .u32 az] rfl (by simp[Value.oneCell']) rfl _ _ rfl rfl _ (by show aj (wr.heap.size+1) 1 1=_;simp) (by unfold maxLen;omega) (by omega) (by simp;omega) ?_;intro cj w6 bW bP;have bD:=dB bj aP.o bP (by simp;omega) (ay _))
     go_roundw
     case rel=>
      refine⟨i+1,by go_num,by omega,?_,bD⟩;show World.ownsRow _ _ _ _ _ _ _;rw[aK.o,bS,bq];exact bW
     case measure=>simp[intOf];omega
    .obtain rfl:i=S.length:=by omega
     have M:=HO.o;rw[jy]at M bV;have bl:=af (uW M (by omega));have aQ:=af M;obtain⟨ch,ci,rfl,-,-,-⟩:=Rd.aC M;have bp:=af q;clear M HO q
     go_wp2_with (go_at_call 64;refine bl.o.mono ?_;rintro e b0 ⟨rfl,K,a2⟩;have bt:=af K;have aL:=af a2;clear K a2)
     go_ret;have cf:=aL.o.size;have aY:au (fun _=>False) w4 b0:=au.strip ((((au.refl (fun _=>False) w4).below bp.o).mono fun k h=>.inl h).trans (aL.o.mono fun k h=>.inr (aQ.o.lt k h).1));have bH:eD (ids S)=eD (ids (bR (A.map (·.1)))):=by rw[<-bx.o]
     have bZ:(eD (ids S)).length=(ids S).length:=jC _;refine⟨_,fun k=>(G k\/w.heap.size<=k)/\k<w4.heap.size,rfl,?_,bv.o.kept aY fun _ _ h=>h,br.o.trans (aY.mono fun _ h=>h.elim),fun k hk=>⟨hk.1,by omega,fun e=>by have:=(aQ.o.lt k e).1;omega⟩⟩;rw[<-bH,bZ];exact eu bt.o (by omega)
end
theorem BS {P:Program} {fn:Func} {p q:Tmp} {ty:TypeId} (h:fn.results=#[.cell p ty,.tmp q]) (a:Array Value) (w:World) (g:Nat) (t:TypeId) (cs:Array Value) (fr:Nat×Nat) (d:TypeDesc) (b:Value)
  (hp:a.getD p undef=ah g) (c:a.getD q undef=b) (f:w.heap[g]? =some (.cells cs t fr))
  (hu:P.underlying ty=some d) (hd:(match d with|.struct _|.array _ _=>true|_=>false)=true) (hi:(P.info? ty).map (·.size)=some cs.size):
  (results fn a).run P w=.ok (.tuple #[.agg cs,b]) w:=by
 have i:a[p]?.getD undef=ah g:=by simpa using hp
 have e:a[q]?.getD undef=b:=by simpa using c
 simp[results,h,i,e,asAddr,run_loadVar_row w g t ty cs fr d f hu hd hi]
section
variable {w:World} {Pb m:Nat} {G:Nat->Prop} {now:List Pt} {N wk ik:Int}
theorem OP (h:gL w Pb G m now N wk ik):aH 33 #[ah Pb] w (eY w (aa N)):=by
 obtain⟨Hb,Ab,base,av,GH,SD,A,D,ALL,b,rfl,i⟩:=h;have d:=af (p8 b.blk);have c:=af (Ow b.half);have g:w.cell? (ae Pb 0)=some (ah Hb):=by simp[World.cell?,b.blk]
 go_enter func33,ntmps33
 go_wp2_with (first|(go_at_call 55;refine d.o.mono ?_;rintro e w1 ⟨rfl,a⟩;have f:=a.symm;clear a;subst f)|(refine c.o.mono ?_;rintro e w1 ⟨rfl,a⟩))
 go_ret;exact⟨rfl,a⟩
end
end
end Go.Proofs.YtkjdbndekceffaaGreat
