/- Made small by a program. -/
import Derived.Test.YtkjdbndekceffaaGreatZ17
set_option linter.unusedSimpArgs false
set_option linter.unusedVariables false
set_option maxRecDepth 100000
set_option maxHeartbeats 16000000
namespace Go.Proofs.YtkjdbndekceffaaGreat
open Tryz
section
open Go.RowKit Go.Sort Go.Shelf Go.Lib Go.Maps
attribute [local irreducible] wpQuiet
def fJ (B:List (Nat×Nat×List Pt)) (i:Nat):List Pt:=(B[i]?.getD (0,0,[])).2.2
def jH (B:List (Nat×Nat×List Pt)) (i:Nat):Nat:=(B[i]?.getD (0,0,[])).2.1
theorem J2 {α b:Type} (B:List α) (d:α) (g:α->List b):(List.range B.length).flatMap (fun i=>g (B[i]?.getD d))=B.flatMap g:=by
 rw[AA,AA];congr 1;refine rC aA fun i c a=>?_;rw[bT]at a;rw[fM,fM,xK,cz a,gG]
theorem DN (B:List (Nat×Nat×List Pt)) {a:Type} (g:List Pt->List a):(List.range B.length).flatMap (fun i=>g (fJ B i))=B.flatMap fun b=>g b.2.2:=J2 B (0,0,[]) fun b=>g b.2.2
theorem DR {α b:Type} {g h:α->List b}:∀(l:List α),(∀a,(g a).Perm (h a))->(l.flatMap g).Perm (l.flatMap h)
 |[],_=>.refl _
 |a::l,H=>by
  rw[lX,lX];exact(H a).append (DR l H)
theorem J3 {B:List (Nat×Nat×List Pt)} {now:List Pt} (hp:(jm B).Perm now) (f:Pt->Bool):dE ((List.range B.length).flatMap fun i=>dE (ids ((fJ B i).filter f)))=dE (ids (now.filter f)):=by
 rw[DN B fun l=>dE (ids (l.filter f))];refine zV (nI _) ((qJ _ _).trans ?_);have a:(ids ((jm B).filter f)).Perm (ids (now.filter f)):=(hp.filter f).map _;refine a.symm.trans ?_;unfold jm ids;rw[List.filter_flatMap,List.map_flatMap];exact DR B fun b=>(qJ _ _).symm
theorem SumB.two {bd:Nat->Nat->Prop} {r:Nat->Nat} {b:Nat} (c:∀i t,bd i t->r i<=t/\t<=2*r i+b):∀{i n:Nat},SumB bd i n->((List.range i).map r).sum<=n/\n<=2*((List.range i).map r).sum+i*b
 |0,n,a=>by simp[SumB]at a;subst a;simp
 |i+1,n,a=>by
  obtain⟨n',t,d,f,rfl⟩:=a;have g:=SumB.two c d;have h:=c i t f;have e:([i].map r).sum=r i:=aA;rw[uU,bL,AO,e,pQ i 1 b];omega
def DT (N:Int) (L CU:Nat):Prop:=L<=CU/\∀K:Nat,N<((2^K:Nat):Int)->CU<=2*L+K*(8*K+1)
theorem bitLen_le {n K:Nat} (h:n<2^K) (f:n<=20000):Lib.bitLen n<=K:=by
 by_cases a:n=0
 .subst a;exact aX _
 .obtain⟨c,b,d⟩:=bI n aa a;have e:Lib.bitLen n-1<K:=(Ij (by decide:1<2)).1 (ry b h);omega
section
variable {w w1:World} {Pb m:Nat} {G GH:Nat->Prop} {now:List Pt} {A:List eO} {N wk gP:Int} {B:List (Nat×Nat×List Pt)} {F:Nat->Nat->Prop}
theorem Fq.cost (T:Fq w w1 GH A N B F) {r:Nat->Nat} {bd:Nat->Nat->Prop} (g:∀i t,bd i t->r i<=t/\t<=2*r i+(8*Lib.bitLen (jH B i)+1)) {n:Nat} (j:SumB bd B.length n):DT N ((List.range B.length).map r).sum n:=by
 have c:∀i,jH B i<=20000/\∀K:Nat,N<((2^K:Nat):Int)->jH B i<2^K:=fun i=>by
  unfold jH;by_cases hi:i<B.length
  .rw[cz hi];have a:=T.built _ (bB hi);refine⟨a.2,fun K f=>?_⟩;simp only[gG];omega
  .rw[ow aa];exact⟨aX _,fun K _=>pR ai⟩
 refine⟨(SumB.two (r:=r) (b:=2000) (fun i t h=>?_) j).1,fun K f=>?_⟩
 .have a:=g i t h;have d:Lib.bitLen (jH B i)<=15:=bitLen_le (ry (c i).1 ai) (c i).1;omega
 .have a:=(SumB.two (r:=r) (b:=8*K+1) (fun i t h=>by
   have a:=g i t h;have d:=bitLen_le ((c i).2 K f) (c i).1;omega) j).2
  have d:B.length<=K:=by
   by_cases k:B.length=0
   .omega
   .have e:=T.log k;have l:((2:Int)^(B.length-1))=((2^(B.length-1):Nat):Int):=aA;rw[l]at e;have m:(2:Nat)^(B.length-1)<2^K:=aa;have o:=(Ij (by decide:1<2)).1 m;omega
  have e:=o8 (8*K+1) d;omega
def Hq (w:World) (Pb:Nat) (G:Nat->Prop) (m:Nat) (now:List Pt) (N wk gP:Int) (L:List Int) (e:Ending) (w':World):Prop:=
 ∃(v:Value) (CU:Nat),e=.returned (.tuple #[v,af CU])/\w'.ownsRow w.heap.size 27 1 v L.length (L.map (Value.int .u32))/\DT N L.length CU/\ax (fun k=>k=Pb) w w'/\ed w' Pb G m now N wk (wrap64 (gP+CU))
theorem oo.at (W:oo w G F B) {i:Nat} (hi:i<B.length):Bk w (F i) B[i].1 (jH B i) (fJ B i):=by
 have h:=W.bk i hi;unfold jH fJ;rwa [cz hi]
theorem oo.few (W:oo w G F B) (f:Pt->Bool) (i:Nat):((fJ B i).filter f).length<=20000:=by
 refine bD (gT _ _) ?_;by_cases hi:i<B.length
 .obtain⟨lo,m0,m1,m2,m3,m4,a,bx,cn,hp,lw,ob,tl,sv,dn,h⟩:=W.at hi;have:=h.box.Ff;omega
 .unfold fJ;rw[ow aa];simp
theorem oo.Wl (hp:(jm B).Perm (A.map (·.1))) (d:∀c∈A,zi c.1) (i:Nat):T9 (fJ B i):=fun p a=>by
 have b:p∈jm B:=by
  unfold fJ at a;by_cases hi:i<B.length
  .rw[cz hi]at a;exact xQ.2 ⟨_,bB hi,a⟩
  .rw[ow aa]at a;simp at a
 obtain⟨c,e,rfl⟩:=dh.1 (hp.mem_iff.1 b);exact d c e
theorem J4 {fn:FuncId} {cs:Array Value} (f:Pt->Bool) (q:∀args w,(callFunc fn args).run prog w=.ok (.enter fn args) w) (h:ed w Pb G m now N wk gP)
  (ask:∀(u:World) (F:Nat->Prop) (tb n0:Nat) (l:List Pt),Below w.heap.size w u->Bk u F tb n0 l->T9 l->aK fn (#[aj tb]++cs) u fun e d=>∃(v:Value) (t:Nat),e=.returned (.tuple #[v,af t])/\((dE (ids (l.filter f))).length<=t/\t<=2*(dE (ids (l.filter f))).length+(8*Lib.bitLen n0+1))/\d.ownsRow u.heap.size 27 1 v (dE (ids (l.filter f))).length ((dE (ids (l.filter f))).map (Value.int .u32))/\Below u.heap.size u d):
  aK 65 #[aj Pb,.func (.func fn) #[] cs] w (Hq w Pb G m now N wk gP (dE (ids (now.filter f)))):=by
 obtain⟨Hb,Ab,base,av,GH,SD,A,D,ALL,a,rfl,s⟩:=h;have x:=a.half.facts.2.2.2.2.1;refine(Rw (Q:=fun L n=>L=dE (ids ((A.map (·.1)).filter f))/\DT N L.length n) q a.blk a.half (fun k E=>(a.q8.1 k E).2.2.2) ?_).mono ?_
 .intro w1 B F T;have p:∀i,(dE (ids ((fJ B i).filter f))).length=((fJ B i).filter f).length:=fun i=>by rw[iP];exact bT _
  have o:=fun i=>T.wd.few f i;refine⟨fun i=>dE (ids ((fJ B i).filter f)),fun i t=>(dE (ids ((fJ B i).filter f))).length<=t/\t<=2*(dE (ids ((fJ B i).filter f))).length+(8*Lib.bitLen (jH B i)+1)/\jH B i<=20000,fun i t ht=>?_,fun i=>by rw[p];exact o i,fun i hi u b y=>?_,fun n H=>⟨J3 T.perm f,?_⟩⟩
  .have g:=o i
   replace ht:(dE (ids ((fJ B i).filter f))).length<=t/\t<=2*(dE (ids ((fJ B i).filter f))).length+(8*Lib.bitLen (jH B i)+1)/\jH B i<=20000:=ht
   have j:Lib.bitLen (jH B i)<=15:=bitLen_le (ry ht.2.2 ai) ht.2.2;rw[p]at ht;omega
  .refine(ask u (F i) B[i].1 (jH B i) (fJ B i) b (y.at hi) (oo.Wl T.perm x i)).mono ?_;rintro e d ⟨v,t,rfl,ht,c,z⟩;refine⟨v,t,rfl,⟨ht.1,ht.2,?_⟩,c,z⟩;unfold jH;rw[cz hi];exact(T.built _ (bB hi)).2
  .have g:=T.cost (r:=fun i=>(dE (ids ((fJ B i).filter f))).length) (fun i t ht=>⟨ht.1,ht.2.1⟩) H;have j:(dE ((List.range B.length).flatMap fun i=>dE (ids ((fJ B i).filter f)))).length=((List.range B.length).map fun i=>(dE (ids ((fJ B i).filter f))).length).sum:=by rw[iP,List.length_flatMap]
   rw[j];exact g
 .rintro e w' ⟨v,L,I,rfl,c,⟨rfl,C⟩,K,b⟩;exact⟨v,I,rfl,c,C,K,Hb,Ab,base,av,GH,SD,A,D,ALL,a.Sa K b,rfl,s⟩
def Hr (x y way:Int) (p:Pt):Bool:=decide (way<=3)&&BJ x y (decide (way%2=1)) (decide (2<=way)) p
theorem RD (l:List Pt) (x y a:Int):Fu l x y a=dE (ids (l.filter (Hr x y a))):=by
 unfold Fu Hr;by_cases b:a<=3
 .simp only[b,gK,decide_true,Bool.true_and];rfl
 .simp only[b,jN,decide_false,Bool.false_and];rw[xD.2 aA];exact OM.symm
theorem Cq (h:ed w Pb G m now N wk gP) (x1 x2 y1 y2 a:Int):aK 17 #[aj Pb,.agg #[af x1,af x2,af y1,af y2,ay a]] w (Hq w Pb G m now N wk gP (dE (ids (now.filter (H8 x1 x2 y1 y2))))):=by
 have s:Below w.heap.size w (w.alloc (.cells #[af x1,af x2,af y1,af y2,ay a] 38)):=(aJ _ _).alloc (aB _) _;have sz:(w.alloc (.cells #[af x1,af x2,af y1,af y2,ay a] 38)).heap.size=w.heap.size+1:=aA;have i:(w.alloc (.cells #[af x1,af x2,af y1,af y2,ay a] 38)).heap[w.heap.size]? =some (Obj.cells #[af x1,af x2,af y1,af y2,ay a] 38 (0,0)):=by
  have q:=cB w (.cells #[af x1,af x2,af y1,af y2,ay a] 38);have e:w.heap.size=w.heap.size:=aA;rw[e]at q;exact q
 have j:=ag (J4 (fn:=66) (cs:=#[aj w.heap.size]) (H8 x1 x2 y1 y2) Hf (h.below s) fun u F tb n0 l y x C=>by
  have b:=(aS y i).trans i;refine(M6 x x1 x2 y1 y2 a (fC b) (fC b) (fC b) (fC b) (fC b)).mono ?_;rintro e D ⟨v,t,rfl,⟨c,rfl,g⟩,f,z⟩;exact⟨v,_,rfl,⟨Nat.le_add_left _ _,by unfold hasB at*;omega⟩,f,z⟩)
 have d:ax (fun k=>k=Pb) w (w.alloc (.cells #[af x1,af x2,af y1,af y2,ay a] 38)):=(ax.refl _ w).alloc _;have d:=ag d;have A:=ag sz;go_enter func17,ntmps17
 go_wp2_with fail
 refine j.o.mono ?_;rintro e E ⟨v,B,rfl,f,g,K,hP⟩;have HO:=ag f;have r:=ag hP;have p:=ag K;have n:=ag g;go_wp2;go_ret2;exact⟨v,B,rfl,eB HO.o (by rw[A.o];omega),n.o,d.o.trans p.o,r.o⟩
theorem Fw (h:ed w Pb G m now N wk gP) (x1 x2 y:Int):aK 19 #[aj Pb,af x1,af x2,af y] w (Hq w Pb G m now N wk gP (dE (ids (now.filter (Ia x1 x2 y))))):=by
 have r:Below w.heap.size w (((w.alloc (.cells #[af x1] 2)).alloc (.cells #[af x2] 2)).alloc (.cells #[af y] 2)):=(((aJ _ _).alloc (aB _) _).alloc aA _).alloc aD _;have sz:(((w.alloc (.cells #[af x1] 2)).alloc (.cells #[af x2] 2)).alloc (.cells #[af y] 2)).heap.size=w.heap.size+3:=aA;have d:(((w.alloc (.cells #[af x1] 2)).alloc (.cells #[af x2] 2)).alloc (.cells #[af y] 2)).heap[w.heap.size]? =some (Obj.cells #[af x1] 2 (0,0)):=by
  have q:=cB w (.cells #[af x1] 2);have e:w.heap.size=w.heap.size:=aA;rw[e]at q;exact(bY _ _ _ (by simp;try omega)).trans ((bY _ _ _ (by simp;try omega)).trans (q))
 have f:(((w.alloc (.cells #[af x1] 2)).alloc (.cells #[af x2] 2)).alloc (.cells #[af y] 2)).heap[w.heap.size+1]? =some (Obj.cells #[af x2] 2 (0,0)):=by
  have q:=cB (w.alloc (.cells #[af x1] 2)) (.cells #[af x2] 2);have e:(w.alloc (.cells #[af x1] 2)).heap.size=w.heap.size+1:=aA;rw[e]at q;exact(bY _ _ _ (by simp;try omega)).trans (q)
 have g:(((w.alloc (.cells #[af x1] 2)).alloc (.cells #[af x2] 2)).alloc (.cells #[af y] 2)).heap[w.heap.size+2]? =some (Obj.cells #[af y] 2 (0,0)):=by
  have q:=cB ((w.alloc (.cells #[af x1] 2)).alloc (.cells #[af x2] 2)) (.cells #[af y] 2);have e:((w.alloc (.cells #[af x1] 2)).alloc (.cells #[af x2] 2)).heap.size=w.heap.size+2:=aA;rw[e]at q;exact q
 have i:=ag (J4 (fn:=68) (cs:=#[aj w.heap.size,aj (w.heap.size+1),aj (w.heap.size+2)]) (Ia x1 x2 y) JU (h.below r) fun u F tb n0 l b s J=>by
  have D:=(aS b d).trans d;have E:=(aS b f).trans f;have H:=(aS b g).trans g;refine(PS s x1 x2 y (fC D) (fC E) (fC H)).mono ?_;rintro e L ⟨v,t,rfl,⟨A,B⟩,c,x⟩;exact⟨v,t,rfl,⟨A,bD B (by unfold KQ xe;omega)⟩,c,x⟩)
 have a:ax (fun k=>k=Pb) w (((w.alloc (.cells #[af x1] 2)).alloc (.cells #[af x2] 2)).alloc (.cells #[af y] 2)):=(((ax.refl _ w).alloc _).alloc _).alloc _;have a:=ag a;have C:=ag sz;go_enter func19,ntmps19
 go_wp2_with fail
 refine i.o.mono ?_;rintro e M ⟨v,I,rfl,c,z,K,hP⟩;have HO:=ag c;have p:=ag hP;have n:=ag K;have j:=ag z;go_wp2;go_ret2;exact⟨v,I,rfl,eB HO.o (by rw[C.o];omega),j.o,a.o.trans n.o,p.o⟩
theorem Cr (h:ed w Pb G m now N wk gP) (x y a:Int) (B:0<=a):aK 18 #[aj Pb,af x,af y,.int .u8 a] w (Hq w Pb G m now N wk gP (dE (ids (now.filter (Hr x y a))))):=by
 have A:Below w.heap.size w (((w.alloc (.cells #[af x] 2)).alloc (.cells #[af y] 2)).alloc (.cells #[.int .u8 a] 5)):=(((aJ _ _).alloc (aB _) _).alloc aA _).alloc aD _;have sz:(((w.alloc (.cells #[af x] 2)).alloc (.cells #[af y] 2)).alloc (.cells #[.int .u8 a] 5)).heap.size=w.heap.size+3:=aA;have i:(((w.alloc (.cells #[af x] 2)).alloc (.cells #[af y] 2)).alloc (.cells #[.int .u8 a] 5)).heap[w.heap.size]? =some (Obj.cells #[af x] 2 (0,0)):=by
  have q:=cB w (.cells #[af x] 2);have e:w.heap.size=w.heap.size:=aA;rw[e]at q;exact(bY _ _ _ (by simp;try omega)).trans ((bY _ _ _ (by simp;try omega)).trans (q))
 have j:(((w.alloc (.cells #[af x] 2)).alloc (.cells #[af y] 2)).alloc (.cells #[.int .u8 a] 5)).heap[w.heap.size+1]? =some (Obj.cells #[af y] 2 (0,0)):=by
  have q:=cB (w.alloc (.cells #[af x] 2)) (.cells #[af y] 2);have e:(w.alloc (.cells #[af x] 2)).heap.size=w.heap.size+1:=aA;rw[e]at q;exact(bY _ _ _ (by simp;try omega)).trans (q)
 have n:(((w.alloc (.cells #[af x] 2)).alloc (.cells #[af y] 2)).alloc (.cells #[.int .u8 a] 5)).heap[w.heap.size+2]? =some (Obj.cells #[.int .u8 a] 5 (0,0)):=by
  have q:=cB ((w.alloc (.cells #[af x] 2)).alloc (.cells #[af y] 2)) (.cells #[.int .u8 a] 5);have e:((w.alloc (.cells #[af x] 2)).alloc (.cells #[af y] 2)).heap.size=w.heap.size+2:=aA;rw[e]at q;exact q
 have p:=ag (J4 (fn:=67) (cs:=#[aj w.heap.size,aj (w.heap.size+1),aj (w.heap.size+2)]) (Hr x y a) Hl (h.below A) fun u F tb n0 l d C E=>by
  have I:=(aS d i).trans i;have J:=(aS d j).trans j;have L:=(aS d n).trans n;refine(M7 C x y a E B (fC I) (fC J) (fC L)).mono ?_;rw[RD];rintro e O ⟨v,t,rfl,⟨c,rfl,g⟩,f,D⟩;exact⟨v,_,rfl,⟨Nat.le_add_left _ _,aa⟩,f,D⟩)
 have b:ax (fun k=>k=Pb) w (((w.alloc (.cells #[af x] 2)).alloc (.cells #[af y] 2)).alloc (.cells #[.int .u8 a] 5)):=(((ax.refl _ w).alloc _).alloc _).alloc _;have b:=ag b;have H:=ag sz;go_enter func18,ntmps18
 go_wp2_with fail
 refine p.o.mono ?_;rintro e P ⟨v,M,rfl,f,g,K,hP⟩;have HO:=ag f;have z:=ag hP;have s:=ag K;have r:=ag g;go_wp2;go_ret2;exact⟨v,M,rfl,eB HO.o (by rw[H.o];omega),r.o,b.o.trans s.o,z.o⟩
end
end
section
open Go.RowKit Go.Sort Go.Shelf Go.Lib Go.Maps
attribute [local irreducible] wpQuiet
attribute [local go_sem] Oper.eF
def lowMin (s:Option Pt):Option Pt->Option Pt
 |none=>s
 |some p=>match s with
  |none=>some p
  |some q=>if nW p q<0 then some p else some q
def mo (l:List Pt) (x1 x2:Int):Option Pt:=(Nz l x1 x2).head?
theorem ax.Fx {S:Nat->Prop} {w w':World} (K:ax S w w') {g:Nat} (b:S g) (cs:Array Value):ax S w (w'.setRow g cs):=
 ⟨K.os,K.tape,K.output,by rw[setRow_size];exact K.size,fun k c a=>(setRow_other w' g k cs (fun e=>a (e▸b))).trans (K.block k c a)⟩
def Fy (s:Option Pt):Obj:=.cells #[.bool s.isSome] 4 (0,0)
theorem Ht:gF 42:=di func42 aO rfl
theorem PY:gF 70:=di func70 aO rfl
theorem TP {u:World} {F:Nat->Prop} {tb n0:Nat} {l:List Pt} (h:Bk u F tb n0 l) (x1 x2:Int) (s:Option Pt) {ar au fb b:Nat} (aw:u.cell? (ae ar 0)=some (af x1)) (az:u.cell? (ae au 0)=some (af x2)) (aa:u.heap[fb]? =some (Fy s)) (hp:u.heap[b]? =some (yH (s.getD (0,0,0)))) (S:fb≠b):
  aK 70 #[aj tb,aj ar,aj au,aj fb,aj b] u fun e ac=>∃t:Nat,e=.returned (af t)/\t<=uC n0/\ac.heap[fb]? =some (Fy (lowMin s (mo l x1 x2)))/\ac.heap[b]? =some (yH ((lowMin s (mo l x1 x2)).getD (0,0,0)))/\ax (fun k=>k=fb\/k=b) u ac:=by
 obtain⟨lo,m0,m1,m2,m3,m4,hi,bx,cn,a6,lw,ob,tl,sv,dn,h⟩:=h;have H:=ag h;have av:u.cell? (ae tb 4)=some (aj lw):=aG h.blk;have G:Hid (∀W,Below u.heap.size u W->aK 42 #[aj lw,af x1,af x2] W fun e w'=>(∃c:Nat,e=.returned (.tuple #[iT ((mo l x1 x2).getD (0,0,0)).1 ((mo l x1 x2).getD (0,0,0)).2.1 ((mo l x1 x2).getD (0,0,0)).2.2,.bool (mo l x1 x2).isSome,af c])/\c<=uC n0)/\Below W.heap.size W w'):=fun W aU=>by
  refine(Ri (H.o.low.kept ((ax.refl (fun _=>False) u).below aU) (fun _ _ _ h=>h)) x1 x2).mono ?_;rintro e w' ⟨⟨p,hp,c,aW,A⟩,aV⟩;subst hp;exact⟨⟨c,aW,A⟩,aV⟩
 have Z:=ah av;have X:=ah aw;have Y:=ah az;have aX:=(aZ.1 aa).1;have aY:=(aZ.1 hp).1;have aP:=ag aa;have aR:=ag hp;clear h av aa hp aw az;generalize mo l x1 x2=r at*;go_enter func70,ntmps70
 go_upto_region 1 with fail
 go_cut [7,8,9]from 10 (fun a0 a1 a2 aL=>∃g c:Nat,a0=aj g/\a1=.bool r.isSome/\a2=.int .i64 c/\Hid (c<=uC n0)/\Hid (Below u.heap.size u aL)/\Hid (u.heap.size<=g)/\Hid (aL.heap[g]? =some (yH (r.getD (0,0,0)))))
 case first=>
  refine ak (fun W=>∃p:aQ u,W=p.W) [6,7,8,9,10,12,13,14] [(0,false),(1,false),(2,false),(3,true),(4,true),(5,true)] ⟨⟨_,(aJ _ _).drew⟩,rfl⟩ 9 ?_;have w:Below u.heap.size u u.drew:=(aJ _ _).drew;generalize u.drew=w0 at*;refine iQ 6 11 rfl rfl (fun K n=>?_) (fun K n=>?_)
  .refine bf Ht rfl _ _ rfl (vals:=#[aj lw,af x1,af x2]) rfl (G.o _ w) ?_;rintro e w1 ⟨⟨c,rfl,A⟩,aA⟩;have m:=w.trans (aA.mono w.size);refine⟨_,rfl,?_⟩;refine n _ _ (fun _ h=>absurd ai h) ?_;clear n K Z X Y G;have x:=ag A;refine bu [(7,false),(8,false),(9,false),(10,false)] ⟨⟨_,m⟩,rfl⟩ rfl ?_;refine aF 11 rfl fun K n=>?_;go_simp;obtain⟨w2,Q⟩:∃W,W=w1.alloc (.cells #[af 0,af 0,ay 0] 29):=⟨_,rfl⟩;have E:w2.heap[w1.heap.size]? =some (yH (0,0,0)):=by rw[Q];exact cB w1 _
   have B:Below u.heap.size u w2:=by rw[Q];exact m.alloc m.size _
   rw[<-Q];clear Q;refine n _ _ (fun _ _=>⟨⟨_,B⟩,rfl⟩) ?_;clear n K;refine aH [12,13,14] ?_;have z:=ag B;have ao:=ag E;have aE:=ag m.size;clear w m B E aA A;refine xL rfl 29 (.tmp 7) (.tmp 18) rfl rfl w1.heap.size #[af (r.getD (0,0,0)).1,af (r.getD (0,0,0)).2.1,ay (r.getD (0,0,0)).2.2] rfl rfl _ _ ao.o aO rfl (by simp[Value.oneCell']) ?_
   go_wp2_with fail
   go_meet;exact⟨_,c,rfl,rfl,rfl,x,ag (below_setRow z.o aE.o _),aE,ag (vw _ _ _ _ _ _ ao.o)⟩
  .go_simp;obtain⟨w1,P⟩:∃W,W=w0.alloc (.cells #[af 0,af 0,ay 0] 29):=⟨_,rfl⟩;have E:w1.heap[w0.heap.size]? =some (yH (0,0,0)):=by rw[P];exact cB w0 _
   have m:Below u.heap.size u w1:=by rw[P];exact w.alloc w.size _
   rw[<-P];clear P;refine n _ _ (fun _ _=>⟨⟨_,m⟩,rfl⟩) ?_;clear n K;refine aF 6 rfl fun K n=>?_;refine bf Ht rfl _ _ rfl (vals:=#[aj lw,af x1,af x2]) rfl (G.o _ m) ?_;rintro e w2 ⟨⟨c,rfl,A⟩,d⟩;have B:=m.trans (d.mono m.size);have aq:=(d.block _ (aZ.1 E).1).trans E;refine⟨_,rfl,?_⟩;refine n _ _ (fun _ h=>absurd ai h) ?_;clear n K Z X Y G;have x:=ag A;refine iR (fun _=>True) [12,13,14] aO ?_;refine bu [(7,false),(8,false),(9,false),(10,false)] trivial rfl ?_;refine aH [12,13,14] ?_;have z:=ag B;have ap:=ag aq;have aD:=ag w.size;clear w m B E aq d A;refine xL rfl 29 (.tmp 7) (.tmp 18) rfl rfl w0.heap.size #[af (r.getD (0,0,0)).1,af (r.getD (0,0,0)).2.1,ay (r.getD (0,0,0)).2.2] rfl rfl _ _ ap.o aO rfl (by simp[Value.oneCell']) ?_
   go_wp2_with fail
   go_meet;exact⟨_,c,rfl,rfl,rfl,x,ag (below_setRow z.o aD.o _),aD,ag (vw _ _ _ _ _ _ ap.o)⟩
 case rest=>
  obtain⟨g,c,rfl,rfl,rfl,x,v,a4,V⟩:=hcut;have C:=(v.o.block fb aX).trans aP.o;have O:=(v.o.block b aY).trans aR.o;have D:=ag C;have y:=ag O;have aI:=v.o.size;have a5:=ag aI;clear Z X Y G aI;cases r with
  |none=>
   simp only[Option.isSome_none,lowMin,mM]at*;clear C O;go_wp2;go_ret;exact⟨c,rfl,x.o,D.o,y.o,((ax.refl (fun k=>k=fb\/k=b) u).below v.o)⟩
  |some p=>
   obtain⟨f,i,j⟩:=p;simp only[Option.isSome_some,gG]at*;obtain⟨ad,al,am⟩:=gD V.o;simp only at ad al am;cases s with
   |none=>
    have f0:wc.cell? (ae fb 0)=some (.bool false):=by simp[World.cell?,C,Fy]
    have aT:=ag (vw wc b _ #[af f,af i,ay j] _ _ y.o);have HO:=ag ((setRow_other wc b fb #[af f,af i,ay j] S).trans D.o);have f1:(wc.setRow b #[af f,af i,ay j]).cell? (ae fb 0)=some (.bool false):=by simp[World.cell?,HO.o,Fy]
    have f2:(wc.setRow b #[af f,af i,ay j]).frozen? (ae fb 0)=false:=by simp[World.frozen?,HO.o,Fy]
    clear C O
    go_wp2_with (refine xL rfl 29 (.tmp 4) (.tmp 32) rfl rfl b #[af f,af i,ay j] rfl rfl _ _ y.o aO rfl (by simp[Value.oneCell']) ?_)
    go_ret;refine⟨c,rfl,x.o,?_,(aC (a:=(ae fb 0)) S).trans aT.o,(((ax.refl (fun k=>k=fb\/k=b) u).below v.o).Fx (.inr rfl) _).set (a:=(ae fb 0)) _ (.inl (show fb=fb\/fb=b from .inl rfl))⟩;rw[dC _ fb 0 _ _ _ HO.o];rfl
   |some q=>
    have f0:wc.cell? (ae fb 0)=some (.bool true):=by simp[World.cell?,C,Fy]
    obtain⟨J,L,M⟩:=q;obtain⟨a3,y1,y2⟩:=gD y.o;simp only[gG]at a3 y1 y2;have CB:=ag (O1 (f,i,j) (J,L,M) wc);generalize aB:nW (f,i,j) (J,L,M)=ab at*;have an:=ag aB;clear aB C O;by_cases R:ab<0
    .have hd:decide (ab<0)=true:=rH R;have I:lowMin (some (J,L,M)) (some (f,i,j))=some (f,i,j):=by simp only[lowMin];rw[an.o,aN R]
     have T:=ag I;clear I
     go_wp2_with (first|(go_at_call 71;refine CB.o.mono ?_;rintro e w2 ⟨rfl,d⟩;obtain⟨ad,al,am⟩:=gD ((d.block g (aZ.1 V.o).1).trans V.o);simp only at ad al am;have z:=ag (v.o.trans (d.mono v.o.size));have N:=ag ((aS d y.o).trans y.o);have U:=ag ((aS d D.o).trans D.o);have HO:=ag ((setRow_other w2 b fb #[af f,af i,ay j] S).trans U.o);have f1:(w2.setRow b #[af f,af i,ay j]).cell? (ae fb 0)=some (.bool true):=(by simp[World.cell?,HO.o,Fy]);have f2:(w2.setRow b #[af f,af i,ay j]).frozen? (ae fb 0)=false:=(by simp[World.frozen?,HO.o,Fy]);clear d)|(refine xL rfl 29 (.tmp 4) (.tmp 32) rfl rfl b #[af f,af i,ay j] rfl rfl _ _ N.o aO rfl (by simp[Value.oneCell']) ?_))
     go_ret;rw[T.o];refine⟨c,rfl,x.o,?_,(aC (a:=(ae fb 0)) S).trans (vw _ _ _ _ _ _ N.o),(((ax.refl (fun k=>k=fb\/k=b) u).below z.o).Fx (.inr rfl) _).set (a:=(ae fb 0)) _ (.inl (show fb=fb\/fb=b from .inl rfl))⟩;rw[dC _ fb 0 _ _ _ HO.o];rfl
    .have hd:decide (ab<0)=false:=Es R;have I:lowMin (some (J,L,M)) (some (f,i,j))=some (J,L,M):=by simp only[lowMin];rw[an.o,aM R]
     have T:=ag I;clear I
     go_wp2_with (go_at_call 71;refine CB.o.mono ?_;rintro e w2 ⟨rfl,d⟩;have z:=ag (v.o.trans (d.mono v.o.size));have N:=ag ((aS d y.o).trans y.o);have U:=ag ((aS d D.o).trans D.o);clear d)
     go_ret;rw[T.o];exact⟨c,rfl,x.o,U.o,N.o,((ax.refl (fun k=>k=fb\/k=b) u).below z.o)⟩
def Cs (x1 x2:Int) (l:List Pt):Option Pt->Prop
 |none=>∀p∈l,zJ x1 x2 p=false
 |some p=>p∈l/\zJ x1 x2 p=true/\∀q∈l,zJ x1 x2 q=true->¬uf q p
theorem xx (l:List Pt) (x1 x2:Int):Cs x1 x2 l (mo l x1 x2):=by
 have hp:=iZ (l.filter (zJ x1 x2));have f:(ku (l.filter (zJ x1 x2))).Pairwise fun p q=>Ny p q=true:=q9 (le:=Ny) (fun p q r g i=>by simp only[Ny,oC,iI]at*;unfold uf at*;omega) (fun p q=>by simp only[Ny,AB,oC,iI];unfold uf;omega) _;unfold mo Nz;generalize ku (l.filter (zJ x1 x2))=S at*;cases S with
 |nil=>
  intro p c;cases h:zJ x1 x2 p with
  |false=>rfl
  |true=>exact absurd (hp.mem_iff.2 (bF.2 ⟨c,h⟩)) iA
 |cons p T=>
  have a:=bF.1 (hp.mem_iff.1 nP);refine⟨a.1,a.2,fun q d e h=>?_⟩;rcases gU.1 (hp.mem_iff.2 (bF.2 ⟨d,e⟩))with rfl|h2
  .exact wz _ h
  .have b:=(lV.1 f).1 q h2;unfold Ny at b;simp[h]at b
theorem Nf {x1 x2:Int} {l k:List Pt} {s r:Option Pt} (b:Cs x1 x2 l s) (c:Cs x1 x2 k r):Cs x1 x2 (l++k) (lowMin s r):=by
 cases r with
 |none=>
  cases s with
  |none=>exact fun p hp=>(bP.1 hp).elim (b p) (c p)
  |some q=>exact⟨bP.2 (.inl b.1),b.2.1,fun p hp a=>(bP.1 hp).elim (fun h=>b.2.2 p h a) (fun h=>absurd a (by rw[c p h];simp))⟩
 |some p=>
  cases s with
  |none=>exact⟨bP.2 (.inr c.1),c.2.1,fun q f a=>(bP.1 f).elim (fun h=>absurd a (by rw[b q h];simp)) (fun h=>c.2.2 q h a)⟩
  |some q=>
   simp only[lowMin];by_cases d:nW p q<0
   .rw[aN d];rw[qm]at d;refine⟨bP.2 (.inr c.1),c.2.1,fun t ht a=>(bP.1 ht).elim (fun h e=>b.2.2 t h a (sV e d)) (fun h=>c.2.2 t h a)⟩
   .rw[aM d];rw[qm]at d;refine⟨bP.2 (.inl b.1),b.2.1,fun t ht a=>(bP.1 ht).elim (fun h=>b.2.2 t h a) (fun h e=>?_)⟩;have:=c.2.2 t h a;unfold uf at*;omega
theorem y5 {x1 x2:Int} {l k:List Pt} (hp:k.Perm l) (hu:(ids l).Nodup) {s r:Option Pt} (a:Cs x1 x2 l s) (b:Cs x1 x2 k r):s=r:=by
 cases s with
 |none=>
  cases r with
  |none=>rfl
  |some p=>exact absurd b.2.1 (by rw[a p (hp.mem_iff.1 b.1)];simp)
 |some q=>
  cases r with
  |none=>exact absurd a.2.1 (by rw[b q (hp.mem_iff.2 a.1)];simp)
  |some p=>
   have c:=a.2.2 p (hp.mem_iff.1 b.1) b.2.1;have d:=b.2.2 q (hp.mem_iff.2 a.1) a.2.1;rw[Qq hu a.1 (hp.mem_iff.1 b.1) (by unfold uf at*;omega)]
def Ng (B:List (Nat×Nat×List Pt)) (x1 x2:Int):Nat->Option Pt
 |0=>none
 |i+1=>lowMin (Ng B x1 x2 i) (mo (fJ B i) x1 x2)
theorem K9 (B:List (Nat×Nat×List Pt)) (x1 x2:Int):∀i,Cs x1 x2 ((List.range i).flatMap (fJ B)) (Ng B x1 x2 i)
 |0=>fun p hp=>by simp at hp
 |i+1=>by
  rw[uU,gZ];have e:[i].flatMap (fJ B)=fJ B i:=aA;rw[e];exact Nf (K9 B x1 x2 i) (xx _ _ _)
theorem Hu {B:List (Nat×Nat×List Pt)} {now:List Pt} (hp:(jm B).Perm now) (hu:(ids now).Nodup) (x1 x2:Int):Ng B x1 x2 B.length=mo now x1 x2:=by
 have a:=K9 B x1 x2 B.length;rw[show(List.range B.length).flatMap (fJ B)=jm B from DN B fun l=>l]at a;exact(y5 hp hu (xx now x1 x2) a).symm
section
variable {w w1:World} {Pb m:Nat} {G GH:Nat->Prop} {now:List Pt} {A:List eO} {N wk gP:Int}
def U4 (w:World) (Pb:Nat) (G:Nat->Prop) (m:Nat) (now:List Pt) (N wk gP:Int) (o:Option Pt) (e:Ending) (w':World):Prop:=
 ∃CU:Nat,e=.returned (.tuple #[iT (o.getD (0,0,0)).1 (o.getD (0,0,0)).2.1 (o.getD (0,0,0)).2.2,.bool o.isSome,af CU])/\DT N 0 CU/\ax (fun k=>k=Pb) w w'/\ed w' Pb G m now N wk (wrap64 (gP+CU))
def y7 (w:World) (x1 x2:Int):World:=((((w.alloc (.cells #[af x1] 2)).alloc (.cells #[af x2] 2)).alloc (.cells #[af 0,af 0,ay 0] 29)).alloc (.cells #[af 0,af 0,ay 0] 29)).alloc (.cells #[.bool false] 4)
theorem J5 (w:World) (x1 x2:Int):Below w.heap.size w (y7 w x1 x2)/\(y7 w x1 x2).heap.size=w.heap.size+5/\(y7 w x1 x2).heap[w.heap.size]? =some (.cells #[af x1] 2 (0,0))/\(y7 w x1 x2).heap[w.heap.size+1]? =some (.cells #[af x2] 2 (0,0))/\
  (y7 w x1 x2).heap[w.heap.size+1+1]? =some (yH (0,0,0))/\(y7 w x1 x2).heap[w.heap.size+1+1+1]? =some (yH (0,0,0))/\(y7 w x1 x2).heap[w.heap.size+1+1+1+1]? =some (Fy none):=by
 obtain⟨b,a⟩:∃W,W=y7 w x1 x2:=⟨_,rfl⟩;rw[<-a];unfold y7 at a;have c:Below w.heap.size w b:=by
  rw[a];exact(((((aJ _ _).alloc (aB _) _).alloc aA _).alloc (by simp<;>omega) _).alloc (by simp<;>omega) _).alloc (by simp<;>omega) _
 have sz:b.heap.size=w.heap.size+5:=by rw[a];simp
 have d:b.heap[w.heap.size]? =some (.cells #[af x1] 2 (0,0)):=by
  rw[a];exact(bY _ _ _ (by simp<;>omega)).trans ((bY _ _ _ (by simp<;>omega)).trans ((bY _ _ _ (by simp<;>omega)).trans ((bY _ _ _ aA).trans (cB w _))))
 have e:b.heap[w.heap.size+1]? =some (.cells #[af x2] 2 (0,0)):=by
  rw[a];exact(bY _ _ _ (by simp<;>omega)).trans ((bY _ _ _ (by simp<;>omega)).trans ((bY _ _ _ aA).trans (Ex w (.cells #[af x1] 2) (.cells #[af x2] 2))))
 have f:b.heap[w.heap.size+1+1]? =some (yH (0,0,0)):=by
  rw[a];exact(bY _ _ _ (by simp<;>omega)).trans ((bY _ _ _ aA).trans (by have:=cB ((w.alloc (.cells #[af x1] 2)).alloc (.cells #[af x2] 2)) (.cells #[af 0,af 0,ay 0] 29);rwa [show((w.alloc (.cells #[af x1] 2)).alloc (.cells #[af x2] 2)).heap.size=w.heap.size+1+1 by simp]at this))
 have g:b.heap[w.heap.size+1+1+1]? =some (yH (0,0,0)):=by
  rw[a];exact(bY _ _ _ aA).trans (by have:=cB (((w.alloc (.cells #[af x1] 2)).alloc (.cells #[af x2] 2)).alloc (.cells #[af 0,af 0,ay 0] 29)) (.cells #[af 0,af 0,ay 0] 29);rwa [show(((w.alloc (.cells #[af x1] 2)).alloc (.cells #[af x2] 2)).alloc (.cells #[af 0,af 0,ay 0] 29)).heap.size=w.heap.size+1+1+1 by simp]at this)
 have h:b.heap[w.heap.size+1+1+1+1]? =some (Fy none):=by
  rw[a];have:=cB ((((w.alloc (.cells #[af x1] 2)).alloc (.cells #[af x2] 2)).alloc (.cells #[af 0,af 0,ay 0] 29)).alloc (.cells #[af 0,af 0,ay 0] 29)) (.cells #[.bool false] 4);rwa [show((((w.alloc (.cells #[af x1] 2)).alloc (.cells #[af x2] 2)).alloc (.cells #[af 0,af 0,ay 0] 29)).alloc (.cells #[af 0,af 0,ay 0] 29)).heap.size=w.heap.size+1+1+1+1 by simp]at this
 exact⟨c,sz,d,e,f,g,h⟩
theorem PZ {w:World} {v:Value} (x1 x2:Int) (Q:Option Pt->Nat->World->Prop)
  (x:aK 69 #[v,.func (.func 70) #[] #[aj w.heap.size,aj (w.heap.size+1),aj (w.heap.size+1+1+1+1),aj (w.heap.size+1+1+1)]] (y7 w x1 x2) fun e a=>∃(r:Option Pt) (d:Nat),e=.returned (af d)/\a.heap[w.heap.size+1+1+1+1]? =some (Fy r)/\a.heap[w.heap.size+1+1+1]? =some (yH (r.getD (0,0,0)))/\a.heap[w.heap.size+1+1]? =some (yH (0,0,0))/\Q r d a):
  aK 20 #[v,af x1,af x2] w fun e w'=>∃(r:Option Pt) (d:Nat) (u:World),e=.returned (.tuple #[iT (r.getD (0,0,0)).1 (r.getD (0,0,0)).2.1 (r.getD (0,0,0)).2.2,.bool r.isSome,af d])/\Q r d u/\w'=u.drew.setRow (w.heap.size+1+1) #[af (r.getD (0,0,0)).1,af (r.getD (0,0,0)).2.1,ay (r.getD (0,0,0)).2.2]:=by
 have j:=ag x;have k:Hid (((((w.alloc (.cells #[af x1] 2)).alloc (.cells #[af x2] 2)).alloc (.cells #[af 0,af 0,ay 0] 29)).alloc (.cells #[af 0,af 0,ay 0] 29)).alloc (.cells #[.bool false] 4)=y7 w x1 x2):=rfl;go_enter func20,ntmps20
 go_upto_region 3 with fail
 rw[k.o]
 go_wp2_with fail
 refine j.o.mono ?_;rintro e a ⟨r,d,rfl,y,hp,z,t⟩;have f:=ag y;have g:=ag hp;have HO:=ag z;have n:=ag t
 go_upto_region 4 with fail
 generalize F:w.heap.size+1+1+1+1=fb at*;generalize G:w.heap.size+1+1+1=b at*;generalize A:w.heap.size+1+1=c at*;have q:=ag (show c<b/\b<fb from aa);have m:=ag A;have C:∀p:jS (fun W:World=>W.heap[fb]? =some (Fy r)/\W.heap[b]? =some (yH (r.getD (0,0,0)))),p.W.cell? (ae b 0)=some (af (r.getD (0,0,0)).1):=fun p=>(gD p.h.2).1;have D:∀p:jS (fun W:World=>W.heap[fb]? =some (Fy r)/\W.heap[b]? =some (yH (r.getD (0,0,0)))),p.W.cell? (ae b 1)=some (af (r.getD (0,0,0)).2.1):=fun p=>(gD p.h.2).2.1;have E:∀p:jS (fun W:World=>W.heap[fb]? =some (Fy r)/\W.heap[b]? =some (yH (r.getD (0,0,0)))),p.W.cell? (ae b 2)=some (ay (r.getD (0,0,0)).2.2):=fun p=>(gD p.h.2).2.2;have B:∀p:jS (fun W:World=>W.heap[fb]? =some (Fy r)/\W.heap[b]? =some (yH (r.getD (0,0,0)))),p.W.cell? (ae fb 0)=some (.bool r.isSome):=fun p=>by simp[World.cell?,p.h.1,Fy]
 refine ak (fun W=>∃p:jS (fun W:World=>W.heap[fb]? =some (Fy r)/\W.heap[b]? =some (yH (r.getD (0,0,0)))),W=p.W) [4,5] [(0,true),(1,true),(2,false)] ⟨⟨a.drew,⟨f.o,g.o⟩⟩,rfl⟩ 3 ?_;have i:a.drew.heap[c]? =some (yH (0,0,0)):=HO.o;refine aF 3 rfl fun K s=>?_;rw[aN (by simp[Region.wanted])];refine wp_store_row 29 (.tmp 6) (.tmp 15) rfl c #[af (r.getD (0,0,0)).1,af (r.getD (0,0,0)).2.1,ay (r.getD (0,0,0)).2.2] rfl rfl _ _ i aO rfl (by simp[Value.oneCell']) ?_;have H:=q.o;refine s _ _ (fun _ _=>⟨⟨a.drew.setRow c #[af (r.getD (0,0,0)).1,af (r.getD (0,0,0)).2.1,ay (r.getD (0,0,0)).2.2],(setRow_other a.drew c fb _ aa).trans f.o,(setRow_other a.drew c b _ aa).trans g.o⟩,rfl⟩) ?_;have l:=ag (vw a.drew c _ #[af (r.getD (0,0,0)).1,af (r.getD (0,0,0)).2.1,ay (r.getD (0,0,0)).2.2] _ _ i);refine aH [4,5] ?_
 go_wp2_with fail
 refine kY (om rfl _ _ c _ _ _ _ (.bool r.isSome) (.int .i64 (d:Nat)) rfl rfl rfl l.o underlying29 rfl aO) rfl ?_;exact⟨r,d,a,rfl,n.o,by rw[m.o]⟩
theorem Hw (h:ed w Pb G m now N wk gP) (x1 x2:Int):aK 20 #[aj Pb,af x1,af x2] w (U4 w Pb G m now N wk gP (mo now x1 x2)):=by
 have⟨y,sz,H,I,ap,J,K⟩:=J5 w x1 x2;obtain⟨Hb,Ab,base,av,GH,SD,A,D,ALL,j,rfl,Y⟩:=h;have l:=j.kept (S:=fun _=>False) ((ax.refl _ _).below y) fun _ _ h=>h;have E:=l.half.facts;have aq:Pb<w.heap.size:=(aZ.1 j.blk).1;have L:=(K5 (fn:=70) (Sx:=fun k=>k=w.heap.size+1+1+1+1\/k=w.heap.size+1+1+1) (cs:=#[aj w.heap.size,aj (w.heap.size+1),aj (w.heap.size+1+1+1+1),aj (w.heap.size+1+1+1)]) (Q:=fun B c u=>u.heap[w.heap.size+1+1+1+1]? =some (Fy (mo (A.map (·.1)) x1 x2))/\u.heap[w.heap.size+1+1+1]? =some (yH ((mo (A.map (·.1)) x1 x2).getD (0,0,0)))/\DT N 0 c) PY l.blk l.half (fun k hk=>aa) (fun w1 B F o C v al am X=>by
  have T:Fq (y7 w x1 x2) w1 GH A N B F:=⟨o,C,v,al,am,X⟩;have U:=(aS o K).trans K;have R:=(aS o J).trans J;have P:=(aS o I).trans I;have O:=(aS o H).trans H;have ah:∀i t,(t<=uC (jH B i)/\jH B i<=20000)->t<=1000000:=fun i t ht=>by
   have z:Lib.bitLen (jH B i)<=15:=bitLen_le (ry ht.2 ai) ht.2;have ab:=ht.1;unfold uC at ab;omega
  refine⟨fun i n u=>SumB (fun i t=>t<=uC (jH B i)/\jH B i<=20000) i n/\u.heap[w.heap.size+1+1+1+1]? =some (Fy (Ng B x1 x2 i))/\u.heap[w.heap.size+1+1+1]? =some (yH ((Ng B x1 x2 i).getD (0,0,0)))/\ax (fun k=>k=w.heap.size+1+1+1+1\/k=w.heap.size+1+1+1) w1 u,⟨rfl,U,R,ax.refl _ _⟩,fun i n u f=>f.2.2.2,fun i n u f=>f.1.le ah,fun i n hi u f=>?_,fun n u f=>?_⟩
  .obtain⟨ao,q,s,d⟩:=f;have V:=bz d O aa;have W:=bz d P aa;refine(TP ((C.kept d fun k hk e=>by have:=(j.q8.1 k hk).2.2.2;omega).at hi) x1 x2 (Ng B x1 x2 i) (fC V) (fC W) q s aa).mono ?_;rintro e ar ⟨t,rfl,ht,ak,an,ac⟩;refine⟨t,rfl,⟨n,t,ao,⟨ht,?_⟩,rfl⟩,ak,an,d.trans ac⟩;unfold jH;rw[cz hi];exact(T.built _ (bB hi)).2
  .refine⟨by rw[<-Hu v E.2.2.2.1];exact f.2.1,by rw[<-Hu v E.2.2.2.1];exact f.2.2.1,?_⟩;have Z:=T.cost (r:=fun _=>0) (fun i t ht=>⟨aX _,by have:=ht.1;unfold uC at this;omega⟩) f.1;have z:((List.range B.length).map fun _=>0).sum=0:=by have:=K6 (r:=fun _=>0) (b:=0) (fun _=>aB _) B.length;omega
   rwa [z]at Z))
 have x:∀k,GH k\/SD k\/k=Pb\/av.ownBlock=some k->k<w.heap.size:=fun k hk=>by
  rcases hk with hk|hk|hk|hk
  .exact(j.q8.1 k hk).2.2.2
  .exact(j.q8.2.1 k hk).2.2
  .omega
  .exact(j.row.lt k hk).2
 have M:ax (fun k=>k=Pb) w (y7 w x1 x2):=(ax.refl _ _).below y;refine(PZ x1 x2 (fun r c u=>r=mo (A.map (·.1)) x1 x2/\DT N 0 c/\ax (fun k=>k=Pb) w u/\Ho u Pb Hb Ab base av GH SD m A D ALL N wk (wrap64 (gP+(c:Int)))) (L.mono ?_)).mono ?_
 .rintro e au ⟨B,c,u,rfl,⟨q,s,p⟩,d,rfl⟩;have ag:=bz d l.blk aa;have ad:(u.setCell (ae Pb 3) (.int .i64 (wrap64 (gP+(c:Int))))).heap[Pb]? =some (Obj.cells #[aj Hb,aj Ab,av,af (wrap64 (gP+(c:Int)))] Co (0,0)):=by
   rw[dC u Pb 3 _ _ _ ag];rfl
  exact⟨_,c,rfl,(aC (a:=(ae Pb 3)) (fun e:Pb=w.heap.size+1+1+1+1=>aa)).trans q,(aC (a:=(ae Pb 3)) (fun e:Pb=w.heap.size+1+1+1=>aa)).trans s,(aC (a:=(ae Pb 3)) (fun e:Pb=w.heap.size+1+1=>aa)).trans (bz d ap aa),rfl,p,
   ax.strip (((M.mono fun k h=>.inl h).trans (d.mono fun k h=>.inr aa)).set (a:=(ae Pb 3)) (.int .i64 (wrap64 (gP+(c:Int)))) (.inl (.inl rfl))),
   (l.kept d fun k hk=>by have j:=x k hk;omega).Sa ((ax.refl (fun k=>k=Pb) u).set (a:=(ae Pb 3)) (.int .i64 (wrap64 (gP+(c:Int)))) (.inl rfl)) ad⟩
 .rintro e w' ⟨r,c,u,rfl,⟨rfl,p,d,hP⟩,rfl⟩;exact⟨c,rfl,p,ax.strip (((d.drew).mono fun k h=>.inl h).Fx (g:=w.heap.size+1+1) (.inr aa) _),Hb,Ab,base,av,GH,SD,A,D,ALL,hP.kept (((ax.refl (fun k=>k=w.heap.size+1+1) u).drew).Fx (g:=w.heap.size+1+1) rfl _) (fun k hk=>by have:=x k hk;omega),rfl,Y⟩
end
section
variable {w:World} {Pb m:Nat} {G:Nat->Prop} {now:List Pt} {N wk gP:Int}
theorem P5 (h:ed w Pb G m now N wk gP):aK 33 #[aj Pb] w (fV w (af N)):=by
 obtain⟨Hb,Ab,base,av,GH,SD,A,D,ALL,b,rfl,i⟩:=h;have d:=ag (mi b.blk);have c:=ag (PM b.half);have g:w.cell? (ae Pb 0)=some (aj Hb):=aG b.blk;go_enter func33,ntmps33
 go_wp2_with (first|(go_at_call 55;refine d.o.mono ?_;rintro e w1 ⟨rfl,a⟩;have f:=a.symm;clear a;subst f)|(refine c.o.mono ?_;rintro e w1 ⟨rfl,a⟩))
 go_ret;exact⟨rfl,a⟩
end
end
section
open Go.RowKit Go.Lib
theorem vU {L:List Pt} {k:Nat} (h:L.length<=k) (f:Pt->Bool):(dE (ids (L.filter f))).length<=k:=by
 rw[iP];unfold ids;rw[bT];exact bD (gT _ _) h
end
section
open Go.RowKit Go.Sort Go.Shelf Go.Lib Go.Maps
attribute [local irreducible] wpQuiet
attribute [local go_sem] Oper.eF
theorem DU:gF 55:=di func55 aO rfl
theorem Hy:gF 56:=di func56 aO rfl
theorem P6:gF 57:=di func57 aO rfl
theorem Nh:gF 59:=di func59 aO rfl
section
variable {w w':World} {Pb Hb Ab base m:Nat} {av:Value} {G GH SD S:Nat->Prop} {A:List eO} {D:List (Int×Int)} {ALL now:List Pt} {N wk gP RB:Int}
theorem zB (h:ed w Pb G m now N wk gP) (x y d:Int) (C:d∈ids now):
  aK 12 #[aj Pb,iT x y d] w (fV w (.tuple #[af 0,.bool false])):=by
 obtain⟨Hb,Ab,base,av,GH,SD,A,D,ALL,f,rfl,L⟩:=h;have r:Hid (∃q,(d,q)∈D):=by
  have⟨p,hp,e⟩:=dh.1 C;obtain⟨c,B,rfl⟩:=dh.1 hp;rw[<-e];exact f.bwd c B
 have s:=ag (cB w (.cells #[af x,af y,ay d] 29));have g:Below w.heap.size w (w.alloc (.cells #[af x,af y,ay d] 29)):=(aJ _ _).alloc (aB _) _;have b:=ag (f.kept (S:=fun _=>False) ((ax.refl _ _).below g) fun _ _ h=>h);have j:=ag g;obtain⟨t,ac,rfl,-,-,-⟩:=bQ.aI bg ai f.row;go_enter func12,ntmps12
 go_wp2_with fail
 generalize w.alloc (.cells #[af x,af y,ay d] 29)=w1 at*;have u:w1.cell? (ae w.heap.size 2)=some (ay d):=fC s.o;have d1:w1.cell? (ae Pb 1)=some (aj Ab):=aG b.o.blk;have d2:w1.cell? (ae Pb 2)=some (.slice t ALL.length ac):=aG b.o.blk;have H:=ah u;have I:=ah d1;have J:=ah d2;have i:=ag (b.o.kept (w':=w1.drew) (S:=fun _=>False) ((ax.refl _ _).drew) fun _ _ h=>h);have k:=ag (mi i.o.blk);refine lN (fun W=>∃p:aQ w1,W=p.W) [14,15,16] [(0,false)] ⟨⟨_,(aJ _ _).drew⟩,rfl⟩ 16 ?_;simp only[jQ,uH,uJ,uD,fw,fP]
 repeat(refine iY (fun K a=>?_);go_simp;first|(refine a _ ?_;clear a K)|(apply Exists.intro;refine⟨fun _=>?_,a _ ?_⟩;rfl;clear a K))
 refine oL ?_;refine aF 1 rfl fun K a=>?_;refine bf DU rfl _ _ rfl (vals:=#[aj Pb]) rfl k.o ?_;rintro e w2 ⟨rfl,v⟩;subst v;refine⟨_,rfl,?_⟩;refine a _ _ (fun h _=>h) ?_;refine bu [(2,false),(3,false),(4,false),(5,false),(6,true),(7,false),(8,true),(9,false),(10,false),(11,false),(12,true),(13,false)] ⟨⟨_,(aJ _ _).drew⟩,rfl⟩ rfl ?_;have⟨q,E⟩:=r.o;have l:=ag (JZ i.o.dir d (ALL.length:Int) q E);refine aF 14 rfl fun K a=>?_;refine Bb Hy rfl _ _ rfl (vals:=#[aj Ab,ay d,af ALL.length]) rfl l.o ?_;rintro e w3 ⟨rfl,z⟩;refine⟨_,rfl,?_⟩;refine a _ _ (fun _ h=>absurd ai h) ?_;have n:=ag z;have F:=j.o.size;refine aH [15,16] ?_;go_wp2;go_ret2;exact⟨rfl,j.o.trans (((aJ _ _).drew.trans n.o).mono F)⟩
def U5 (w:World) (Pb:Nat) (G:Nat->Prop) (m:Nat) (now:List Pt) (N wk gP:Int) (p:Pt) (e:Ending) (w':World):Prop:=
 ∃n:Nat,K3 N n/\e=.returned (.tuple #[af n,.bool true])/\ed w' Pb (fun k=>G k\/w.heap.size<=k/\k<w'.heap.size) (m+1) (now++[p]) (N+1) (wk+n) gP/\ax G w w'
theorem tY (h:ed w Pb G m now N wk gP) (ap:m<5000) (x y d:Int) (bs:zi (x,y,d)) (aq:d∉ids now):
  aK 12 #[aj Pb,iT x y d] w (U5 w Pb G m now N wk gP (x,y,d)):=by
 obtain⟨Hb,Ab,base,av,GH,SD,A,D,ALL,H,rfl,bd⟩:=h;have bp:∀q,(d,q)∉D:=fun q hq=>by
  obtain⟨k,c,-,hc,-,e⟩:=H.fwd d q hq;exact aq (dh.2 ⟨c.1,dh.2 ⟨c,hc,rfl⟩,e⟩)
 have aW:=ag aq;have s:=ag bd;have bE:=H.few;have z:=ag (cB w (.cells #[af x,af y,ay d] 29));have Y:Below w.heap.size w (w.alloc (.cells #[af x,af y,ay d] 29)):=(aJ _ _).alloc (aB _) _;have b:=ag (H.kept (S:=fun _=>False) ((ax.refl _ _).below Y) fun _ _ h=>h);have aE:=ag Y;have bv:=ag (mi b.o.blk);obtain⟨l,ac,rfl,-,-,-⟩:=bQ.aI bg ai H.row;have t:=ag H;go_enter func12,ntmps12
 go_wp2_with fail
 generalize w.alloc (.cells #[af x,af y,ay d] 29)=w1 at*;have M:w1.cell? (ae w.heap.size 0)=some (af x):=fC z.o;have O:w1.cell? (ae w.heap.size 1)=some (af y):=fC z.o;have B:w1.cell? (ae w.heap.size 2)=some (ay d):=fC z.o;have d1:w1.cell? (ae Pb 1)=some (aj Ab):=aG b.o.blk;have d2:w1.cell? (ae Pb 2)=some (.slice l ALL.length ac):=aG b.o.blk;have ad:=ah B;have bw:=ah d1;have al:=ah d2;have R:=ag (b.o.kept (w':=w1.drew) (S:=fun _=>False) ((ax.refl _ _).drew) fun _ _ h=>h);have aw:=ag (mi R.o.blk);refine lN (fun W=>∃p:aQ w1,W=p.W) [14,15,16] [(0,false)] ⟨⟨_,(aJ _ _).drew⟩,rfl⟩ 16 ?_;simp only[jQ,uH,uJ,uD,fw,fP]
 repeat(refine iY (fun K g=>?_);go_simp;first|(refine g _ ?_;clear g K)|(apply Exists.intro;refine⟨fun _=>?_,g _ ?_⟩;rfl;clear g K))
 refine oL ?_;refine aF 1 rfl fun K g=>?_;refine bf DU rfl _ _ rfl (vals:=#[aj Pb]) rfl aw.o ?_;rintro e w2 ⟨rfl,a8⟩;subst a8;refine⟨_,rfl,?_⟩;refine g _ _ (fun h _=>h) ?_;refine bu [(2,false),(3,false),(4,false),(5,false),(6,true),(7,false),(8,true),(9,false),(10,false),(11,false),(12,true),(13,false)] ⟨⟨_,(aJ _ _).drew⟩,rfl⟩ rfl ?_;have az:=ag (PV R.o.dir R.o.hb ap d (ALL.length:Int) bp);refine aF 14 rfl fun K g=>?_;refine Bb Hy rfl _ _ rfl (vals:=#[aj Ab,ay d,af ALL.length]) rfl az.o ?_;rintro e w3 ⟨rfl,bc,br⟩;refine⟨_,rfl,?_⟩;refine g _ _ (fun _ h=>absurd ai h) ?_;have u:ax SD w1 w3:=((ax.refl _ w1).drew).trans br.R9;have bK:=u.size;have aL:=ag bc.clip;have aN:=ag (b.o.half.kept u fun k hk=>(b.o.q8.1 k hk).1);have bj:=bz u b.o.blk (fun h9=>(b.o.q8.2.1 Pb h9).1 rfl);have bq:=aT b.o.row u (fun E e h9=>(b.o.q8.2.1 E h9).2.1 e);have bJ:=(aZ.1 z.o).1;have L:=ag (bz u z.o (fun h9=>by have:=(t.o.q8.2.1 _ h9).2.2;omega));have T:=ag bj;have aY:=ag bq;have aU:=ag u;refine aH [15,16] ?_
 go_wp2_with fail
 have M:w3.cell? (ae w.heap.size 0)=some (af x):=fC L.o;have O:w3.cell? (ae w.heap.size 1)=some (af y):=fC L.o;have B:w3.cell? (ae w.heap.size 2)=some (ay d):=fC L.o;have d2:w3.cell? (ae Pb 2)=some (.slice l ALL.length ac):=aG T.o;have a9:=ah M;have ba:=ah O;have ad:=ah B;have al:=ah d2;refine ak (fun W=>∃p:aQ w3,W=p.W) [7,8,9,10] [(0,false),(1,false),(2,false),(3,false),(4,true),(5,true)] ⟨⟨_,(aJ _ _).drew⟩,rfl⟩ 5 ?_;refine aF 6 rfl fun K g=>?_;go_simp;refine g _ _ (fun _ _=>⟨⟨_,((aJ _ w3).alloc (aB _) _).drew⟩,rfl⟩) ?_;refine aF 7 rfl fun K g=>?_;refine bC OL 0 (aT (S:=fun _=>False) aY.o (((ax.refl _ _).alloc _).drew) (fun _ _ h=>h)) [.int .i64 x,.int .i64 y,.int .u32 d] rfl (by simp[Value.oneCell']) rfl (.tmp 27) (.tmp 29) rfl rfl _ rfl (lg _ _) dD aa (aX _) ?_;intro f r w4 bb bl bk bm;refine g _ _ (fun _ h=>absurd ai h) ?_;have an:Value.ownBlock (.slice l ALL.length ac)=some f\/w3.heap.size<=f:=bk.imp id fun e=>by rw[e];simp
 have J:ax (fun k=>Value.ownBlock (.slice l ALL.length ac)=some k) w3 w4:=((((ax.refl _ w3).alloc _).drew)).grown bl fun k e=>.inl e;have bL:=J.size;have bB:=(aZ.1 T.o).1;have X:=bz J T.o b.o.q8.2.2;have a4:=ag (bz J L.o (fun e=>by have:=(t.o.row.lt _ e).2;omega));have bN:w4.cell? (ae Pb 2)=some (.slice l ALL.length ac):=aG X;have f4:w4.frozen? (ae Pb 2)=false:=aG X;have bo:f≠Pb:=fun e=>an.elim (fun h=>b.o.q8.2.2 (by rw[h,e])) fun h=>aa;have bi:(w4.setCell (ae Pb 2) (au f (ALL.length+1) r)).heap[Pb]? =some (Obj.cells #[aj Hb,aj Ab,au f (ALL.length+1) r,af gP] Co (0,0)):=by
  rw[dC w4 Pb 2 _ _ _ X];rfl
 have a3:ax (fun k=>Value.ownBlock (.slice l ALL.length ac)=some k\/k=Pb) w3 (w4.setCell (ae Pb 2) (au f (ALL.length+1) r)):=(J.mono fun k h=>.inl h).set _ (.inl (.inr rfl));have a6:=aT bb ((ax.refl (fun k=>k=Pb) w4).set (a:=(ae Pb 2)) (au f (ALL.length+1) r) (.inl rfl)) (fun E e h=>bo (by have C:f=E:=(by injection e);rw[C];exact h));have a5:(w4.setCell (ae Pb 2) (au f (ALL.length+1) r)).heap[w.heap.size]? =_:=(aC (a:=(ae Pb 2)) (fun e:Pb=w.heap.size=>by have:=(aZ.1 t.o.blk).1;omega)).trans a4.o;have bt:(w4.setCell (ae Pb 2) (au f (ALL.length+1) r)).heap.size=w4.heap.size:=aA;have Z:=ag bi;have U:=ag a3;have a0:=ag a6;have V:=ag a5;have a1:=ag bt;have aM:=ag an;have aV:=ag bm;refine aH [8,9,10] ?_
 go_wp2_with fail
 generalize w4.setCell (ae Pb 2) (au f (ALL.length+1) r)=j at*;have aR:=ag (aN.o.kept U.o fun k hk h9=>by
  have P:=b.o.q8.1 k hk;rcases h9 with h9|h9
  .exact P.2.2.1 h9
  .exact P.2.1 h9)
 have M:j.cell? (ae w.heap.size 0)=some (af x):=fC V.o;have O:j.cell? (ae w.heap.size 1)=some (af y):=fC V.o;have B:j.cell? (ae w.heap.size 2)=some (ay d):=fC V.o;have d0:j.cell? (ae Pb 0)=some (aj Hb):=aG Z.o;have a9:=ah M;have ba:=ah O;have ad:=ah B;have al:=ah d0;have ar:=ag (TJ (w:=j.drew) (aR.o.kept (S:=fun _=>False) ((ax.refl _ j).drew) fun _ _ h=>h) ap x y d bs aW.o);refine ak (fun W=>∃p:aQ j,W=p.W) [5,6,7,8,9] [(0,false),(1,false),(2,false),(3,true),(4,true)] ⟨⟨_,(aJ _ _).drew⟩,rfl⟩ 5 ?_;refine aF 5 rfl fun K g=>?_;refine bf P6 rfl _ _ rfl (vals:=#[aj Hb,iT x y d]) rfl ar.o ?_;rintro e w6 ⟨n,q,bn,rfl,be,bh⟩;refine⟨_,rfl,?_⟩;refine g _ _ (fun _ h=>absurd ai h) ?_;have aS:=ag be.clip;have v:Hid (ax GH j w6):=((ax.refl _ j).drew).trans bh;refine iR (fun _=>True) [8,9] aO ?_;refine bu [(6,false),(7,false)] trivial rfl ?_;refine aH [8,9] ?_;go_wp2;go_ret2;have bM:=v.o.size;have bI:=a1.o;have i:=b.o.q8;have bA:=(aZ.1 b.o.blk).1;have am:∀k,Value.ownBlock (.slice l ALL.length ac)=some k->k<w1.heap.size:=fun k e=>(b.o.row.lt k e).2;have I:∀k,Value.ownBlock (au f (ALL.length+1) r)=some k->(Value.ownBlock (.slice l ALL.length ac)=some k\/w3.heap.size<=k)/\k<w4.heap.size:=fun k e=>by
  have C:f=k:=by injection e
  subst C;exact⟨aM.o,aV.o⟩
 have bF:w1.drew.heap.size=w1.heap.size:=rfl;have bG:j.drew.heap.size=j.heap.size:=rfl;have a2:ax (fun k=>(Value.ownBlock (.slice l ALL.length ac)=some k\/k=Pb)\/GH k) w3 w6:=(U.o.mono fun k h=>.inl h).trans (v.o.mono fun k h=>.inr h);have ao:∀k,Value.ownBlock (au f (ALL.length+1) r)=some k->¬GH k:=fun k e h=>by
  rcases(I k e).1 with h9|h9
  .exact(i.1 k h).2.2.1 h9
  .have:=(i.1 k h).2.2.2;omega
 refine⟨n,bn,rfl,⟨Hb,Ab,base,_,_,_,_,D++[(d,(ALL.length:Int))],ALL++[(x,y,d)],⟨bz v.o Z.o (fun h=>(i.1 Pb h).2.1 rfl),?_,aS.o,aL.o.kept a2 ?_,bD t.o.hb aa,aD,?_,?_,⟨fun k hk=>?_,fun k hk=>?_,?_⟩⟩,aA,fun k hk=>?_⟩,?_⟩
 .have P:=aT a0.o v.o (fun E e=>ao E e);rw[bS,gZ];exact P
 .rintro k ⟨hk,bH⟩ h9;rcases hk with hk|hk
  .rcases h9 with(h9|h9)|h9
   .exact(i.2.1 k hk).2.1 h9
   .exact(i.2.1 k hk).1 h9
   .exact(i.1 k h9).1 hk
  .rcases h9 with(h9|h9)|h9
   .have:=am k h9;omega
   .omega
   .have:=(i.1 k h9).2.2.2;omega
 .intro id Q hq;rcases bP.1 hq with hq|hq
  .obtain⟨k,c,a7,hc,ab,C⟩:=t.o.fwd id Q hq;exact⟨k,c,a7,Ir _ hc,by rw[lS (fE.1 ab).1];exact ab,C⟩
  .obtain⟨rfl,rfl⟩:id=d/\Q=(ALL.length:Int):=aP hq;exact⟨ALL.length,((x,y,id),q),rfl,aA,aA,rfl⟩
 .intro c hc;rcases bP.1 hc with hc|hc
  .obtain⟨Q,hq⟩:=t.o.bwd c hc;exact⟨Q,Ir _ hq⟩
  .obtain rfl:c=((x,y,d),q):=aP hc;exact⟨_,List.mem_append_right _ nP⟩
 .refine⟨?_,?_,fun e=>?_,hk.2⟩
  .rintro⟨h9,bx⟩;rcases hk.1 with vD|vD
   .rcases h9 with h9|h9
    .exact(i.1 k vD).1 h9
    .have:=(i.1 k vD).2.2.2;omega
   .omega
  .rintro rfl;rcases hk.1 with vD|vD
   .exact(i.1 k vD).2.1 rfl
   .omega
  .rcases hk.1 with vD|vD
   .exact ao k e vD
   .have:=(I k e).2;omega
 .refine⟨?_,fun e=>?_,by have:=hk.2;omega⟩
  .rintro rfl;rcases hk.1 with vD|vD
   .exact(i.2.1 k vD).1 rfl
   .omega
  .have F:=hk.2;rcases(I k e).1 with h9|h9
   .rcases hk.1 with vD|vD
    .exact(i.2.1 k vD).2.1 h9
    .have:=am k h9;omega
   .omega
 .intro e;rcases(I Pb e).1 with h9|h9
  .exact i.2.2 h9
  .omega
 .rcases hk with⟨hk,F⟩|⟨hk,F⟩|rfl|hk
  .rcases hk with hk|hk
   .exact .inl (s.o k (.inl hk))
   .exact .inr ⟨aa,F⟩
  .rcases hk with hk|hk
   .exact .inl (s.o k (.inr (.inl hk)))
   .exact .inr ⟨aa,aa⟩
  .exact .inl (s.o k (.inr (.inr (.inl rfl))))
  .have F:=I k hk;rcases F.1 with h9|h9
   .exact .inl (s.o k (.inr (.inr (.inr h9))))
   .exact .inr ⟨aa,aa⟩
 .refine((((ax.refl G w).below aE.o).trans (aU.o.mono fun k h=>s.o k (.inr (.inl h)))).trans (U.o.mono fun k h=>?_)).trans (v.o.mono fun k h=>s.o k (.inl h));rcases h with h|h
  .exact s.o k (.inr (.inr (.inr h)))
  .exact s.o k (.inr (.inr (.inl h)))
end
section
variable {w w':World} {Pb Hb Ab base m:Nat} {av:Value} {G GH SD S:Nat->Prop} {A:List eO} {D:List (Int×Int)} {ALL now:List Pt} {N wk gP RB:Int}
theorem Ni (h:ed w Pb G m now N wk gP) (d:Int) (p:d∉ids now):
  aK 13 #[aj Pb,ay d] w (fV w (.tuple #[af 0,.bool false])):=by
 obtain⟨Hb,Ab,base,av,GH,SD,A,D,ALL,a,rfl,t⟩:=h;have r:∀q,(d,q)∉D:=fun q s=>by
  obtain⟨k,c,-,n,-,e⟩:=a.fwd d q s;exact p (dh.2 ⟨c.1,dh.2 ⟨c,n,rfl⟩,e⟩)
 have i:=ag (mi a.blk);have g:=ag (PW a.dir d r);have d1:w.cell? (ae Pb 1)=some (aj Ab):=aG a.blk;go_enter func13,ntmps13
 go_wp2_with (first|(go_at_call 55;refine i.o.mono ?_;rintro e w1 ⟨rfl,b⟩;have l:=b.symm;clear b;subst l)|(go_at_call 58;refine g.o.mono ?_;rintro e w1 ⟨rfl,f⟩;have j:=ag f;clear f))
 go_ret2;exact⟨rfl,j.o⟩
def U6 (w:World) (Pb:Nat) (G:Nat->Prop) (m:Nat) (now:List Pt) (N wk gP:Int) (p:Pt) (e:Ending) (w':World):Prop:=
 ∃(n:Nat) (N':Int),e=.returned (.tuple #[af n,.bool true])/\ed w' Pb (fun k=>G k\/w.heap.size<=k/\k<w'.heap.size) (m+1) (now.filter fun q=>decide (q≠p)) N' (wk+n) gP/\ax G w w'/\VV (now.filter fun q=>decide (q≠p)).length N N' n
theorem vV (h:ed w Pb G m now N wk gP) (aS:m<5000) (x y d:Int) (P:(x,y,d)∈now):
  aK 13 #[aj Pb,ay d] w (U6 w Pb G m now N wk gP (x,y,d)):=by
 obtain⟨Hb,Ab,base,av,GH,SD,A,D,ALL,g,rfl,aD⟩:=h;have⟨c,u,O⟩:=dh.1 P;have aP:=g.half.facts.2.2.2.1;have Q:∀f∈A,f.1.2.2=d->f.1=(x,y,d):=fun f j e=>by
  have aB:(A.map (·.1)).Pairwise fun p q=>p.2.2≠q.2.2:=dA.1 aP;rcases eU aB (nO j) P with h1|h1|h1
  .exact h1
  .exact absurd e h1
  .exact absurd e.symm h1
 have⟨q,i⟩:=g.bwd c u;rw[O]at i;obtain⟨k,f,rfl,j,hk,hid⟩:=g.fwd d q i;rw[Q f j hid]at hk;have F:=(fE.1 hk).1;have ao:=ag Q;have Y:=ag u;have Z:=ag O;have am:=ag hk;have l:=ag aD;have V:=ag (mi g.blk);have U:=ag (Nc g.dir g.hb d (k:Int) i);have d1:w.cell? (ae Pb 1)=some (aj Ab):=aG g.blk;have a:=ag g;have a7:=g.few;go_enter func13,ntmps13
 go_wp2_with (go_at_call 55;refine V.o.mono ?_;rintro e w1 ⟨rfl,J⟩;have aA:=J.symm;clear J;subst aA)
 refine U.o.mono ?_;rintro e w3 ⟨rfl,aC,aV⟩;have s:=aV.R9;have ab:=ag aC.clip;have af:=ag (a.o.half.kept s fun k hk=>(a.o.q8.1 k hk).1);have C:=bz s a.o.blk (fun h9=>(a.o.q8.2.1 Pb h9).1 rfl);have R:=aT a.o.row s (fun B e h9=>(a.o.q8.2.1 B h9).2.1 e);have bd:=s.size;have X:=ag C;have ap:=ag R;have an:=ag s
 go_wp2_with fail
 obtain⟨aW,ac,az,-,-,aU⟩:=bQ.aI bg ai R;have⟨aX,aY,aw,a8,E⟩:=aU.get aa;have I:=E k F 0 aa;have x1:=E k F 1 aa;have x2:=E k F 2 aa;have⟨bc,aR⟩:=fE.1 am.o;rw[aR]at I x1 x2;simp only[bX,fw,fD,dx]at I x1 x2;have d0:w3.cell? (ae Pb 0)=some (aj Hb):=aG C;have d2:w3.cell? (ae Pb 2)=some av:=aG C;rw[az,aw]at d2;have bb:(k:Int)<(ALL.length:Int):=aa;have a0:=ah d0;have a1:=ah d2;have a2:=ah I;have a3:=ah x1;have a4:=ah x2;have T:=ag (Rv (w:=w3.drew) (af.o.kept (S:=fun _=>False) ((ax.refl _ w3).drew) fun _ _ h=>h) aS c Y.o x y d Z.o);refine ak (fun W=>∃p:aQ w3,W=p.W) [11,12,13,14,15] [(0,false),(1,false),(2,false),(3,true),(4,false),(5,false),(6,false),(7,true),(8,false),(9,false),(10,true)] ⟨⟨_,(aJ _ _).drew⟩,rfl⟩ 5 ?_;refine aF 11 rfl fun K aL=>?_;refine bf Nh rfl _ _ rfl (vals:=#[aj Hb,iT x y d]) rfl T.o ?_;rintro e w6 ⟨n,aq,rfl,aE,aM,aN⟩;have ad:=ag aN;refine⟨_,rfl,?_⟩;refine aL _ _ (fun _ h=>absurd ai h) ?_;have al:=ag aE.clip;have r:Hid (ax GH w3 w6):=((ax.refl _ w3).drew).trans aM;refine iR (fun _=>True) [14,15] aO ?_;refine bu [(12,false),(13,false)] trivial rfl ?_;refine aH [14,15] ?_;go_wp2;go_ret2;have be:=r.o.size;have b:=a.o.q8;have a9:w3.drew.heap.size=w3.heap.size:=rfl;have a6:=(aZ.1 a.o.blk).1;have M:∀k,av.ownBlock=some k->k<w.heap.size:=fun k e=>(a.o.row.lt k e).2;refine⟨n,aq,rfl,⟨Hb,Ab,base,av,_,_,_,D.filter fun z=>decide (z.1≠d),ALL,⟨bz r.o X.o (fun h=>(b.1 Pb h).2.1 rfl),aT ap.o r.o (fun B e h=>(b.1 B h).2.2.1 e),al.o,(ab.o.mono (fun k h=>h) (Nat.le_succ _)).kept r.o ?_,bD a.o.hb aa,aa,?_,?_,⟨fun k hk=>?_,fun k hk=>?_,b.2.2⟩⟩,?_,fun k hk=>?_⟩,?_,?_⟩
 .rintro k ⟨hk,ba⟩ h9;rcases hk with hk|hk
  .exact(b.1 k h9).1 hk
  .have:=(b.1 k h9).2.2.2;omega
 .intro id H i;have⟨i,t⟩:=bF.1 i;have⟨k,f,ar,u,au,v⟩:=a.o.fwd id H i;refine⟨k,f,ar,bF.2 ⟨u,?_⟩,au,v⟩;simp only[bO]at t |-;intro e;rw[e]at v;exact t v.symm
 .intro f j;have⟨j,t⟩:=bF.1 j;have⟨H,i⟩:=a.o.bwd f j;refine⟨H,bF.2 ⟨i,?_⟩⟩;simp only[bO]at t |-;exact fun e=>t (ao.o f j e)
 .refine⟨?_,?_,fun e=>?_,hk.2⟩
  .rintro⟨h9,a5⟩;rcases hk.1 with vD|vD
   .rcases h9 with h9|h9
    .exact(b.1 k vD).1 h9
    .have:=(b.1 k vD).2.2.2;omega
   .omega
  .rintro rfl;rcases hk.1 with vD|vD
   .exact(b.1 k vD).2.1 rfl
   .omega
  .rcases hk.1 with vD|vD
   .exact(b.1 k vD).2.2.1 e
   .have:=M k e;omega
 .refine⟨?_,fun e=>?_,by have:=hk.2;omega⟩
  .rintro rfl;rcases hk.1 with vD|vD
   .exact(b.2.1 k vD).1 rfl
   .omega
  .rcases hk.1 with vD|vD
   .exact(b.2.1 k vD).2.1 e
   .have:=M k e;omega
 .rw[xR];rfl
 .rcases hk with⟨hk,L⟩|⟨hk,L⟩|rfl|hk
  .rcases hk with hk|hk
   .exact .inl (l.o k (.inl hk))
   .exact .inr ⟨aa,L⟩
  .rcases hk with hk|hk
   .exact .inl (l.o k (.inr (.inl hk)))
   .exact .inr ⟨aa,aa⟩
  .exact .inl (l.o k (.inr (.inr (.inl rfl))))
  .exact .inl (l.o k (.inr (.inr (.inr hk))))
 .exact(an.o.mono fun k h=>l.o k (.inr (.inl h))).trans (r.o.mono fun k h=>l.o k (.inl h))
 .rw[xR,bT];exact ad.o
end
def addN (now:List Pt) (p:Pt):List Pt:=if p.2.2∈ids now then now else now++[p]
def qX (now:List Pt) (d:Int):List Pt:=now.filter fun q=>decide (q.2.2≠d)
theorem Hz {now:List Pt} {d:Int} (h:d∉ids now):qX now d=now:=by
 unfold qX;rw[lU];intro q a;simp only[bO,ne_eq];rintro rfl;exact h (nO a)
theorem P7 {now:List Pt} (hu:(ids now).Nodup) {p:Pt} (hp:p∈now):(now.filter fun q=>decide (q≠p))=qX now p.2.2:=by
 unfold qX;refine oD fun q a=>?_;simp only[ne_eq,decide_not,Bool.not_inj_iff];rw[mO,bO,bO];refine⟨fun e=>by rw[e],fun e=>?_⟩;rcases eU (dA.1 hu) a hp with h|h|h
 .exact h
 .exact absurd e h
 .exact absurd e.symm h
section
variable {w:World} {Pb m:Nat} {G:Nat->Prop} {now:List Pt} {N wk gP:Int}
def Sb (w:World) (Pb:Nat) (G:Nat->Prop) (m:Nat) (VL:List Pt) (did:Bool) (wk gP:Int) (lo:Nat) (e:Ending) (w':World):Prop:=
 ∃(n:Nat) (N':Int),e=.returned (.tuple #[af n,.bool did])/\ed w' Pb (fun k=>G k\/w.heap.size<=k/\k<w'.heap.size) (m+did.toNat) VL N' (wk+n) gP/\ax G w w'/\(did=true->lo<=n)/\(did=false->n=0)
theorem TQ (h:ed w Pb G m now N wk gP) (f:m<5000) (p:Pt) (i:zi p):
  aK 12 #[aj Pb,iT p.1 p.2.1 p.2.2] w (Sb w Pb G m (addN now p) (decide (p.2.2∉ids now)) wk gP 1):=by
 by_cases a:p.2.2∈ids now
 .refine(zB h p.1 p.2.1 p.2.2 a).mono ?_;rintro e w' ⟨rfl,c⟩;have b:decide (p.2.2∉ids now)=false:=by simp[a]
  unfold addN;rw[aN a,b];exact⟨0,N,rfl,by rw[show wk+((0:Nat):Int)=wk by omega];exact(h.below c).more fun k h=>.inl h,(ax.refl _ _).below c,(fun h=>by cases h),fun _=>rfl⟩
 .refine(tY h f p.1 p.2.1 p.2.2 i a).mono ?_;rintro e w' ⟨n,g,rfl,hP,d⟩;have b:decide (p.2.2∉ids now)=true:=by simp[a]
  unfold addN;rw[aM a,b];exact⟨n,_,rfl,hP,d,fun _=>g.pos,fun h=>by cases h⟩
theorem RF (h:ed w Pb G m now N wk gP) (i:m<5000) (d:Int):
  aK 13 #[aj Pb,ay d] w (Sb w Pb G m (qX now d) (decide (d∈ids now)) wk gP 0):=by
 by_cases a:d∈ids now
 .obtain⟨p,hp,rfl⟩:=dh.1 a;refine(vV h i p.1 p.2.1 p.2.2 hp).mono ?_;rintro e w' ⟨n,f,rfl,hP,g,-⟩;have b:decide (p.2.2∈ids now)=true:=by simp[a]
  rw[b,<-P7 h.facts.2.2.2.1 hp];exact⟨n,f,rfl,hP,g,fun _=>aX _,fun h=>by cases h⟩
 .refine(Ni h d a).mono ?_;rintro e w' ⟨rfl,c⟩;have b:decide (d∈ids now)=false:=by simp[a]
  rw[Hz a,b];exact⟨0,N,rfl,by rw[show wk+((0:Nat):Int)=wk by omega];exact(h.below c).more fun k h=>.inl h,(ax.refl _ _).below c,(fun h=>by cases h),fun _=>rfl⟩
end
end
section
open Go.RowKit Go.Maps
theorem tZ {l:List Pt}:(bM l).length<=l.length:=by
 have a:(bM l).length<=(eP l).length:=by unfold bM Dm;exact gT _ _
 rw[(dN l).length_eq]at a;exact a
theorem Ct (A B:List Pt) (p:Pt):um (A++B) p=(um A p||um B p):=by unfold um;rw[List.any_append]
theorem nD.self {l T:List Pt} (h:nD l T):nD T T:=⟨h.1,fun p=>⟨fun hp=>⟨hp,by rw[wB h];exact((h.2 p).1 hp).2⟩,fun hp=>hp.1⟩⟩
theorem Fz {l:List Pt} (hu:lH l=true) {p:Pt} (h:p∈bM l):p∈l:=((lh ((gV l).1 hu)).2 p).1 h|>.1
theorem FB {l:List Pt} (hu:lH l=true):lH (bM l)=true:=by
 rw[gV]at*;have a:(ids (eP l)).Nodup:=((dN l).map _).nodup_iff.2 hu;unfold bM Dm;exact a.sublist (List.Sublist.map _ Ee)
theorem Cu {l:List Pt} (hu:lH l=true):jZ (bM l)=true:=by
 unfold jZ;rw[(FP _).2 (lh ((gV l).1 hu)).self,FB hu];rfl
theorem Lc {l:List Pt} (hu:lH l=true) (h:KT l):KT (bM l):=fun p hp=>h p (Fz hu hp)
theorem xy {A B:List Pt}:lH (A++B)=true↔lH A=true/\lH B=true/\∀p∈A,∀q∈B,p.2.2≠q.2.2:=by
 simp only[gV,ids,bL,mI,dh];refine and_congr Iff.rfl (and_congr Iff.rfl ⟨fun h p hp q a=>h _ ⟨p,hp,rfl⟩ _ ⟨q,a,rfl⟩,?_⟩);rintro h _ ⟨p,hp,rfl⟩ _ ⟨q,a,rfl⟩;exact h p hp q a
theorem DV {A B:List Pt} (h:lH (A++B)=true):lH (bM A++bM B)=true:=by
 rw[xy]at*;exact⟨FB h.1,FB h.2.1,fun p hp q a=>h.2.2 p (Fz h.1 hp) q (Fz h.2.1 a)⟩
theorem DW {l m:List Pt} (b:lH l=true) (c:lH m=true) (h:∀p,(p∈l/\um l p=false)↔(p∈m/\um m p=false)):bM l=bM m:=by
 have a:=lh ((gV _).1 b);exact nD.unique (l:=m) ⟨a.1,fun p=>(a.2 p).trans (h p)⟩ (lh ((gV _).1 c))
theorem P8 {A B:List Pt} (h:lH (A++B)=true):bM (bM A++bM B)=bM (A++B):=by
 have d:=(xy.1 h).1;have e:=(xy.1 h).2.1;have b:=lh ((gV _).1 d);have c:=lh ((gV _).1 e);refine DW (DV h) h fun p=>?_;rw[Ct,Ct,wB b,wB c,bP,bP,b.2 p,c.2 p,Bool.or_eq_false_iff];constructor
 .rintro⟨h1|h1,a⟩
  .exact⟨.inl h1.1,a⟩
  .exact⟨.inr h1.1,a⟩
 .rintro⟨h1|h1,a⟩
  .exact⟨.inl ⟨h1,a.1⟩,a⟩
  .exact⟨.inr ⟨h1,a.2⟩,a⟩
theorem RG:bM []=[]:=by simp[bM,Dm,eP]
end
section
open Go.RowKit Go.Sort Go.Shelf Go.Lib Go.Maps
attribute [local irreducible] wpQuiet
attribute [local go_sem] Oper.eF
theorem J6 (B:List (Nat×Nat×List Pt)) (i:Nat):jm B=jm (B.take i)++jm (B.drop i):=by
 unfold jm;rw[<-gZ,jB]
theorem DX {B:List (Nat×Nat×List Pt)} {i:Nat} (hi:i<B.length):jm (B.take (i+1))=jm (B.take i)++B[i].2.2:=by
 unfold jm;rw[gW hi,gZ];simp
theorem Cv (B:List (Nat×Nat×List Pt)) (i:Nat):(jm (B.take i)).Sublist (jm B):=by
 rw[J6 B i];exact List.sublist_append_left _ _
theorem RH {l m:List Pt} (h:l.Sublist m) (a:lH m=true):lH l=true:=(gV l).2 (((gV m).1 a).sublist (h.map _))
theorem HV {l m:List Pt} (h:l.Perm m) (a:lH m=true):lH l=true:=(gV l).2 ((show(ids l).Perm (ids m)from h.map _).nodup_iff.2 ((gV m).1 a))
theorem HY {l m:List Pt} (h:l.Perm m) (a:lH m=true):bM l=bM m:=
 DW (HV h a) a fun p=>by rw[h.mem_iff,Dn (fun q=>h.mem_iff) p]
theorem bQ.R9 {α:Type} {enc:α->List Value} {sz:Nat} {w w':World} {a:Option Addr} {l:List α} {S:Nat->Prop} (h:bQ enc sz w a l) (K:ax S w w') (hS:∀x,a=some x->¬S x.block):bQ enc sz w' a l:=by
 rcases h with h|⟨b,off,rfl,c,d⟩
 .exact .inl h
 .have e:=K.block b c (hS _ rfl);exact .inr ⟨b,off,rfl,bR c K.size,fun i hi j f=>(dz e).trans (d i hi j f)⟩
section
variable {w:World} {Pb m:Nat} {G:Nat->Prop} {now:List Pt} {N wk gP:Int}
theorem oo.clip {w1:World} {F:Nat->Nat->Prop} {B:List (Nat×Nat×List Pt)} (W:oo w1 G F B):oo w1 G (fun j k=>F j k/\j<B.length) B:=
 ⟨fun j a=>by
  have:(fun k=>F j k/\j<B.length)=F j:=by funext k;simp[a]
  rw[this];exact W.bk j a,fun j k h=>W.UT j k h.1,fun i j k b c=>W.ap i j k b.1 c.1⟩
theorem oo.asked {w1 w2 w3:World} {F:Nat->Nat->Prop} {B:List (Nat×Nat×List Pt)} (W:oo w1 (fun k=>∃j,F j k) F B) (hF:∀j k,F j k->j<B.length) {i:Nat} (hi:i<B.length) (l:Bk w2 (fun k=>F i k\/w1.heap.size<=k/\k<w2.heap.size) B[i].1 B[i].2.1 B[i].2.2) (K:ax (F i) w1 w2) (a:Below w2.heap.size w2 w3):
  oo w3 (fun k=>∃j,F j k\/j=i/\w1.heap.size<=k/\k<w2.heap.size) (fun j k=>F j k\/j=i/\w1.heap.size<=k/\k<w2.heap.size) B:=by
 have b:∀j k,F j k->k<w1.heap.size:=fun j k h=>(W.bk j (hF j k h)).lt k h;refine⟨fun j m=>?_,fun j k h=>⟨j,h⟩,?_⟩
 .by_cases e:j=i
  .subst e;have:(fun k=>F j k\/j=j/\w1.heap.size<=k/\k<w2.heap.size)=fun k=>F j k\/w1.heap.size<=k/\k<w2.heap.size:=by funext k;simp
   rw[this];exact l.below a
  .have:(fun k=>F j k\/j=i/\w1.heap.size<=k/\k<w2.heap.size)=F j:=by funext k;simp[e]
   rw[this];exact((W.bk j m).kept K fun k f g=>e (W.ap j i k f g)).below a
 .rintro j c k (h|⟨e,h,-⟩) (h'|⟨d,h',-⟩)
  .exact W.ap j c k h h'
  .have:=b j k h;omega
  .have:=b c k h';omega
  .rw[e,d]
def U7 (w:World) (Pb:Nat) (G:Nat->Prop) (m:Nat) (now:List Pt) (N wk gP:Int) (e:Ending) (w':World):Prop:=
 ∃(v:Value) (G':Nat->Prop),e=.returned v/\w'.ownsRow w.heap.size 27 1 v (dE (ids (bM now))).length ((dE (ids (bM now))).map (Value.int .u32))/\ed w' Pb G' m now N wk gP/\ax G w w'/\∀k,G' k->(G k\/w.heap.size<=k)/\k<w'.heap.size/\v.ownBlock≠some k
theorem P9 (h:ed w Pb G m now N wk gP) (cf:m<=20000):
  aK 16 #[aj Pb] w (U7 w Pb G m now N wk gP):=by
 have aq:=h.facts;obtain⟨Hb,Ab,base,av,GH,SD,A,D,ALL,O,rfl,a4⟩:=h;have hu:lH (A.map (·.1))=true:=(gV _).2 aq.2.2.2.1;have aF:=ag (mi O.blk);have aH:=ag (K4 O.half.clip);have bH:w.cell? (ae Pb 0)=some (aj Hb):=aG O.blk;have f:=ag O;have H:=ag a4;have aY:=ag hu;have a1:=ag aq.2.2.2.2.1;have bZ:(A.map (·.1)).length<=20000:=aa;clear O a4 hu aq;go_enter func16,ntmps16
 go_wp2_with (go_at_call 55;refine aF.o.mono ?_;rintro e w1 ⟨rfl,a3⟩;have bN:=a3.symm;clear a3;subst bN)
 refine aH.o.mono ?_;rintro e w1 ⟨v,B,F,rfl,K,q,an,Q,-,-,b7,a8⟩;have bf:lH (jm B)=true:=HV Q aY.o;have ce:(jm B).length<=20000:=by rw[Q.length_eq];exact bZ
 have bh:KT (jm B):=fun p hp=>by
  obtain⟨c,bR,rfl⟩:=dh.1 (Q.mem_iff.1 hp);exact(a1.o c.1 (nO bR)).2.2
 obtain⟨cp,cr,rfl,-,-,-⟩:=Rd.aI (enc:=R7) K;have aU:=ag K;have bp:=ag q;have a0:=ag an;have br:=ag a8;have bB:Hid (bM (jm B)=bM (A.map (·.1))):=HY Q aY.o;have bC:=ag bf;have bE:=ag bh;have cg:=q.size;have ab:Hid (∀j k,F j k->GH k/\k<w.heap.size):=fun j k h=>an.UT j k h;clear K q an Q a8 bf bh aH aF bH a1
 go_wp2_with fail
 go_loopw [3,17] (fun av E wr=>∃(i:Nat) (S:List Pt) (J:Option Addr) (ac:Nat) (g:Nat->Nat->Prop),av=.slice J S.length ac/\E=.int .i64 i/\i<=B.length/\S.length<=ac/\Hid (S=bM (jm (B.take i)))/\Hid (bQ bX 3 wr J S)/\Hid (∀x,J=some x->∀j k,g j k->k≠x.block)/\Hid (oo wr (fun k=>∃j,g j k) g B)/\Hid (∀j k,g j k->j<B.length/\(F j k\/w1.heap.size<=k))/\Hid (ax (fun k=>∃j,F j k) w1 wr)) (fun _ E _=>B.length-(intOf E).toNat)
 case atStart=>exact⟨0,[],none,0,fun j k=>F j k/\j<B.length,rfl,rfl,aX _,aX _,by show[]=_;simp[jm,RG],.inl rfl,(fun x e=>by cases e),⟨a0.o.clip.bk,fun j k h=>⟨j,h⟩,a0.o.clip.ap⟩,fun j k h=>⟨h.2,.inl h.1⟩,ax.refl _ _⟩
 case round=>
  obtain⟨i,S,J,ac,g,rfl,rfl,hi,bP,n,aV,aQ,t,r,s⟩:=hrel;by_cases d:i<B.length
  .have be:=aT aU.o s.o (fun X e h9=>by
    obtain⟨j,h9⟩:=h9;have u:=(aU.o.lt X e).1;have y:=(ab.o j X h9).2;omega)
   obtain⟨cq,cs,ah,-,-,bd⟩:=Rd.aI (enc:=R7) be;injection ah with ah _ bK;subst ah bK;obtain⟨b5,b6,V,-,z⟩:=bd.get aa;have bm:=z i d;have Z:=ag (VF (t.o.bk i d));have aM:=ag (fun w2 w3 u y ak=>t.o.asked (w2:=w2) (w3:=w3) (fun j k h=>(r.o j k h).1) d u y ak);have aW:=ag (DX d);have Y:=(Cv B (i+1)).length_le;have C:lH (jm (B.take (i+1)))=true:=RH (Cv B (i+1)) bC.o;have R:KT (jm (B.take (i+1))):=fun p hp=>bE.o p ((Cv B (i+1)).subset hp);rw[DX d]at C R Y;unfold R7 at bm;subst V;generalize B[i]=b at*;obtain⟨tb,n0,lb⟩:=b;simp only at bm Z aM aW C R Y;clear z bd be;have cc:(i:Int)<(B.length:Int):=aa;rw[bS]at Y;have al:=(xy.1 C).1;have am:=(xy.1 C).2.1;have bW:=tZ (l:=jm (B.take i));have bY:=tZ (l:=lb);have aC:=ag (fun(W:World) (T:Option Addr) (U:Nat) (u:bQ bX 3 W J S) (y:bQ bX 3 W T (bM lb)) (ak:(bM lb).length<=U)=>by
    have h:=MR J T S (bM lb) S.length (bM lb).length ac U W rfl rfl bP ak u y (by have:=n.o;subst this;omega) (by have:=n.o;subst this;exact Lc al fun p hp=>R p (Ir _ hp)) (Lc am fun p hp=>R p (List.mem_append_right _ hp)) (by have:=n.o;subst this;exact Cu al) (Cu am) (by have:=n.o;subst this;exact DV C);have e:bM (S++bM lb)=bM (jm (B.take (i+1))):=by rw[aW.o,n.o];exact P8 C
    rw[e]at h;exact h)
   clear C R Y al am bW bY
   go_wp2_with fail
   refine Z.o.mono ?_;rintro e w2 ⟨T,U,rfl,a9,bb,a6,ar⟩;have bq:=ag a6;have ad:=ag ar;have aE:=ag (aC.o w2 T U (aV.o.R9 ar fun x az h=>aQ.o x az i _ h rfl) bb a9);clear a6 ar bb a9 aC Z
   go_wp2_with fail
   refine aE.o.mono ?_;rintro e w3 ⟨co,rfl,aw,a7⟩;obtain⟨bF,bI,rfl,-,bU,bc⟩:=bQ.aI bg ai aw;have bu:=ag aw;have aN:=ag a7;have bx:=ag bc;have ch:=ad.o.size;have ck:=s.o.size;clear aw a7 bc aE;go_wp2;go_roundw
   case rel=>
    refine⟨i+1,_,bF,bI,fun j k=>g j k\/j=i/\wr.heap.size<=k/\k<w2.heap.size,rfl,by go_num,aa,bU,rfl,bx.o,fun x az j k h=>?_,aM.o w2 w3 bq.o ad.o aN.o,fun j k h=>?_,?_⟩
    .have u:=(bu.o.lt x.block (by rw[az];rfl)).1;rcases h with h|⟨-,-,h⟩
     .have y:=(t.o.bk j (r.o j k h).1).lt k h;omega
     .omega
    .rcases h with h|⟨rfl,h,-⟩
     .exact r.o j k h
     .exact⟨d,.inr aa⟩
    .refine(ax.strip (((s.o.mono fun k h=>.inl h)).trans (ad.o.mono fun k h=>?_))).below aN.o;rcases(r.o i k h).2 with h9|h9
     .exact .inl ⟨i,h9⟩
     .exact .inr h9
   case measure=>exact dU
  .obtain rfl:i=B.length:=aa;rw[jk]at n;have b9:S.length<=20000:=by have u:=n.o;have y:=tZ (l:=jm B);rw[<-u]at y;omega
   have ci:=s.o.size;have I:Hid (ax GH w wr):=((ax.refl GH w).below bp.o).trans (s.o.mono fun k h=>by
    obtain⟨j,h⟩:=h;exact(ab.o j k h).1)
   have ao:∀k,av.ownBlock=some k->k<w.heap.size:=fun k e=>(f.o.row.lt k e).2;have b8:=(aZ.1 f.o.blk).1;have a:=f.o.q8;have P:∀j k,g j k->k<wr.heap.size/\(GH k\/w.heap.size<=k):=fun j k h=>⟨(t.o.bk j (r.o j k h).1).lt k h,(r.o j k h).2.imp (fun h=>(ab.o j k h).1) fun h=>aa⟩;have bw:Hid (ed wr Pb (fun k=>(G k\/w.heap.size<=k)/\k<wr.heap.size) m (A.map (·.1)) N wk gP):=by
    refine⟨Hb,Ab,base,av,fun k=>(GH k/\k<w.heap.size)\/∃j,g j k,SD,A,D,ALL,⟨bz I.o f.o.blk (fun h=>(a.1 Pb h).2.1 rfl),aT f.o.row I.o (fun X e h=>(a.1 X h).2.2.1 e),br.o wr g _ s.o ⟨t.o.bk,fun j k h=>.inr ⟨j,h⟩,t.o.ap⟩ (fun k h=>.inl h) (fun j k h=>(r.o j k h).2),f.o.dir.kept I.o (fun k h h9=>(a.1 k h9).1 h),bD f.o.hb I.o.size,f.o.few,f.o.fwd,f.o.bwd,⟨fun k hk=>?_,fun k hk=>⟨(a.2.1 k hk).1,(a.2.1 k hk).2.1,by have:=(a.2.1 k hk).2.2;omega⟩,a.2.2⟩⟩,rfl,fun k hk=>?_⟩
    .have hq:GH k\/w.heap.size<=k:=hk.elim (fun h=>.inl h.1) fun⟨j,h⟩=>(P j k h).2;have ba:k<wr.heap.size:=hk.elim (fun h=>by have:=h.2;omega) fun⟨j,h⟩=>(P j k h).1;rcases hq with hq|hq
     .exact⟨(a.1 k hq).1,(a.1 k hq).2.1,(a.1 k hq).2.2.1,ba⟩
     .exact⟨fun h=>by have:=(a.2.1 k h).2.2;omega,aa,fun e=>by have:=ao k e;omega,ba⟩
    .rcases hk with hk|hk|rfl|hk
     .rcases hk with hk|⟨j,hk⟩
      .exact⟨.inl (H.o k (.inl hk.1)),by have:=hk.2;omega⟩
      .exact⟨(P j k hk).2.imp (fun h=>H.o k (.inl h)) id,(P j k hk).1⟩
     .exact⟨.inl (H.o k (.inr (.inl hk))),by have:=(a.2.1 k hk).2.2;omega⟩
     .exact⟨.inl (H.o k (.inr (.inr (.inl rfl)))),aa⟩
     .exact⟨.inl (H.o k (.inr (.inr (.inr hk)))),by have:=ao k hk;omega⟩
   have cb:¬(B.length:Int)<(B.length:Int):=aa;have bt:Hid (ax G w wr):=I.o.mono fun k h=>H.o k (.inl h);clear I a P ao;have bA:Hid (S=bM (A.map (·.1))):=n.o.trans bB.o;clear n aQ t r s;obtain⟨w4,bO⟩:∃w4:World,w4=wr:=⟨_,rfl⟩;subst bO
   go_wp2_with fail
   go_loopw [6,31] (fun v E wr=>∃i:Nat,E=.int .i64 i/\i<=S.length/\Hid (wr.ownsRow w4.heap.size 27 1 v (ids (S.take i)).length ((ids (S.take i)).map (Value.int .u32)))/\Below w4.heap.size w4 wr) (fun _ E _=>S.length-(intOf E).toNat)
   case atStart=>exact⟨0,rfl,aX _,by simp[ids];exact dw _ _ _ _,aJ _ _⟩
   case round=>
    obtain⟨i,rfl,hi,HO,q⟩:=hrel;have b2:=q.size;have b0:(ids (S.take i)).length<=20000:=by
     unfold ids;rw[bT,eQ];omega
    by_cases d:i<S.length
    .obtain⟨b,off,V,ca,z⟩:=(aV.o.below q).get aa;have bl:=z i d 0 aa;have x1:=z i d 1 aa;have x2:=z i d 2 aa;simp only[bX,fw,fD,dx]at bl x1 x2;have aO:Hid (ids (S.take (i+1))=ids (S.take i)++[S[i].2.2]):=by
      show _=_;unfold ids;rw[gW d,bL];rfl
     have aL:=ag V;clear z V;generalize S[i]=p at*;obtain⟨bi,bj,aA⟩:=p;simp only at bl x1 x2 aO;obtain rfl:=aL.o;clear aL;generalize ids (S.take i)=L at*;have cd:(i:Int)<(S.length:Int):=aa;have aR:=ag (HO.o.alloc (.cells #[af bi,af bj,ay aA] 29));have bn:=q.alloc b2 (.cells #[af bi,af bj,ay aA] 29)
     go_wp2_with (at_builtin;refine vz uk w4.heap.size aR.o [.int .u32 aA] rfl (by simp[Value.oneCell']) rfl _ _ rfl rfl _ (by show au (wr.heap.size+1) 1 1=_;simp) dD aa aD ?_;intro cn w6 b1 bV;have bG:=dB bn aR.o bV aD (aB _))
     go_roundw
     case rel=>
      refine⟨i+1,by go_num,aa,?_,bG⟩;show World.ownsRow _ _ _ _ _ _ _;rw[aO.o,bL,bS];exact b1
     case measure=>exact dU
    .obtain rfl:i=S.length:=aa;have M:=HO.o;rw[jk]at M b0;have bo:=ag (zN M aa);have aS:=ag M;obtain⟨cl,cm,rfl,-,-,-⟩:=Rd.aI M;have bs:=ag q;clear M HO q
     go_wp2_with (go_at_call 64;refine bo.o.mono ?_;rintro e b4 ⟨rfl,K,a5⟩;have bv:=ag K;have aP:=ag a5;clear K a5)
     go_ret;have cj:=aP.o.size;have a2:ax (fun _=>False) w4 b4:=ax.strip ((((ax.refl (fun _=>False) w4).below bs.o).mono fun k h=>.inl h).trans (aP.o.mono fun k h=>.inr (aS.o.lt k h).1));have bJ:dE (ids S)=dE (ids (bM (A.map (·.1)))):=by rw[<-bA.o]
     have b3:(dE (ids S)).length=(ids S).length:=iP _;refine⟨_,fun k=>(G k\/w.heap.size<=k)/\k<w4.heap.size,rfl,?_,bw.o.kept a2 fun _ _ h=>h,bt.o.trans (a2.mono fun _ h=>h.elim),fun k hk=>⟨hk.1,aa,fun e=>by have:=(aS.o.lt k e).1;omega⟩⟩;rw[<-bJ,b3];exact eB bv.o aa
end
end
section
open Go.RowKit Go.Lib
theorem Nj {l m:List Int} (h:l.Perm m):dE l=dE m:=zV (nI m) ((qJ m _).trans h.symm)
def TR (L:List Pt):List Int:=dE (ids (bM L))
theorem Qa {L M:List Pt} (h:L.Perm M) (hu:(ids M).Nodup):TR L=TR M:=by unfold TR;rw[HY h ((gV M).2 hu)]
theorem y8 {L M:List Pt} (h:L.Perm M) (f:Pt->Bool):dE (ids (L.filter f))=dE (ids (M.filter f)):=Nj ((h.filter f).map _)
theorem Qb {L M:List Pt} (h:L.Perm M) (hu:(ids M).Nodup) (x1 x2:Int):mo L x1 x2=mo M x1 x2:=y5 h hu (xx M x1 x2) (xx L x1 x2)|>.symm
end
section
open Go.RowKit Go.Sort Go.Shelf Go.Lib Go.Maps
attribute [local irreducible] wpQuiet
attribute [local go_sem] Oper.eF
theorem HZ (l l':List Int) (k:Nat) (h:l.take k=l'.take k) (a:k<l.length) (b:k<l'.length) (c:l[k]=l'[k]):l.take (k+1)=l'.take (k+1):=by
 rw[gW a,gW b,h,c]
theorem qE (a a':Option Addr) (l l':List Int) (n n' c J:Nat) (w:World) (M:l.length=n) (N:l'.length=n') (h:Rd (.int .u32) w a l) (h':Rd (.int .u32) w a' l') (V:n<=1000000) (W:n'<=1000000):
  aK 15 #[.slice a n c,.slice a' n' J] w (fV w (.bool (decide (l=l')))):=by
 subst M N;have G:=ag h;have H:=ag h';clear h h';generalize m:decide (l=l')=r;have d:=ag m;clear m;by_cases j:l.length=l'.length
 .have K:((l.length:Int)!=(l'.length:Int))=false:=by simp[j]
  have z:=ag j;clear j;go_enter func15,ntmps15;go_wp2
  go_loopw [13] (fun t wr=>∃k:Nat,t=.int .i64 k/\k<=l.length/\Below w.heap.size w wr/\Hid (l.take k=l'.take k)) (fun t _=>l.length-(intOf t).toNat)
  case atStart=>exact⟨0,rfl,aX _,aJ _ _,rfl⟩
  case round=>
   obtain⟨k,rfl,S,i,g⟩:=hrel;by_cases E:k<l.length
   .have F:k<l'.length:=by have:=z.o;omega
    obtain⟨b,off,A,Q,C⟩:=(G.o.below i).get aa;obtain⟨P,X,B,R,D⟩:=(H.o.below i).get aa;have Y:=C k E;have Z:=D k F;have T:(k:Int)<(l.length:Int):=aa;have U:(k:Int)<(l'.length:Int):=aa;have p:l[k]≠l'[k]->r=false:=fun O=>by
     rw[<-d.o];simp only[iI];intro e;subst e;exact O rfl
    have q:l[k]=l'[k]->Hid (l.take (k+1)=l'.take (k+1)):=fun L=>HZ l l' k g.o E F L;have x:=ag A;have y:=ag B;clear C D A B;generalize l[k]=u at*;generalize l'[k]=v at*;obtain rfl:=x.o;obtain rfl:=y.o;clear x y;by_cases f:u=v
    .have d0:(u !=v)=false:=by simp[f]
     have I:=q f;clear f p q g;go_wp2;go_region
     all_goals
      go_wp2;go_roundw
      case rel=>exact⟨k+1,by go_num,aa,i.drew,I⟩
      case measure=>exact dU
    .have d0:(u !=v)=true:=by simp[f]
     have m:=p f;subst m;clear f p q d g;go_wp2;go_region
     all_goals
      go_wp2;go_ret;exact⟨rfl,i.drew⟩
   .obtain rfl:k=l.length:=aa;have s:r=true:=by
     rw[<-d.o,bO];have:=g.o;rw[jk,z.o,jk]at this;exact this
    subst s;clear g d;go_wp2;go_ret;exact⟨rfl,i⟩
 .have K:((l.length:Int)!=(l'.length:Int))=true:=aD;have s:r=false:=by
   rw[<-d.o,iI];rintro rfl;exact j rfl
  subst s;clear d j;go_enter func15,ntmps15;go_wp2;go_ret;exact⟨rfl,aJ _ _⟩
end
section
open Go.RowKit Go.Sort Go.Shelf Go.Lib Go.Maps
def St (K:World->Prop) (X:Nat->Prop):Prop:=∀(W W':World) (S:Nat->Prop),ax S W W'->(∀k,S k->¬X k)->K W->K W'
theorem St.and {K K2:World->Prop} {X c:Nat->Prop} (h:St K X) (f:St K2 c):St (fun W=>K W/\K2 W) (fun k=>X k\/c k):=fun W W' S e hS d=>⟨h W W' S e (fun k a b=>hS k a (.inl b)) d.1,f W W' S e (fun k a b=>hS k a (.inr b)) d.2⟩
theorem Sc {enc:Int->Value} {a:Option Addr} {l:List Int}:St (fun W=>Rd enc W a l) (fun k=>∃x,a=some x/\k=x.block):=fun W W' S c hS h=>by
 rcases h with h|⟨b,off,rfl,d,e⟩
 .exact .inl h
 .exact .inr ⟨b,off,rfl,bR d c.size,fun i hi=>(dz (c.block b d fun h=>hS b h ⟨_,rfl,rfl⟩)).trans (e i hi)⟩
theorem TS {α:Type} {enc:α->List Value} {sz:Nat} {a:Option Addr} {l:List α}:St (fun W=>bQ enc sz W a l) (fun k=>∃x,a=some x/\k=x.block):=fun W W' S c hS h=>h.R9 c fun x e b=>hS _ b ⟨x,e,rfl⟩
theorem J7 {b:Nat} {o:Obj}:St (fun W=>W.heap[b]? =some o) (fun k=>k=b):=fun W W' S c hS h=>bz c h fun a=>hS b a rfl
def fK (w W:World) (Pa ma:Nat) (La:List Pt) (Pb mb:Nat) (Lb:List Pt) (K:World->Prop):Prop:=
 ∃(Ga Gb X:Nat->Prop) (Na wa ta Nb wb tb:Int),ed W Pa Ga ma La Na wa ta/\ed W Pb Gb mb Lb Nb wb tb/\(∀k,Ga k->w.heap.size<=k/\k<W.heap.size/\¬Gb k/\¬X k)/\(∀k,Gb k->w.heap.size<=k/\k<W.heap.size/\¬X k)/\(∀k,X k->k<W.heap.size)/\Below w.heap.size w W/\St K X/\K W
section
variable {w W:World} {Pa ma Pb mb:Nat} {La Lb:List Pt} {K:World->Prop}
theorem fK.swap (h:fK w W Pa ma La Pb mb Lb K):fK w W Pb mb Lb Pa ma La K:=by
 obtain⟨d,e,X,f,r,q,g,wb,tb,i,j,b,c,l,m,n,o⟩:=h;exact⟨e,d,X,g,wb,tb,f,r,q,j,i,fun k a=>⟨(c k a).1,(c k a).2.1,fun p=>(b k p).2.2.1 a,(c k a).2.2⟩,fun k a=>⟨(b k a).1,(b k a).2.1,(b k a).2.2.2⟩,l,m,n,o⟩
theorem fK.facts (h:fK w W Pa ma La Pb mb Lb K):(ids La).Nodup/\(∀q∈La,zi q)/\La.length<=ma/\Below w.heap.size w W/\K W:=by
 obtain⟨e,f,X,g,p,o,i,wb,tb,b,j,k,l,m,c,n,d⟩:=h;have a:=b.facts;exact⟨a.2.2.2.1,a.2.2.2.2.1,by have:=a.1;have:=a.2.2.1;omega,c,d⟩
theorem fK.less (h:fK w W Pa ma La Pb mb Lb K) {K2:World->Prop} (n:∀W,K W->K2 W) (hS:∀X,St K X->St K2 X):fK w W Pa ma La Pb mb Lb K2:=by
 obtain⟨a,b,X,c,p,o,d,wb,tb,e,f,g,i,j,k,l,m⟩:=h;exact⟨a,b,X,c,p,o,d,wb,tb,e,f,g,i,j,k,hS X l,n W m⟩
theorem fK.moved {l g X f S:Nat->Prop} {t wb tb:Int} {W':World} {r:Nat} {o:List Pt} (u:ed W Pb g mb Lb t wb tb) (b:∀k,l k->w.heap.size<=k/\k<W.heap.size/\¬g k/\¬X k) (d:∀k,g k->w.heap.size<=k/\k<W.heap.size/\¬X k) (p:∀k,X k->k<W.heap.size) (n:Below w.heap.size w W) (q:St K X) (v:K W)
  {s B A:Int} (hP:ed W' Pa f r o s B A) (i:ax S W W') (hS:∀k,S k->l k) (x:∀k,f k->(l k\/W.heap.size<=k)/\k<W'.heap.size)
  {K2:World->Prop} {m:Nat->Prop} (z:St K2 m) (y:K2 W') (j:∀k,m k->W.heap.size<=k/\k<W'.heap.size/\¬f k):fK w W' Pa r o Pb mb Lb (fun W=>K W/\K2 W):=by
 have C:=i.size;refine⟨f,g,fun k=>X k\/m k,_,_,_,_,_,_,hP,u.kept i fun k h c=>(b k (hS k c)).2.2.1 h,fun k a=>?_,fun k a=>⟨(d k a).1,by have:=(d k a).2.1;omega,?_⟩,fun k a=>a.elim (fun h=>by have:=p k h;omega) fun h=>(j k h).2.1,n.trans (i.toBelow n.size fun k h=>(b k (hS k h)).1),q.and z,q W W' S i (fun k h c=>(b k (hS k h)).2.2.2 c) v,y⟩
 .obtain⟨h|h,c⟩:=x k a
  .exact⟨(b k h).1,c,(b k h).2.2.1,fun e=>e.elim (b k h).2.2.2 fun e=>(j k e).2.2 a⟩
  .exact⟨bD n.size h,c,fun e=>by have:=(d k e).2.1;omega,fun e=>e.elim (fun e=>by have:=p k e;omega) fun e=>(j k e).2.2 a⟩
 .rintro(e|e)
  .exact(d k a).2.2 e
  .have:=(j k e).1;have:=(d k a).2.1;omega
theorem z8:St (fun _=>True) (fun _=>False):=fun _ _ _ _ _ _=>trivial
theorem fK.Ld (h:fK w W Pa ma La Pb mb Lb (fun W=>K W/\True)):fK w W Pa ma La Pb mb Lb K:=h.less (fun _ h=>h.1) fun X c W W' S b hS a=>(c W W' S b hS ⟨a,trivial⟩).1
theorem fK.below (h:fK w W Pa ma La Pb mb Lb K) {W':World} (a:Below W.heap.size W W'):fK w W' Pa ma La Pb mb Lb K:=by
 obtain⟨m,n,X,o,r,q,p,wb,tb,d,e,b,f,g,i,j,l⟩:=h;exact(fK.moved (S:=fun _=>False) e b f g i j l (d.below a) ((ax.refl _ _).below a) (fun _ h=>h.elim) (fun k c=>⟨.inl c,bR (b k c).2.1 a.size⟩) z8 trivial (fun _ h=>h.elim)).Ld
theorem fK.put (h:fK w W Pa ma La Pb mb Lb K) {W':World} (d:Below W.heap.size W W') {K2:World->Prop} {e:Nat->Prop} (q:St K2 e) (p:K2 W') (c:∀k,e k->W.heap.size<=k/\k<W'.heap.size):fK w W' Pa ma La Pb mb Lb (fun W=>K W/\K2 W):=by
 obtain⟨r,s,X,t,x,v,u,wb,tb,f,g,b,i,j,l,m,n⟩:=h;exact fK.moved (S:=fun _=>False) g b i j l m n (f.below d) ((ax.refl _ _).below d) (fun _ h=>h.elim) (fun k a=>⟨.inl a,bR (b k a).2.1 d.size⟩) q p (fun k a=>⟨(c k a).1,(c k a).2,fun o=>by have:=(b k o).2.1;have:=(c k a).1;omega⟩)
def Qc (w W:World) (Pa ma:Nat) (La:List Pt) (did:Bool) (Pb mb:Nat) (Lb:List Pt) (K:World->Prop) (e:Ending) (w':World):Prop:=
 ∃n:Nat,e=.returned (.tuple #[af n,.bool did])/\fK w w' Pa (ma+did.toNat) La Pb mb Lb K/\W.heap.size<=w'.heap.size
theorem fK.add (h:fK w W Pa ma La Pb mb Lb K) (p:ma<5000) (x y d:Int) (q:zi (x,y,d)):aK 12 #[aj Pa,iT x y d] W (Qc w W Pa ma (addN La (x,y,d)) (decide (d∉ids La)) Pb mb Lb K):=by
 obtain⟨r,s,X,u,A,z,v,wb,tb,c,f,b,g,i,j,l,m⟩:=h;refine(TQ c p (x,y,d) q).mono ?_;rintro e w' ⟨n,t,rfl,hP,a,-,-⟩;exact⟨n,rfl,(fK.moved f b g i j l m hP a (fun _ h=>h) (fun k o=>o.elim (fun h=>⟨.inl h,bR (b k h).2.1 a.size⟩) fun h=>⟨.inr h.1,h.2⟩) z8 trivial (fun _ h=>h.elim)).Ld,a.size⟩
theorem fK.drop (h:fK w W Pa ma La Pb mb Lb K) (p:ma<5000) (d:Int):aK 13 #[aj Pa,ay d] W (Qc w W Pa ma (qX La d) (decide (d∈ids La)) Pb mb Lb K):=by
 obtain⟨q,r,X,t,x,v,u,wb,tb,c,f,b,g,i,j,l,m⟩:=h;refine(RF c p d).mono ?_;rintro e w' ⟨n,s,rfl,hP,a,-,-⟩;exact⟨n,rfl,(fK.moved f b g i j l m hP a (fun _ h=>h) (fun k o=>o.elim (fun h=>⟨.inl h,bR (b k h).2.1 a.size⟩) fun h=>⟨.inr h.1,h.2⟩) z8 trivial (fun _ h=>h.elim)).Ld,a.size⟩
def TT (w W:World) (Pa ma:Nat) (La:List Pt) (Pb mb:Nat) (Lb:List Pt) (K:World->Prop) (A:List Int) (e:Ending) (w':World):Prop:=
 ∃(a:Option Addr) (c:Nat) (t:Int),e=.returned (.tuple #[.slice a A.length c,af t])/\fK w w' Pa ma La Pb mb Lb (fun W=>K W/\Rd (.int .u32) W a A)/\W.heap.size<=w'.heap.size
theorem Cw {W:World} {base:Nat} {e:TypeId} {sz:Nat} {a:Option Addr} {n c:Nat} {xs:List Value} (h:W.ownsRow base e sz (.slice a n c) n xs):∀k,(∃x,a=some x/\k=x.block)->base<=k/\k<W.heap.size/\(Value.slice a n c).ownBlock=some k:=by
 rintro k ⟨x,rfl,rfl⟩;rcases h.2 with⟨e,-⟩|⟨g,f,i,e,b,d,-⟩
 .injection e with e;cases e
 .injection e with e _ _;have e:=AL e;subst e;exact⟨b,(aZ.1 d).1,rfl⟩
theorem fK.told (h:fK w W Pa ma La Pb mb Lb K) {f:FuncId} {args:Array Value} {A:List Int} (c:∀{G:Nat->Prop} {N wk t:Int},ed W Pa G ma La N wk t->aK f args W (Hq W Pa G ma La N wk t A)):aK f args W (TT w W Pa ma La Pb mb Lb K A):=by
 obtain⟨B,C,X,D,H,F,E,wb,tb,j,o,d,p,q,r,s,u⟩:=h;refine(c j).mono ?_;rintro e w' ⟨v,t,rfl,m,-,g,hP⟩;obtain⟨a,n,rfl,-,-,z⟩:=Rd.aI (l:=A) m;have y:=j.facts.2.2.2.2.2.2.2;have i:=Cw m;exact⟨a,n,_,rfl,fK.moved o d p q r s u hP g (fun k h=>by rw[h];exact y) (fun k b=>⟨.inl b,bR (d k b).2.1 g.size⟩) Sc z (fun k b=>⟨(i k b).1,(i k b).2.1,fun x=>by have:=(d k x).2.1;have:=(i k b).1;omega⟩),g.size⟩
def U8 (w W:World) (Pa ma:Nat) (La:List Pt) (Pb mb:Nat) (Lb:List Pt) (K:World->Prop) (x y d:Int) (b:Bool) (e:Ending) (w':World):Prop:=
 ∃t:Int,e=.returned (.tuple #[iT x y d,.bool b,af t])/\fK w w' Pa ma La Pb mb Lb K/\W.heap.size<=w'.heap.size
theorem fK.lowest (h:fK w W Pa ma La Pb mb Lb K) (x1 x2:Int) {x y d:Int} {b:Bool} (r:(mo La x1 x2).getD (0,0,0)=(x,y,d)) (q:(mo La x1 x2).isSome=b):aK 20 #[aj Pa,af x1,af x2] W (U8 w W Pa ma La Pb mb Lb K x y d b):=by
 obtain⟨s,u,X,v,B,A,z,wb,tb,c,i,f,j,l,m,n,o⟩:=h;refine(Hw c x1 x2).mono ?_;rintro e w' ⟨t,rfl,-,a,hP⟩;rw[r,q];have p:=c.facts.2.2.2.2.2.2.2;exact⟨_,rfl,(fK.moved i f j l m n o hP a (fun k h=>by rw[h];exact p) (fun k g=>⟨.inl g,bR (f k g).2.1 a.size⟩) z8 trivial (fun _ h=>h.elim)).Ld,a.size⟩
def U9 (w W:World) (Pa ma:Nat) (La:List Pt) (Pb mb:Nat) (Lb:List Pt) (K:World->Prop) (A:List Int) (e:Ending) (w':World):Prop:=
 ∃(a:Option Addr) (c:Nat),e=.returned (.slice a A.length c)/\fK w w' Pa ma La Pb mb Lb (fun W=>K W/\Rd (.int .u32) W a A)/\W.heap.size<=w'.heap.size
theorem fK.Dm (h:fK w W Pa ma La Pb mb Lb K) (x:ma<=20000) {A:List Int} (u:TR La=A):aK 16 #[aj Pa] W (U9 w W Pa ma La Pb mb Lb K A):=by
 subst u;obtain⟨B,C,X,D,G,F,E,wb,tb,j,m,n,o,p,q,r,s⟩:=h;refine(P9 j x).mono ?_;rintro e w' ⟨v,z,rfl,g,hP,f,c⟩;obtain⟨a,i,rfl,-,-,y⟩:=Rd.aI (l:=dE (ids (bM La))) g;have d:=Cw g;exact⟨a,i,rfl,fK.moved m n o p q r s hP f (fun _ h=>h) (fun k b=>⟨(c k b).1,(c k b).2.1⟩) Sc y (fun k b=>⟨(d k b).1,(d k b).2.1,fun t=>(c k t).2.2 (d k b).2.2⟩),f.size⟩
theorem fK.len (h:fK w W Pa ma La Pb mb Lb K):aK 14 #[aj Pa] W fun e w'=>e=.returned (af La.length)/\w'=W:=by
 obtain⟨b,c,X,d,i,g,f,wb,tb,a,-⟩:=h;exact U3 a
end
end
end Go.Proofs.YtkjdbndekceffaaGreat
