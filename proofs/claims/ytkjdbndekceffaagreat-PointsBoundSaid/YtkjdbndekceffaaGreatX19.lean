/- Made small by a program. -/
import Derived.Test.YtkjdbndekceffaaGreatX18
set_option linter.unusedSimpArgs false
set_option linter.unusedVariables false
set_option maxRecDepth 100000
set_option maxHeartbeats 16000000
namespace Go.Proofs.YtkjdbndekceffaaGreat
open Tryz
section
open Go.RowKit Go.Sort Go.Shelf Go.Lib Go.Maps
attribute [local irreducible] wpQuiet
def dI (B:List (Nat×Nat×List Pt)) (i:Nat):List Pt:=(B[i]?.getD (0,0,[])).2.2
def iE (B:List (Nat×Nat×List Pt)) (i:Nat):Nat:=(B[i]?.getD (0,0,[])).2.1
theorem Kr {α b:Type} (B:List α) (d:α) (g:α->List b):(List.range B.length).flatMap (fun i=>g (B[i]?.getD d))=B.flatMap g:=by
 rw[A7,A7];congr 1;refine rH ay fun i c a=>?_;rw[bR]at a;rw[fP,fP,xW,cB a,gH]
theorem zk (B:List (Nat×Nat×List Pt)) {a:Type} (g:List Pt->List a):(List.range B.length).flatMap (fun i=>g (dI B i))=B.flatMap fun b=>g b.2.2:=Kr B (0,0,[]) fun b=>g b.2.2
theorem D8 {α b:Type} {g h:α->List b}:∀(l:List α),(∀a,(g a).Perm (h a))->(l.flatMap g).Perm (l.flatMap h)
 |[],_=>.refl _
 |a::l,H=>by
  rw[l6,l6];exact(H a).append (D8 l H)
theorem Kt {B:List (Nat×Nat×List Pt)} {now:List Pt} (hp:(iO B).Perm now) (f:Pt->Bool):eD ((List.range B.length).flatMap fun i=>eD (ids ((dI B i).filter f)))=eD (ids (now.filter f)):=by
 rw[zk B fun l=>eD (ids (l.filter f))];refine E8 (sI _) ((ru _ _).trans ?_);have a:(ids ((iO B).filter f)).Perm (ids (now.filter f)):=(hp.filter f).map _;refine a.symm.trans ?_;unfold iO ids;rw[List.filter_flatMap,List.map_flatMap];exact D8 B fun b=>(ru _ _).symm
theorem vZ {B:List (Nat×Nat×List Pt)} {now:List Pt} (hp:(iO B).Perm now) (f:Pt->Bool):((List.range B.length).map fun i=>((dI B i).filter f).length).sum=(now.filter f).length:=by
 rw[<-(hp.filter f).length_eq];unfold iO;rw[List.filter_flatMap,<-zk B fun l=>l.filter f,List.length_flatMap]
theorem SumB.two {bd:Nat->Nat->Prop} {r:Nat->Nat} {b:Nat} (c:∀i t,bd i t->r i<=t/\t<=2*r i+b):∀{i n:Nat},SumB bd i n->((List.range i).map r).sum<=n/\n<=2*((List.range i).map r).sum+i*b
 |0,n,a=>by simp[SumB]at a;subst a;simp
 |i+1,n,a=>by
  obtain⟨n',t,d,f,rfl⟩:=a;have g:=SumB.two c d;have h:=c i t f;have e:([i].map r).sum=r i:=ay;rw[pM,bM,rO,e,mV i 1 b];omega
def uG (N:Int) (L xu:Nat):Prop:=L<=xu/\∀K:Nat,N<((2^K:Nat):Int)->xu<=2*L+K*(8*K+1)
theorem bitLen_le {n K:Nat} (h:n<2^K) (f:n<=20000):Lib.bitLen n<=K:=by
 by_cases a:n=0
 .subst a;exact bD _
 .obtain⟨c,b,d⟩:=bz n aa a;have e:Lib.bitLen n-1<K:=(IK (by decide:1<2)).1 (pF b h);omega
section
variable {w w1:World} {Pb m:Nat} {G GH:Nat->Prop} {now:List Pt} {A:List eX} {N wk eB:Int} {B:List (Nat×Nat×List Pt)} {F:Nat->Nat->Prop}
theorem CG.cost (T:CG w w1 GH A N B F) {r:Nat->Nat} {bd:Nat->Nat->Prop} (g:∀i t,bd i t->r i<=t/\t<=2*r i+(8*Lib.bitLen (iE B i)+1)) {n:Nat} (j:SumB bd B.length n):uG N ((List.range B.length).map r).sum n:=by
 have c:∀i,iE B i<=20000/\∀K:Nat,N<((2^K:Nat):Int)->iE B i<2^K:=fun i=>by
  unfold iE;by_cases hi:i<B.length
  .rw[cB hi];have a:=T.built _ (bF hi);refine⟨a.2,fun K f=>?_⟩;simp only[gH];omega
  .rw[oD aa];exact⟨bD _,fun K _=>pY ai⟩
 refine⟨(SumB.two (r:=r) (b:=2000) (fun i t h=>?_) j).1,fun K f=>?_⟩
 .have a:=g i t h;have d:Lib.bitLen (iE B i)<=15:=bitLen_le (pF (c i).1 ai) (c i).1;omega
 .have a:=(SumB.two (r:=r) (b:=8*K+1) (fun i t h=>by
   have a:=g i t h;have d:=bitLen_le ((c i).2 K f) (c i).1;omega) j).2
  have d:B.length<=K:=by
   by_cases k:B.length=0
   .omega
   .have e:=T.log k;have l:((2:Int)^(B.length-1))=((2^(B.length-1):Nat):Int):=ay;rw[l]at e;have m:(2:Nat)^(B.length-1)<2^K:=aa;have o:=(IK (by decide:1<2)).1 m;omega
  have e:=nR (8*K+1) d;omega
def CK (w:World) (Pb:Nat) (G:Nat->Prop) (m:Nat) (now:List Pt) (N wk eB:Int) (L:List Int) (e:Ending) (w':World):Prop:=
 ∃(v:Value) (xu:Nat),e=.returned (.tuple #[v,ae xu])/\w'.ownsRow w.heap.size 27 1 v L.length (L.map (Value.int .u32))/\uG N L.length xu/\ax (fun k=>k=Pb) w w'/\dN w' Pb G m now N wk (wrap64 (eB+xu))
def Lt (w:World) (Pb:Nat) (G:Nat->Prop) (m:Nat) (now:List Pt) (N wk eB:Int) (r:Value) (e:Ending) (w':World):Prop:=
 ∃xu:Nat,e=.returned (.tuple #[r,ae xu])/\uG N 0 xu/\ax (fun k=>k=Pb) w w'/\dN w' Pb G m now N wk (wrap64 (eB+xu))
theorem nA.at (W:nA w G F B) {i:Nat} (hi:i<B.length):Bk w (F i) B[i].1 (iE B i) (dI B i):=by
 have h:=W.bk i hi;unfold iE dI;rwa [cB hi]
theorem nA.few (W:nA w G F B) (f:Pt->Bool) (i:Nat):((dI B i).filter f).length<=20000:=by
 refine bA (fO _ _) ?_;by_cases hi:i<B.length
 .obtain⟨lo,m0,m1,m2,m3,m4,a,bx,cn,hp,lw,ob,tl,sv,dn,h⟩:=W.at hi;have:=h.box.Fw;omega
 .unfold dI;rw[oD aa];simp
theorem nA.Wq (hp:(iO B).Perm (A.map (·.1))) (d:∀c∈A,FX c.1) (i:Nat):Qv (dI B i):=fun p a=>by
 have b:p∈iO B:=by
  unfold dI at a;by_cases hi:i<B.length
  .rw[cB hi]at a;exact x9.2 ⟨_,bF hi,a⟩
  .rw[oD aa]at a;simp at a
 obtain⟨c,e,rfl⟩:=dA.1 (hp.mem_iff.1 b);exact d c e
theorem Ku {fn:FuncId} {cs:Array Value} (f:Pt->Bool) (q:∀args w,(callFunc fn args).run prog w=.ok (.enter fn args) w) (h:dN w Pb G m now N wk eB)
  (ask:∀(u:World) (F:Nat->Prop) (tb n0:Nat) (l:List Pt),Below w.heap.size w u->Bk u F tb n0 l->Qv l->aK fn (#[aj tb]++cs) u fun e d=>∃(v:Value) (t:Nat),e=.returned (.tuple #[v,ae t])/\((eD (ids (l.filter f))).length<=t/\t<=2*(eD (ids (l.filter f))).length+(8*Lib.bitLen n0+1))/\d.ownsRow u.heap.size 27 1 v (eD (ids (l.filter f))).length ((eD (ids (l.filter f))).map (Value.int .u32))/\Below u.heap.size u d):
  aK 65 #[aj Pb,.func (.func fn) #[] cs] w (CK w Pb G m now N wk eB (eD (ids (now.filter f)))):=by
 obtain⟨Hb,Ab,base,av,GH,SD,A,D,ALL,a,rfl,s⟩:=h;have x:=a.half.facts.2.2.2.2.1;refine(RY (Q:=fun L n=>L=eD (ids ((A.map (·.1)).filter f))/\uG N L.length n) q a.blk a.half (fun k E=>(a.rq.1 k E).2.2.2) ?_).mono ?_
 .intro w1 B F T;have p:∀i,(eD (ids ((dI B i).filter f))).length=((dI B i).filter f).length:=fun i=>by rw[gV];exact bR _
  have o:=fun i=>T.wd.few f i;refine⟨fun i=>eD (ids ((dI B i).filter f)),fun i t=>(eD (ids ((dI B i).filter f))).length<=t/\t<=2*(eD (ids ((dI B i).filter f))).length+(8*Lib.bitLen (iE B i)+1)/\iE B i<=20000,fun i t ht=>?_,fun i=>by rw[p];exact o i,fun i hi u b y=>?_,fun n H=>⟨Kt T.perm f,?_⟩⟩
  .have g:=o i
   replace ht:(eD (ids ((dI B i).filter f))).length<=t/\t<=2*(eD (ids ((dI B i).filter f))).length+(8*Lib.bitLen (iE B i)+1)/\iE B i<=20000:=ht
   have j:Lib.bitLen (iE B i)<=15:=bitLen_le (pF ht.2.2 ai) ht.2.2;rw[p]at ht;omega
  .refine(ask u (F i) B[i].1 (iE B i) (dI B i) b (y.at hi) (nA.Wq T.perm x i)).mono ?_;rintro e d ⟨v,t,rfl,ht,c,z⟩;refine⟨v,t,rfl,⟨ht.1,ht.2,?_⟩,c,z⟩;unfold iE;rw[cB hi];exact(T.built _ (bF hi)).2
  .have g:=T.cost (r:=fun i=>(eD (ids ((dI B i).filter f))).length) (fun i t ht=>⟨ht.1,ht.2.1⟩) H;have j:(eD ((List.range B.length).flatMap fun i=>eD (ids ((dI B i).filter f)))).length=((List.range B.length).map fun i=>(eD (ids ((dI B i).filter f))).length).sum:=by rw[gV,List.length_flatMap]
   rw[j];exact g
 .rintro e w' ⟨v,L,I,rfl,c,⟨rfl,C⟩,K,b⟩;exact⟨v,I,rfl,c,C,K,Hb,Ab,base,av,GH,SD,A,D,ALL,a.Qk K b,rfl,s⟩
theorem zl {fn:FuncId} {cs:Array Value} (r:List Pt->Nat) (j:∀args w,(callFunc fn args).run prog w=.ok (.enter fn args) w) (h:dN w Pb G m now N wk eB) (E:∀l,r l<=l.length)
  (ask:∀(u:World) (F:Nat->Prop) (tb n0:Nat) (l:List Pt),Below w.heap.size w u->Bk u F tb n0 l->Qv l->aK fn (#[aj tb]++cs) u fun e g=>∃t:Nat,e=.returned (.tuple #[ae (r l:Nat),ae t])/\t<=8*Lib.bitLen n0+1/\Below u.heap.size u g):
  aK 73 #[aj Pb,.func (.func fn) #[] cs] w fun e w'=>∃B:List (Nat×Nat×List Pt),(iO B).Perm now/\Lt w Pb G m now N wk eB (.int .i64 (((List.range B.length).map fun i=>r (dI B i)).sum:Nat)) e w':=by
 obtain⟨Hb,Ab,base,av,GH,SD,A,D,ALL,a,rfl,o⟩:=h;have q:=a.half.facts.2.2.2.2.1;refine(Ke (Q:=fun n d=>∃B:List (Nat×Nat×List Pt),(iO B).Perm (A.map (·.1))/\n=((List.range B.length).map fun i=>r (dI B i)).sum/\uG N 0 d) j a.blk a.half (fun k C=>(a.rq.1 k C).2.2.2) ?_).mono ?_
 .intro w1 B F T;have z:∀i,r (dI B i)<=20000:=fun i=>bA (E (dI B i)) (by have:=T.wd.few (fun _=>true) i;rwa [lY.2 (fun _ _=>rfl)]at this);refine⟨fun i=>r (dI B i),fun i t=>t<=8*Lib.bitLen (iE B i)+1/\iE B i<=20000,fun i t ht=>?_,z,fun i hi u c v=>?_,fun n H=>⟨B,T.perm,rfl,?_⟩⟩
  .have f:Lib.bitLen (iE B i)<=15:=bitLen_le (pF ht.2 ai) ht.2;omega
  .refine(ask u (F i) B[i].1 (iE B i) (dI B i) c (v.at hi) (nA.Wq T.perm q i)).mono ?_;rintro e g ⟨t,rfl,ht,x⟩;refine⟨t,rfl,⟨ht,?_⟩,x⟩;unfold iE;rw[cB hi];exact(T.built _ (bF hi)).2
  .have p:=T.cost (r:=fun _=>0) (fun i t ht=>⟨bD _,aa⟩) H;have f:((List.range B.length).map fun _=>0).sum=0:=by have:=Al (r:=fun _=>0) (b:=0) (fun _=>aB _) B.length;omega
   rwa [f]at p
 .rintro e w' ⟨n,d,rfl,⟨B,s,rfl,y⟩,K,c⟩;exact⟨B,s,d,rfl,y,K,Hb,Ab,base,av,GH,SD,A,D,ALL,a.Qk K c,rfl,o⟩
def FM (x y way:Int) (p:Pt):Bool:=decide (way<=3)&&yS x y (decide (way%2=1)) (decide (2<=way)) p
theorem FN (l:List Pt) (x y a:Int):vY l x y a=eD (ids (l.filter (FM x y a))):=by
 unfold vY FM;by_cases b:a<=3
 .simp only[b,gF,decide_true,Bool.true_and];rfl
 .simp only[b,jC,decide_false,Bool.false_and];rw[xO.2 ay];exact OZ.symm
theorem Ii (r s:Nat->Nat) (h:∀i,r i>0↔s i>0):∀{n:Nat},((List.range n).map r).sum>0↔0<((List.range n).map s).sum
 |0=>ay
 |n+1=>by
  have c:=Ii r s h (n:=n);have d:=h n;have a:([n].map r).sum=r n:=ay;have b:([n].map s).sum=s n:=ay;rw[pM,bM,rO,bM,rO,a,b];omega
theorem Ij (h:dN w Pb G m now N wk eB) (x1 x2 y1 y2 a:Int):aK 17 #[aj Pb,.agg #[ae x1,ae x2,ae y1,ae y2,ak a]] w (CK w Pb G m now N wk eB (eD (ids (now.filter (Dc x1 x2 y1 y2))))):=by
 have s:Below w.heap.size w (w.alloc (.cells #[ae x1,ae x2,ae y1,ae y2,ak a] 38)):=(aI _ _).alloc (aB _) _;have sz:(w.alloc (.cells #[ae x1,ae x2,ae y1,ae y2,ak a] 38)).heap.size=w.heap.size+1:=ay;have i:(w.alloc (.cells #[ae x1,ae x2,ae y1,ae y2,ak a] 38)).heap[w.heap.size]? =some (Obj.cells #[ae x1,ae x2,ae y1,ae y2,ak a] 38 (0,0)):=by
  have q:=bW w (.cells #[ae x1,ae x2,ae y1,ae y2,ak a] 38);have e:w.heap.size=w.heap.size:=ay;rw[e]at q;exact q
 have j:=ag (Ku (fn:=66) (cs:=#[aj w.heap.size]) (Dc x1 x2 y1 y2) Ib (h.below s) fun u F tb n0 l y x C=>by
  have b:=(aP y i).trans i;refine(Nn x x1 x2 y1 y2 a (dV b) (dV b) (dV b) (dV b) (dV b)).mono ?_;rintro e D ⟨v,t,rfl,⟨c,rfl,g⟩,f,z⟩;exact⟨v,_,rfl,⟨Nat.le_add_left _ _,by unfold hasB at*;omega⟩,f,z⟩)
 have d:ax (fun k=>k=Pb) w (w.alloc (.cells #[ae x1,ae x2,ae y1,ae y2,ak a] 38)):=(ax.refl _ w).alloc _;have d:=ag d;have A:=ag sz;go_enter func17,ntmps17
 go_wp2_with fail
 refine j.o.mono ?_;rintro e E ⟨v,B,rfl,f,g,K,hP⟩;have HO:=ag f;have r:=ag hP;have p:=ag K;have n:=ag g;go_wp2;go_ret2;exact⟨v,B,rfl,dm HO.o (by rw[A.o];omega),n.o,d.o.trans p.o,r.o⟩
theorem Lu (h:dN w Pb G m now N wk eB) (x1 x2 y:Int):aK 19 #[aj Pb,ae x1,ae x2,ae y] w (CK w Pb G m now N wk eB (eD (ids (now.filter (xw x1 x2 y))))):=by
 have r:Below w.heap.size w (((w.alloc (.cells #[ae x1] 2)).alloc (.cells #[ae x2] 2)).alloc (.cells #[ae y] 2)):=(((aI _ _).alloc (aB _) _).alloc ay _).alloc aH _;have sz:(((w.alloc (.cells #[ae x1] 2)).alloc (.cells #[ae x2] 2)).alloc (.cells #[ae y] 2)).heap.size=w.heap.size+3:=ay;have d:(((w.alloc (.cells #[ae x1] 2)).alloc (.cells #[ae x2] 2)).alloc (.cells #[ae y] 2)).heap[w.heap.size]? =some (Obj.cells #[ae x1] 2 (0,0)):=by
  have q:=bW w (.cells #[ae x1] 2);have e:w.heap.size=w.heap.size:=ay;rw[e]at q;exact(bL _ _ _ (by simp;try omega)).trans ((bL _ _ _ (by simp;try omega)).trans (q))
 have f:(((w.alloc (.cells #[ae x1] 2)).alloc (.cells #[ae x2] 2)).alloc (.cells #[ae y] 2)).heap[w.heap.size+1]? =some (Obj.cells #[ae x2] 2 (0,0)):=by
  have q:=bW (w.alloc (.cells #[ae x1] 2)) (.cells #[ae x2] 2);have e:(w.alloc (.cells #[ae x1] 2)).heap.size=w.heap.size+1:=ay;rw[e]at q;exact(bL _ _ _ (by simp;try omega)).trans (q)
 have g:(((w.alloc (.cells #[ae x1] 2)).alloc (.cells #[ae x2] 2)).alloc (.cells #[ae y] 2)).heap[w.heap.size+2]? =some (Obj.cells #[ae y] 2 (0,0)):=by
  have q:=bW ((w.alloc (.cells #[ae x1] 2)).alloc (.cells #[ae x2] 2)) (.cells #[ae y] 2);have e:((w.alloc (.cells #[ae x1] 2)).alloc (.cells #[ae x2] 2)).heap.size=w.heap.size+2:=ay;rw[e]at q;exact q
 have i:=ag (Ku (fn:=68) (cs:=#[aj w.heap.size,aj (w.heap.size+1),aj (w.heap.size+2)]) (xw x1 x2 y) Kh (h.below r) fun u F tb n0 l b s J=>by
  have D:=(aP b d).trans d;have E:=(aP b f).trans f;have H:=(aP b g).trans g;refine(Qb s x1 x2 y (dV D) (dV E) (dV H)).mono ?_;rintro e L ⟨v,t,rfl,⟨A,B⟩,c,x⟩;exact⟨v,t,rfl,⟨A,bA B (by unfold zJ xx;omega)⟩,c,x⟩)
 have a:ax (fun k=>k=Pb) w (((w.alloc (.cells #[ae x1] 2)).alloc (.cells #[ae x2] 2)).alloc (.cells #[ae y] 2)):=(((ax.refl _ w).alloc _).alloc _).alloc _;have a:=ag a;have C:=ag sz;go_enter func19,ntmps19
 go_wp2_with fail
 refine i.o.mono ?_;rintro e M ⟨v,I,rfl,c,z,K,hP⟩;have HO:=ag c;have p:=ag hP;have n:=ag K;have j:=ag z;go_wp2;go_ret2;exact⟨v,I,rfl,dm HO.o (by rw[C.o];omega),j.o,a.o.trans n.o,p.o⟩
theorem Ik (h:dN w Pb G m now N wk eB) (x y a:Int) (B:0<=a):aK 18 #[aj Pb,ae x,ae y,.int .u8 a] w (CK w Pb G m now N wk eB (eD (ids (now.filter (FM x y a))))):=by
 have A:Below w.heap.size w (((w.alloc (.cells #[ae x] 2)).alloc (.cells #[ae y] 2)).alloc (.cells #[.int .u8 a] 5)):=(((aI _ _).alloc (aB _) _).alloc ay _).alloc aH _;have sz:(((w.alloc (.cells #[ae x] 2)).alloc (.cells #[ae y] 2)).alloc (.cells #[.int .u8 a] 5)).heap.size=w.heap.size+3:=ay;have i:(((w.alloc (.cells #[ae x] 2)).alloc (.cells #[ae y] 2)).alloc (.cells #[.int .u8 a] 5)).heap[w.heap.size]? =some (Obj.cells #[ae x] 2 (0,0)):=by
  have q:=bW w (.cells #[ae x] 2);have e:w.heap.size=w.heap.size:=ay;rw[e]at q;exact(bL _ _ _ (by simp;try omega)).trans ((bL _ _ _ (by simp;try omega)).trans (q))
 have j:(((w.alloc (.cells #[ae x] 2)).alloc (.cells #[ae y] 2)).alloc (.cells #[.int .u8 a] 5)).heap[w.heap.size+1]? =some (Obj.cells #[ae y] 2 (0,0)):=by
  have q:=bW (w.alloc (.cells #[ae x] 2)) (.cells #[ae y] 2);have e:(w.alloc (.cells #[ae x] 2)).heap.size=w.heap.size+1:=ay;rw[e]at q;exact(bL _ _ _ (by simp;try omega)).trans (q)
 have n:(((w.alloc (.cells #[ae x] 2)).alloc (.cells #[ae y] 2)).alloc (.cells #[.int .u8 a] 5)).heap[w.heap.size+2]? =some (Obj.cells #[.int .u8 a] 5 (0,0)):=by
  have q:=bW ((w.alloc (.cells #[ae x] 2)).alloc (.cells #[ae y] 2)) (.cells #[.int .u8 a] 5);have e:((w.alloc (.cells #[ae x] 2)).alloc (.cells #[ae y] 2)).heap.size=w.heap.size+2:=ay;rw[e]at q;exact q
 have p:=ag (Ku (fn:=67) (cs:=#[aj w.heap.size,aj (w.heap.size+1),aj (w.heap.size+2)]) (FM x y a) Ie (h.below A) fun u F tb n0 l d C E=>by
  have I:=(aP d i).trans i;have J:=(aP d j).trans j;have L:=(aP d n).trans n;refine(Np C x y a E B (dV I) (dV J) (dV L)).mono ?_;rw[FN];rintro e O ⟨v,t,rfl,⟨c,rfl,g⟩,f,D⟩;exact⟨v,_,rfl,⟨Nat.le_add_left _ _,aa⟩,f,D⟩)
 have b:ax (fun k=>k=Pb) w (((w.alloc (.cells #[ae x] 2)).alloc (.cells #[ae y] 2)).alloc (.cells #[.int .u8 a] 5)):=(((ax.refl _ w).alloc _).alloc _).alloc _;have b:=ag b;have H:=ag sz;go_enter func18,ntmps18
 go_wp2_with fail
 refine p.o.mono ?_;rintro e P ⟨v,M,rfl,f,g,K,hP⟩;have HO:=ag f;have z:=ag hP;have s:=ag K;have r:=ag g;go_wp2;go_ret2;exact⟨v,M,rfl,dm HO.o (by rw[H.o];omega),r.o,b.o.trans s.o,z.o⟩
theorem R7 (h:dN w Pb G m now N wk eB) (x1 x2 y1 y2 a:Int):aK 28 #[aj Pb,.agg #[ae x1,ae x2,ae y1,ae y2,ak a]] w (Lt w Pb G m now N wk eB (.int .i64 ((now.filter (Dc x1 x2 y1 y2)).length:Nat))):=by
 have i:Below w.heap.size w (w.alloc (.cells #[ae x1,ae x2,ae y1,ae y2,ak a] 38)):=(aI _ _).alloc (aB _) _;have sz:(w.alloc (.cells #[ae x1,ae x2,ae y1,ae y2,ak a] 38)).heap.size=w.heap.size+1:=ay;have f:(w.alloc (.cells #[ae x1,ae x2,ae y1,ae y2,ak a] 38)).heap[w.heap.size]? =some (Obj.cells #[ae x1,ae x2,ae y1,ae y2,ak a] 38 (0,0)):=by
  have q:=bW w (.cells #[ae x1,ae x2,ae y1,ae y2,ak a] 38);have e:w.heap.size=w.heap.size:=ay;rw[e]at q;exact q
 have g:=ag (zl (fn:=81) (cs:=#[aj w.heap.size]) (fun l=>(l.filter (Dc x1 x2 y1 y2)).length) Kj (h.below i) (fun l=>fO _ _) fun u F tb n0 l x b C=>by
  have c:=(aP x f).trans f;refine(Qc b x1 x2 y1 y2 a (dV c) (dV c) (dV c) (dV c) (dV c)).mono ?_;rintro e E ⟨t,rfl,ht,y⟩;exact⟨t,rfl,ht,y⟩)
 have d:ax (fun k=>k=Pb) w (w.alloc (.cells #[ae x1,ae x2,ae y1,ae y2,ak a] 38)):=(ax.refl _ w).alloc _;have d:=ag d;have D:=ag sz;clear f i sz h;go_enter func28,ntmps28
 go_wp2_with fail
 refine g.o.mono ?_;rintro e H ⟨B,b,z,rfl,n,K,hP⟩;have v:=ag hP;have s:=ag K;have r:=ag n;have A:=ag b;have j:=vZ b (Dc x1 x2 y1 y2);have p:=ag j;clear hP K n g b j;go_wp2;go_ret2;exact⟨z,by rw[p.o];rfl,r.o,d.o.trans s.o,v.o⟩
theorem Nt (h:dN w Pb G m now N wk eB) (x y a:Int) (E:0<=a):aK 29 #[aj Pb,ae x,ae y,.int .u8 a] w (Lt w Pb G m now N wk eB (.int .i64 ((now.filter (FM x y a)).length:Nat))):=by
 have p:Below w.heap.size w (((w.alloc (.cells #[ae x] 2)).alloc (.cells #[ae y] 2)).alloc (.cells #[.int .u8 a] 5)):=(((aI _ _).alloc (aB _) _).alloc ay _).alloc aH _;have sz:(((w.alloc (.cells #[ae x] 2)).alloc (.cells #[ae y] 2)).alloc (.cells #[.int .u8 a] 5)).heap.size=w.heap.size+3:=ay;have f:(((w.alloc (.cells #[ae x] 2)).alloc (.cells #[ae y] 2)).alloc (.cells #[.int .u8 a] 5)).heap[w.heap.size]? =some (Obj.cells #[ae x] 2 (0,0)):=by
  have q:=bW w (.cells #[ae x] 2);have e:w.heap.size=w.heap.size:=ay;rw[e]at q;exact(bL _ _ _ (by simp;try omega)).trans ((bL _ _ _ (by simp;try omega)).trans (q))
 have g:(((w.alloc (.cells #[ae x] 2)).alloc (.cells #[ae y] 2)).alloc (.cells #[.int .u8 a] 5)).heap[w.heap.size+1]? =some (Obj.cells #[ae y] 2 (0,0)):=by
  have q:=bW (w.alloc (.cells #[ae x] 2)) (.cells #[ae y] 2);have e:(w.alloc (.cells #[ae x] 2)).heap.size=w.heap.size+1:=ay;rw[e]at q;exact(bL _ _ _ (by simp;try omega)).trans (q)
 have j:(((w.alloc (.cells #[ae x] 2)).alloc (.cells #[ae y] 2)).alloc (.cells #[.int .u8 a] 5)).heap[w.heap.size+2]? =some (Obj.cells #[.int .u8 a] 5 (0,0)):=by
  have q:=bW ((w.alloc (.cells #[ae x] 2)).alloc (.cells #[ae y] 2)) (.cells #[.int .u8 a] 5);have e:((w.alloc (.cells #[ae x] 2)).alloc (.cells #[ae y] 2)).heap.size=w.heap.size+2:=ay;rw[e]at q;exact q
 have n:=ag (zl (fn:=83) (cs:=#[aj w.heap.size,aj (w.heap.size+1),aj (w.heap.size+2)]) (fun l=>(vY l x y a).length) FJ (h.below p) (fun l=>by show(vY l x y a).length<=l.length;rw[FN,gV];unfold ids;rw[bR];exact fO _ _) fun u F tb n0 l d b I=>by
  have J:=(aP d f).trans f;have L:=(aP d g).trans g;have M:=(aP d j).trans j;refine(Kk b x y a I E (dV J) (dV L) (dV M)).mono ?_;rintro e R ⟨t,rfl,ht,H⟩;exact⟨t,rfl,ht,H⟩)
 have c:ax (fun k=>k=Pb) w (((w.alloc (.cells #[ae x] 2)).alloc (.cells #[ae y] 2)).alloc (.cells #[.int .u8 a] 5)):=(((ax.refl _ w).alloc _).alloc _).alloc _;have c:=ag c;have Q:=ag sz;clear f g j p sz h;go_enter func29,ntmps29
 go_wp2_with fail
 refine n.o.mono ?_;rintro e S ⟨B,b,O,rfl,s,K,hP⟩;have D:=ag hP;have C:=ag K;have A:=ag s;have P:=ag b;have v:((List.range B.length).map fun i=>(vY (dI B i) x y a).length).sum=(now.filter (FM x y a)).length:=by
  rw[<-vZ b];congr 1;refine Ay fun i _=>?_;rw[FN,gV];exact bR _
 have r:=v;have z:=ag r;clear hP K s n b r v;go_wp2;go_ret2;exact⟨O,by rw[z.o];rfl,A.o,c.o.trans C.o,D.o⟩
theorem Vs (h:dN w Pb G m now N wk eB) (x1 x2 y:Int):aK 24 #[aj Pb,ae x1,ae x2,ae y] w (Lt w Pb G m now N wk eB (.bool (decide (0<(now.filter (xw x1 x2 y)).length)))):=by
 have n:Below w.heap.size w (((w.alloc (.cells #[ae x1] 2)).alloc (.cells #[ae x2] 2)).alloc (.cells #[ae y] 2)):=(((aI _ _).alloc (aB _) _).alloc ay _).alloc aH _;have sz:(((w.alloc (.cells #[ae x1] 2)).alloc (.cells #[ae x2] 2)).alloc (.cells #[ae y] 2)).heap.size=w.heap.size+3:=ay;have d:(((w.alloc (.cells #[ae x1] 2)).alloc (.cells #[ae x2] 2)).alloc (.cells #[ae y] 2)).heap[w.heap.size]? =some (Obj.cells #[ae x1] 2 (0,0)):=by
  have q:=bW w (.cells #[ae x1] 2);have e:w.heap.size=w.heap.size:=ay;rw[e]at q;exact(bL _ _ _ (by simp;try omega)).trans ((bL _ _ _ (by simp;try omega)).trans (q))
 have f:(((w.alloc (.cells #[ae x1] 2)).alloc (.cells #[ae x2] 2)).alloc (.cells #[ae y] 2)).heap[w.heap.size+1]? =some (Obj.cells #[ae x2] 2 (0,0)):=by
  have q:=bW (w.alloc (.cells #[ae x1] 2)) (.cells #[ae x2] 2);have e:(w.alloc (.cells #[ae x1] 2)).heap.size=w.heap.size+1:=ay;rw[e]at q;exact(bL _ _ _ (by simp;try omega)).trans (q)
 have g:(((w.alloc (.cells #[ae x1] 2)).alloc (.cells #[ae x2] 2)).alloc (.cells #[ae y] 2)).heap[w.heap.size+2]? =some (Obj.cells #[ae y] 2 (0,0)):=by
  have q:=bW ((w.alloc (.cells #[ae x1] 2)).alloc (.cells #[ae x2] 2)) (.cells #[ae y] 2);have e:((w.alloc (.cells #[ae x1] 2)).alloc (.cells #[ae x2] 2)).heap.size=w.heap.size+2:=ay;rw[e]at q;exact q
 have j:=ag (zl (fn:=74) (cs:=#[aj w.heap.size,aj (w.heap.size+1),aj (w.heap.size+2)]) (fun l=>if 0<(l.filter (xw x1 x2 y)).length then 1 else 0) Qe (h.below n) (fun l=>by show(if 0<(l.filter (xw x1 x2 y)).length then 1 else 0)<=l.length;have:=fO (xw x1 x2 y) l;split<;>omega) fun u F tb n0 l c a L=>by
  have C:=(aP c d).trans d;have D:=(aP c f).trans f;have E:=(aP c g).trans g;refine(Uh a x1 x2 y (dV C) (dV D) (dV E)).mono ?_;rintro e O ⟨t,rfl,ht,x⟩;exact⟨t,rfl,bA ht (by unfold zJ;omega),x⟩)
 have b:ax (fun k=>k=Pb) w (((w.alloc (.cells #[ae x1] 2)).alloc (.cells #[ae x2] 2)).alloc (.cells #[ae y] 2)):=(((ax.refl _ w).alloc _).alloc _).alloc _;have b:=ag b;have M:=ag sz;clear d f g n sz h;go_enter func24,ntmps24
 go_wp2_with fail
 refine j.o.mono ?_;rintro e P ⟨B,a,H,rfl,p,K,hP⟩;have v:=ag hP;have s:=ag K;have r:=ag p;have I:=ag a;have A:(((List.range B.length).map fun i=>if 0<((dI B i).filter (xw x1 x2 y)).length then 1 else 0).sum:Nat)>0↔0<(now.filter (xw x1 x2 y)).length:=by
  rw[<-vZ a];exact Ii _ _ fun i=>by split<;>omega
 generalize((List.range B.length).map fun i=>if 0<((dI B i).filter (xw x1 x2 y)).length then 1 else 0).sum=many at*;have hd:decide ((many:Int)>0)=decide (0<(now.filter (xw x1 x2 y)).length):=mQ.2 aa;have J:decide ((0:Int)<(many:Int))=decide (0<(now.filter (xw x1 x2 y)).length):=mQ.2 aa;have z:decide (0<many)=decide (0<(now.filter (xw x1 x2 y)).length):=mQ.2 aa;clear hP K p j a A;go_wp2;go_ret2;exact⟨H,by rw[<-z];rfl,r.o,b.o.trans s.o,v.o⟩
end
end
section
open Go.RowKit Go.Sort Go.Shelf Go.Lib Go.Maps
attribute [local irreducible] wpQuiet
attribute [local go_sem] Oper.fB
def lowMin (s:Option Pt):Option Pt->Option Pt
 |none=>s
 |some p=>match s with
  |none=>some p
  |some q=>if og p q<0 then some p else some q
def sW (l:List Pt) (x1 x2:Int):Option Pt:=(NK l x1 x2).head?
theorem ax.FO {S:Nat->Prop} {w w':World} (K:ax S w w') {g:Nat} (b:S g) (cs:Array Value):ax S w (w'.setRow g cs):=
 ⟨K.os,K.tape,K.output,by rw[setRow_size];exact K.size,fun k c a=>(setRow_other w' g k cs (fun e=>a (e▸b))).trans (K.block k c a)⟩
def FP (s:Option Pt):Obj:=.cells #[.bool s.isSome] 4 (0,0)
theorem Il:eY 42:=bO func42 aM rfl
theorem Ql:eY 70:=bO func70 aM rfl
theorem Um {u:World} {F:Nat->Prop} {tb n0:Nat} {l:List Pt} (h:Bk u F tb n0 l) (x1 x2:Int) (s:Option Pt) {ar av fb b:Nat} (ay:u.cell? (af ar 0)=some (ae x1)) (az:u.cell? (af av 0)=some (ae x2)) (aa:u.heap[fb]? =some (FP s)) (hp:u.heap[b]? =some (Ai (s.getD (0,0,0)))) (S:fb≠b):
  aK 70 #[aj tb,aj ar,aj av,aj fb,aj b] u fun e ac=>∃t:Nat,e=.returned (ae t)/\t<=uF n0/\ac.heap[fb]? =some (FP (lowMin s (sW l x1 x2)))/\ac.heap[b]? =some (Ai ((lowMin s (sW l x1 x2)).getD (0,0,0)))/\ax (fun k=>k=fb\/k=b) u ac:=by
 obtain⟨lo,m0,m1,m2,m3,m4,hi,bx,cn,a7,lw,ob,tl,sv,dn,h⟩:=h;have H:=ag h;have aw:u.cell? (af tb 4)=some (aj lw):=aD h.blk;have G:Hid (∀W,Below u.heap.size u W->aK 42 #[aj lw,ae x1,ae x2] W fun e w'=>(∃c:Nat,e=.returned (.tuple #[jc ((sW l x1 x2).getD (0,0,0)).1 ((sW l x1 x2).getD (0,0,0)).2.1 ((sW l x1 x2).getD (0,0,0)).2.2,.bool (sW l x1 x2).isSome,ae c])/\c<=uF n0)/\Below W.heap.size W w'):=fun W aV=>by
  refine(RB (H.o.low.kept ((ax.refl (fun _=>False) u).below aV) (fun _ _ _ h=>h)) x1 x2).mono ?_;rintro e w' ⟨⟨p,hp,c,aX,A⟩,aW⟩;subst hp;exact⟨⟨c,aX,A⟩,aW⟩
 have Z:=ah aw;have X:=ah ay;have Y:=ah az;have aZ:=(aY.1 aa).1;have a0:=(aY.1 hp).1;have aQ:=ag aa;have aR:=ag hp;clear h aw aa hp ay az;generalize sW l x1 x2=r at*;go_enter func70,ntmps70
 go_upto_region 1 with fail
 go_cut [7,8,9]from 10 (fun a1 a2 a3 aL=>∃g c:Nat,a1=aj g/\a2=.bool r.isSome/\a3=.int .i64 c/\Hid (c<=uF n0)/\Hid (Below u.heap.size u aL)/\Hid (u.heap.size<=g)/\Hid (aL.heap[g]? =some (Ai (r.getD (0,0,0)))))
 case first=>
  refine au (fun W=>∃p:aS u,W=p.W) [6,7,8,9,10,12,13,14] [(0,false),(1,false),(2,false),(3,true),(4,true),(5,true)] ⟨⟨_,(aI _ _).drew⟩,rfl⟩ 9 ?_;have w:Below u.heap.size u u.drew:=(aI _ _).drew;generalize u.drew=w0 at*;refine ig 6 11 rfl rfl (fun K n=>?_) (fun K n=>?_)
  .refine aT Il rfl _ _ rfl (vals:=#[aj lw,ae x1,ae x2]) rfl (G.o _ w) ?_;rintro e w1 ⟨⟨c,rfl,A⟩,aA⟩;have m:=w.trans (aA.mono w.size);refine⟨_,rfl,?_⟩;refine n _ _ (fun _ h=>absurd ai h) ?_;clear n K Z X Y G;have x:=ag A;refine bf [(7,false),(8,false),(9,false),(10,false)] ⟨⟨_,m⟩,rfl⟩ rfl ?_;refine aC 11 rfl fun K n=>?_;go_simp;obtain⟨w2,Q⟩:∃W,W=w1.alloc (.cells #[ae 0,ae 0,ak 0] 29):=⟨_,rfl⟩;have E:w2.heap[w1.heap.size]? =some (Ai (0,0,0)):=by rw[Q];exact bW w1 _
   have B:Below u.heap.size u w2:=by rw[Q];exact m.alloc m.size _
   rw[<-Q];clear Q;refine n _ _ (fun _ _=>⟨⟨_,B⟩,rfl⟩) ?_;clear n K;refine aG [12,13,14] ?_;have z:=ag B;have ao:=ag E;have aH:=ag m.size;clear w m B E aA A;refine rE rfl 29 (.tmp 7) (.tmp 18) rfl rfl w1.heap.size #[ae (r.getD (0,0,0)).1,ae (r.getD (0,0,0)).2.1,ak (r.getD (0,0,0)).2.2] rfl rfl _ _ ao.o aM rfl (by simp[Value.oneCell']) ?_
   go_wp2_with fail
   go_meet;exact⟨_,c,rfl,rfl,rfl,x,ag (yu z.o aH.o _),aH,ag (p8 _ _ _ _ _ _ ao.o)⟩
  .go_simp;obtain⟨w1,P⟩:∃W,W=w0.alloc (.cells #[ae 0,ae 0,ak 0] 29):=⟨_,rfl⟩;have E:w1.heap[w0.heap.size]? =some (Ai (0,0,0)):=by rw[P];exact bW w0 _
   have m:Below u.heap.size u w1:=by rw[P];exact w.alloc w.size _
   rw[<-P];clear P;refine n _ _ (fun _ _=>⟨⟨_,m⟩,rfl⟩) ?_;clear n K;refine aC 6 rfl fun K n=>?_;refine aT Il rfl _ _ rfl (vals:=#[aj lw,ae x1,ae x2]) rfl (G.o _ m) ?_;rintro e w2 ⟨⟨c,rfl,A⟩,d⟩;have B:=m.trans (d.mono m.size);have aq:=(d.block _ (aY.1 E).1).trans E;refine⟨_,rfl,?_⟩;refine n _ _ (fun _ h=>absurd ai h) ?_;clear n K Z X Y G;have x:=ag A;refine fV (fun _=>True) [12,13,14] aM ?_;refine bf [(7,false),(8,false),(9,false),(10,false)] trivial rfl ?_;refine aG [12,13,14] ?_;have z:=ag B;have ap:=ag aq;have aE:=ag w.size;clear w m B E aq d A;refine rE rfl 29 (.tmp 7) (.tmp 18) rfl rfl w0.heap.size #[ae (r.getD (0,0,0)).1,ae (r.getD (0,0,0)).2.1,ak (r.getD (0,0,0)).2.2] rfl rfl _ _ ap.o aM rfl (by simp[Value.oneCell']) ?_
   go_wp2_with fail
   go_meet;exact⟨_,c,rfl,rfl,rfl,x,ag (yu z.o aE.o _),aE,ag (p8 _ _ _ _ _ _ ap.o)⟩
 case rest=>
  obtain⟨g,c,rfl,rfl,rfl,x,v,a5,V⟩:=hcut;have C:=(v.o.block fb aZ).trans aQ.o;have O:=(v.o.block b a0).trans aR.o;have D:=ag C;have y:=ag O;have aJ:=v.o.size;have a6:=ag aJ;clear Z X Y G aJ;cases r with
  |none=>
   simp only[Option.isSome_none,lowMin,mR]at*;clear C O;go_wp2;go_ret;exact⟨c,rfl,x.o,D.o,y.o,((ax.refl (fun k=>k=fb\/k=b) u).below v.o)⟩
  |some p=>
   obtain⟨f,i,j⟩:=p;simp only[Option.isSome_some,gH]at*;obtain⟨ad,al,am⟩:=kS V.o;simp only at ad al am;cases s with
   |none=>
    have f0:wc.cell? (af fb 0)=some (.bool false):=by simp[World.cell?,C,FP]
    have aU:=ag (p8 wc b _ #[ae f,ae i,ak j] _ _ y.o);have HO:=ag ((setRow_other wc b fb #[ae f,ae i,ak j] S).trans D.o);have f1:(wc.setRow b #[ae f,ae i,ak j]).cell? (af fb 0)=some (.bool false):=by simp[World.cell?,HO.o,FP]
    have f2:(wc.setRow b #[ae f,ae i,ak j]).frozen? (af fb 0)=false:=by simp[World.frozen?,HO.o,FP]
    clear C O
    go_wp2_with (refine rE rfl 29 (.tmp 4) (.tmp 32) rfl rfl b #[ae f,ae i,ak j] rfl rfl _ _ y.o aM rfl (by simp[Value.oneCell']) ?_)
    go_ret;refine⟨c,rfl,x.o,?_,(aF (a:=(af fb 0)) S).trans aU.o,(((ax.refl (fun k=>k=fb\/k=b) u).below v.o).FO (.inr rfl) _).set (a:=(af fb 0)) _ (.inl (show fb=fb\/fb=b from .inl rfl))⟩;rw[di _ fb 0 _ _ _ HO.o];rfl
   |some q=>
    have f0:wc.cell? (af fb 0)=some (.bool true):=by simp[World.cell?,C,FP]
    obtain⟨J,L,M⟩:=q;obtain⟨a4,y1,y2⟩:=kS y.o;simp only[gH]at a4 y1 y2;have CB:=ag (Pj (f,i,j) (J,L,M) wc);generalize aB:og (f,i,j) (J,L,M)=ab at*;have an:=ag aB;clear aB C O;by_cases R:ab<0
    .have hd:decide (ab<0)=true:=decide_eq_true R;have I:lowMin (some (J,L,M)) (some (f,i,j))=some (f,i,j):=by simp only[lowMin];rw[an.o,aO R]
     have T:=ag I;clear I
     go_wp2_with (first|(go_at_call 71;refine CB.o.mono ?_;rintro e w2 ⟨rfl,d⟩;obtain⟨ad,al,am⟩:=kS ((d.block g (aY.1 V.o).1).trans V.o);simp only at ad al am;have z:=ag (v.o.trans (d.mono v.o.size));have N:=ag ((aP d y.o).trans y.o);have U:=ag ((aP d D.o).trans D.o);have HO:=ag ((setRow_other w2 b fb #[ae f,ae i,ak j] S).trans U.o);have f1:(w2.setRow b #[ae f,ae i,ak j]).cell? (af fb 0)=some (.bool true):=(by simp[World.cell?,HO.o,FP]);have f2:(w2.setRow b #[ae f,ae i,ak j]).frozen? (af fb 0)=false:=(by simp[World.frozen?,HO.o,FP]);clear d)|(refine rE rfl 29 (.tmp 4) (.tmp 32) rfl rfl b #[ae f,ae i,ak j] rfl rfl _ _ N.o aM rfl (by simp[Value.oneCell']) ?_))
     go_ret;rw[T.o];refine⟨c,rfl,x.o,?_,(aF (a:=(af fb 0)) S).trans (p8 _ _ _ _ _ _ N.o),(((ax.refl (fun k=>k=fb\/k=b) u).below z.o).FO (.inr rfl) _).set (a:=(af fb 0)) _ (.inl (show fb=fb\/fb=b from .inl rfl))⟩;rw[di _ fb 0 _ _ _ HO.o];rfl
    .have hd:decide (ab<0)=false:=EA R;have I:lowMin (some (J,L,M)) (some (f,i,j))=some (J,L,M):=by simp only[lowMin];rw[an.o,aN R]
     have T:=ag I;clear I
     go_wp2_with (go_at_call 71;refine CB.o.mono ?_;rintro e w2 ⟨rfl,d⟩;have z:=ag (v.o.trans (d.mono v.o.size));have N:=ag ((aP d y.o).trans y.o);have U:=ag ((aP d D.o).trans D.o);clear d)
     go_ret;rw[T.o];exact⟨c,rfl,x.o,U.o,N.o,((ax.refl (fun k=>k=fb\/k=b) u).below z.o)⟩
def CL (x1 x2:Int) (l:List Pt):Option Pt->Prop
 |none=>∀p∈l,zV x1 x2 p=false
 |some p=>p∈l/\zV x1 x2 p=true/\∀q∈l,zV x1 x2 q=true->¬um q p
theorem FQ (l:List Pt) (x1 x2:Int):CL x1 x2 l (sW l x1 x2):=by
 have hp:=ja (l.filter (zV x1 x2));have f:(kC (l.filter (zV x1 x2))).Pairwise fun p q=>NJ p q=true:=ry (le:=NJ) (fun p q r g i=>by simp only[NJ,oG,gT]at*;unfold um at*;omega) (fun p q=>by simp only[NJ,A8,oG,gT];unfold um;omega) _;unfold sW NK;generalize kC (l.filter (zV x1 x2))=S at*;cases S with
 |nil=>
  intro p c;cases h:zV x1 x2 p with
  |false=>rfl
  |true=>exact absurd (hp.mem_iff.2 (bG.2 ⟨c,h⟩)) iC
 |cons p T=>
  have a:=bG.1 (hp.mem_iff.1 nT);refine⟨a.1,a.2,fun q d e h=>?_⟩;rcases gZ.1 (hp.mem_iff.2 (bG.2 ⟨d,e⟩))with rfl|h2
  .exact wG _ h
  .have b:=(lZ.1 f).1 q h2;unfold NJ at b;simp[h]at b
theorem Nu {x1 x2:Int} {l k:List Pt} {s r:Option Pt} (b:CL x1 x2 l s) (c:CL x1 x2 k r):CL x1 x2 (l++k) (lowMin s r):=by
 cases r with
 |none=>
  cases s with
  |none=>exact fun p hp=>(bT.1 hp).elim (b p) (c p)
  |some q=>exact⟨bT.2 (.inl b.1),b.2.1,fun p hp a=>(bT.1 hp).elim (fun h=>b.2.2 p h a) (fun h=>absurd a (by rw[c p h];simp))⟩
 |some p=>
  cases s with
  |none=>exact⟨bT.2 (.inr c.1),c.2.1,fun q f a=>(bT.1 f).elim (fun h=>absurd a (by rw[b q h];simp)) (fun h=>c.2.2 q h a)⟩
  |some q=>
   simp only[lowMin];by_cases d:og p q<0
   .rw[aO d];rw[qz]at d;refine⟨bT.2 (.inr c.1),c.2.1,fun t ht a=>(bT.1 ht).elim (fun h e=>b.2.2 t h a (tH e d)) (fun h=>c.2.2 t h a)⟩
   .rw[aN d];rw[qz]at d;refine⟨bT.2 (.inl b.1),b.2.1,fun t ht a=>(bT.1 ht).elim (fun h=>b.2.2 t h a) (fun h e=>?_)⟩;have:=c.2.2 t h a;unfold um at*;omega
theorem D9 {x1 x2:Int} {l k:List Pt} (hp:k.Perm l) (hu:(ids l).Nodup) {s r:Option Pt} (a:CL x1 x2 l s) (b:CL x1 x2 k r):s=r:=by
 cases s with
 |none=>
  cases r with
  |none=>rfl
  |some p=>exact absurd b.2.1 (by rw[a p (hp.mem_iff.1 b.1)];simp)
 |some q=>
  cases r with
  |none=>exact absurd a.2.1 (by rw[b q (hp.mem_iff.2 a.1)];simp)
  |some p=>
   have c:=a.2.2 p (hp.mem_iff.1 b.1) b.2.1;have d:=b.2.2 q (hp.mem_iff.2 a.1) a.2.1;rw[QG hu a.1 (hp.mem_iff.1 b.1) (by unfold um at*;omega)]
def Nv (B:List (Nat×Nat×List Pt)) (x1 x2:Int):Nat->Option Pt
 |0=>none
 |i+1=>lowMin (Nv B x1 x2 i) (sW (dI B i) x1 x2)
theorem Lv (B:List (Nat×Nat×List Pt)) (x1 x2:Int):∀i,CL x1 x2 ((List.range i).flatMap (dI B)) (Nv B x1 x2 i)
 |0=>fun p hp=>by simp at hp
 |i+1=>by
  rw[pM,gX];have e:[i].flatMap (dI B)=dI B i:=ay;rw[e];exact Nu (Lv B x1 x2 i) (FQ _ _ _)
theorem Im {B:List (Nat×Nat×List Pt)} {now:List Pt} (hp:(iO B).Perm now) (hu:(ids now).Nodup) (x1 x2:Int):Nv B x1 x2 B.length=sW now x1 x2:=by
 have a:=Lv B x1 x2 B.length;rw[show(List.range B.length).flatMap (dI B)=iO B from zk B fun l=>l]at a;exact(D9 hp hu (FQ now x1 x2) a).symm
section
variable {w w1:World} {Pb m:Nat} {G GH:Nat->Prop} {now:List Pt} {A:List eX} {N wk eB:Int}
def SF (w:World) (Pb:Nat) (G:Nat->Prop) (m:Nat) (now:List Pt) (N wk eB:Int) (o:Option Pt) (e:Ending) (w':World):Prop:=
 ∃xu:Nat,e=.returned (.tuple #[jc (o.getD (0,0,0)).1 (o.getD (0,0,0)).2.1 (o.getD (0,0,0)).2.2,.bool o.isSome,ae xu])/\uG N 0 xu/\ax (fun k=>k=Pb) w w'/\dN w' Pb G m now N wk (wrap64 (eB+xu))
def zm (w:World) (x1 x2:Int):World:=((((w.alloc (.cells #[ae x1] 2)).alloc (.cells #[ae x2] 2)).alloc (.cells #[ae 0,ae 0,ak 0] 29)).alloc (.cells #[ae 0,ae 0,ak 0] 29)).alloc (.cells #[.bool false] 4)
theorem Kv (w:World) (x1 x2:Int):Below w.heap.size w (zm w x1 x2)/\(zm w x1 x2).heap.size=w.heap.size+5/\(zm w x1 x2).heap[w.heap.size]? =some (.cells #[ae x1] 2 (0,0))/\(zm w x1 x2).heap[w.heap.size+1]? =some (.cells #[ae x2] 2 (0,0))/\
  (zm w x1 x2).heap[w.heap.size+1+1]? =some (Ai (0,0,0))/\(zm w x1 x2).heap[w.heap.size+1+1+1]? =some (Ai (0,0,0))/\(zm w x1 x2).heap[w.heap.size+1+1+1+1]? =some (FP none):=by
 obtain⟨b,a⟩:∃W,W=zm w x1 x2:=⟨_,rfl⟩;rw[<-a];unfold zm at a;have c:Below w.heap.size w b:=by
  rw[a];exact(((((aI _ _).alloc (aB _) _).alloc ay _).alloc (by simp<;>omega) _).alloc (by simp<;>omega) _).alloc (by simp<;>omega) _
 have sz:b.heap.size=w.heap.size+5:=by rw[a];simp
 have d:b.heap[w.heap.size]? =some (.cells #[ae x1] 2 (0,0)):=by
  rw[a];exact(bL _ _ _ (by simp<;>omega)).trans ((bL _ _ _ (by simp<;>omega)).trans ((bL _ _ _ (by simp<;>omega)).trans ((bL _ _ _ ay).trans (bW w _))))
 have e:b.heap[w.heap.size+1]? =some (.cells #[ae x2] 2 (0,0)):=by
  rw[a];exact(bL _ _ _ (by simp<;>omega)).trans ((bL _ _ _ (by simp<;>omega)).trans ((bL _ _ _ ay).trans (Bh w (.cells #[ae x1] 2) (.cells #[ae x2] 2))))
 have f:b.heap[w.heap.size+1+1]? =some (Ai (0,0,0)):=by
  rw[a];exact(bL _ _ _ (by simp<;>omega)).trans ((bL _ _ _ ay).trans (by have:=bW ((w.alloc (.cells #[ae x1] 2)).alloc (.cells #[ae x2] 2)) (.cells #[ae 0,ae 0,ak 0] 29);rwa [show((w.alloc (.cells #[ae x1] 2)).alloc (.cells #[ae x2] 2)).heap.size=w.heap.size+1+1 by simp]at this))
 have g:b.heap[w.heap.size+1+1+1]? =some (Ai (0,0,0)):=by
  rw[a];exact(bL _ _ _ ay).trans (by have:=bW (((w.alloc (.cells #[ae x1] 2)).alloc (.cells #[ae x2] 2)).alloc (.cells #[ae 0,ae 0,ak 0] 29)) (.cells #[ae 0,ae 0,ak 0] 29);rwa [show(((w.alloc (.cells #[ae x1] 2)).alloc (.cells #[ae x2] 2)).alloc (.cells #[ae 0,ae 0,ak 0] 29)).heap.size=w.heap.size+1+1+1 by simp]at this)
 have h:b.heap[w.heap.size+1+1+1+1]? =some (FP none):=by
  rw[a];have:=bW ((((w.alloc (.cells #[ae x1] 2)).alloc (.cells #[ae x2] 2)).alloc (.cells #[ae 0,ae 0,ak 0] 29)).alloc (.cells #[ae 0,ae 0,ak 0] 29)) (.cells #[.bool false] 4);rwa [show((((w.alloc (.cells #[ae x1] 2)).alloc (.cells #[ae x2] 2)).alloc (.cells #[ae 0,ae 0,ak 0] 29)).alloc (.cells #[ae 0,ae 0,ak 0] 29)).heap.size=w.heap.size+1+1+1+1 by simp]at this
 exact⟨c,sz,d,e,f,g,h⟩
theorem Qm {w:World} {v:Value} (x1 x2:Int) (Q:Option Pt->Nat->World->Prop)
  (x:aK 69 #[v,.func (.func 70) #[] #[aj w.heap.size,aj (w.heap.size+1),aj (w.heap.size+1+1+1+1),aj (w.heap.size+1+1+1)]] (zm w x1 x2) fun e a=>∃(r:Option Pt) (d:Nat),e=.returned (ae d)/\a.heap[w.heap.size+1+1+1+1]? =some (FP r)/\a.heap[w.heap.size+1+1+1]? =some (Ai (r.getD (0,0,0)))/\a.heap[w.heap.size+1+1]? =some (Ai (0,0,0))/\Q r d a):
  aK 20 #[v,ae x1,ae x2] w fun e w'=>∃(r:Option Pt) (d:Nat) (u:World),e=.returned (.tuple #[jc (r.getD (0,0,0)).1 (r.getD (0,0,0)).2.1 (r.getD (0,0,0)).2.2,.bool r.isSome,ae d])/\Q r d u/\w'=u.drew.setRow (w.heap.size+1+1) #[ae (r.getD (0,0,0)).1,ae (r.getD (0,0,0)).2.1,ak (r.getD (0,0,0)).2.2]:=by
 have j:=ag x;have k:Hid (((((w.alloc (.cells #[ae x1] 2)).alloc (.cells #[ae x2] 2)).alloc (.cells #[ae 0,ae 0,ak 0] 29)).alloc (.cells #[ae 0,ae 0,ak 0] 29)).alloc (.cells #[.bool false] 4)=zm w x1 x2):=rfl;go_enter func20,ntmps20
 go_upto_region 3 with fail
 rw[k.o]
 go_wp2_with fail
 refine j.o.mono ?_;rintro e a ⟨r,d,rfl,y,hp,z,t⟩;have f:=ag y;have g:=ag hp;have HO:=ag z;have n:=ag t
 go_upto_region 4 with fail
 generalize F:w.heap.size+1+1+1+1=fb at*;generalize G:w.heap.size+1+1+1=b at*;generalize A:w.heap.size+1+1=c at*;have q:=ag (show c<b/\b<fb from aa);have m:=ag A;have C:∀p:iD (fun W:World=>W.heap[fb]? =some (FP r)/\W.heap[b]? =some (Ai (r.getD (0,0,0)))),p.W.cell? (af b 0)=some (ae (r.getD (0,0,0)).1):=fun p=>(kS p.h.2).1;have D:∀p:iD (fun W:World=>W.heap[fb]? =some (FP r)/\W.heap[b]? =some (Ai (r.getD (0,0,0)))),p.W.cell? (af b 1)=some (ae (r.getD (0,0,0)).2.1):=fun p=>(kS p.h.2).2.1;have E:∀p:iD (fun W:World=>W.heap[fb]? =some (FP r)/\W.heap[b]? =some (Ai (r.getD (0,0,0)))),p.W.cell? (af b 2)=some (ak (r.getD (0,0,0)).2.2):=fun p=>(kS p.h.2).2.2;have B:∀p:iD (fun W:World=>W.heap[fb]? =some (FP r)/\W.heap[b]? =some (Ai (r.getD (0,0,0)))),p.W.cell? (af fb 0)=some (.bool r.isSome):=fun p=>by simp[World.cell?,p.h.1,FP]
 refine au (fun W=>∃p:iD (fun W:World=>W.heap[fb]? =some (FP r)/\W.heap[b]? =some (Ai (r.getD (0,0,0)))),W=p.W) [4,5] [(0,true),(1,true),(2,false)] ⟨⟨a.drew,⟨f.o,g.o⟩⟩,rfl⟩ 3 ?_;have i:a.drew.heap[c]? =some (Ai (0,0,0)):=HO.o;refine aC 3 rfl fun K s=>?_;rw[aO (by simp[Region.wanted])];refine wp_store_row 29 (.tmp 6) (.tmp 15) rfl c #[ae (r.getD (0,0,0)).1,ae (r.getD (0,0,0)).2.1,ak (r.getD (0,0,0)).2.2] rfl rfl _ _ i aM rfl (by simp[Value.oneCell']) ?_;have H:=q.o;refine s _ _ (fun _ _=>⟨⟨a.drew.setRow c #[ae (r.getD (0,0,0)).1,ae (r.getD (0,0,0)).2.1,ak (r.getD (0,0,0)).2.2],(setRow_other a.drew c fb _ aa).trans f.o,(setRow_other a.drew c b _ aa).trans g.o⟩,rfl⟩) ?_;have l:=ag (p8 a.drew c _ #[ae (r.getD (0,0,0)).1,ae (r.getD (0,0,0)).2.1,ak (r.getD (0,0,0)).2.2] _ _ i);refine aG [4,5] ?_
 go_wp2_with fail
 refine lq (ow rfl _ _ c _ _ _ _ (.bool r.isSome) (.int .i64 (d:Nat)) rfl rfl rfl l.o underlying29 rfl aM) rfl ?_;exact⟨r,d,a,rfl,n.o,by rw[m.o]⟩
theorem Io (h:dN w Pb G m now N wk eB) (x1 x2:Int):aK 20 #[aj Pb,ae x1,ae x2] w (SF w Pb G m now N wk eB (sW now x1 x2)):=by
 have⟨y,sz,H,I,ap,J,K⟩:=Kv w x1 x2;obtain⟨Hb,Ab,base,av,GH,SD,A,D,ALL,j,rfl,Y⟩:=h;have l:=j.kept (S:=fun _=>False) ((ax.refl _ _).below y) fun _ _ h=>h;have E:=l.half.facts;have aq:Pb<w.heap.size:=(aY.1 j.blk).1;have L:=(FD (fn:=70) (Sx:=fun k=>k=w.heap.size+1+1+1+1\/k=w.heap.size+1+1+1) (cs:=#[aj w.heap.size,aj (w.heap.size+1),aj (w.heap.size+1+1+1+1),aj (w.heap.size+1+1+1)]) (Q:=fun B c u=>u.heap[w.heap.size+1+1+1+1]? =some (FP (sW (A.map (·.1)) x1 x2))/\u.heap[w.heap.size+1+1+1]? =some (Ai ((sW (A.map (·.1)) x1 x2).getD (0,0,0)))/\uG N 0 c) Ql l.blk l.half (fun k hk=>aa) (fun w1 B F o C v al am X=>by
  have T:CG (zm w x1 x2) w1 GH A N B F:=⟨o,C,v,al,am,X⟩;have U:=(aP o K).trans K;have R:=(aP o J).trans J;have P:=(aP o I).trans I;have O:=(aP o H).trans H;have ah:∀i t,(t<=uF (iE B i)/\iE B i<=20000)->t<=1000000:=fun i t ht=>by
   have z:Lib.bitLen (iE B i)<=15:=bitLen_le (pF ht.2 ai) ht.2;have ab:=ht.1;unfold uF at ab;omega
  refine⟨fun i n u=>SumB (fun i t=>t<=uF (iE B i)/\iE B i<=20000) i n/\u.heap[w.heap.size+1+1+1+1]? =some (FP (Nv B x1 x2 i))/\u.heap[w.heap.size+1+1+1]? =some (Ai ((Nv B x1 x2 i).getD (0,0,0)))/\ax (fun k=>k=w.heap.size+1+1+1+1\/k=w.heap.size+1+1+1) w1 u,⟨rfl,U,R,ax.refl _ _⟩,fun i n u f=>f.2.2.2,fun i n u f=>f.1.le ah,fun i n hi u f=>?_,fun n u f=>?_⟩
  .obtain⟨ao,q,s,d⟩:=f;have V:=bq d O aa;have W:=bq d P aa;refine(Um ((C.kept d fun k hk e=>by have:=(j.rq.1 k hk).2.2.2;omega).at hi) x1 x2 (Nv B x1 x2 i) (dV V) (dV W) q s aa).mono ?_;rintro e ar ⟨t,rfl,ht,ak,an,ac⟩;refine⟨t,rfl,⟨n,t,ao,⟨ht,?_⟩,rfl⟩,ak,an,d.trans ac⟩;unfold iE;rw[cB hi];exact(T.built _ (bF hi)).2
  .refine⟨by rw[<-Im v E.2.2.2.1];exact f.2.1,by rw[<-Im v E.2.2.2.1];exact f.2.2.1,?_⟩;have Z:=T.cost (r:=fun _=>0) (fun i t ht=>⟨bD _,by have:=ht.1;unfold uF at this;omega⟩) f.1;have z:((List.range B.length).map fun _=>0).sum=0:=by have:=Al (r:=fun _=>0) (b:=0) (fun _=>aB _) B.length;omega
   rwa [z]at Z))
 have x:∀k,GH k\/SD k\/k=Pb\/av.ownBlock=some k->k<w.heap.size:=fun k hk=>by
  rcases hk with hk|hk|hk|hk
  .exact(j.rq.1 k hk).2.2.2
  .exact(j.rq.2.1 k hk).2.2
  .omega
  .exact(j.row.lt k hk).2
 have M:ax (fun k=>k=Pb) w (zm w x1 x2):=(ax.refl _ _).below y;refine(Qm x1 x2 (fun r c u=>r=sW (A.map (·.1)) x1 x2/\uG N 0 c/\ax (fun k=>k=Pb) w u/\Ih u Pb Hb Ab base av GH SD m A D ALL N wk (wrap64 (eB+(c:Int)))) (L.mono ?_)).mono ?_
 .rintro e au ⟨B,c,u,rfl,⟨q,s,p⟩,d,rfl⟩;have ag:=bq d l.blk aa;have ad:(u.setCell (af Pb 3) (.int .i64 (wrap64 (eB+(c:Int))))).heap[Pb]? =some (Obj.cells #[aj Hb,aj Ab,av,ae (wrap64 (eB+(c:Int)))] xG (0,0)):=by
   rw[di u Pb 3 _ _ _ ag];rfl
  exact⟨_,c,rfl,(aF (a:=(af Pb 3)) (fun e:Pb=w.heap.size+1+1+1+1=>aa)).trans q,(aF (a:=(af Pb 3)) (fun e:Pb=w.heap.size+1+1+1=>aa)).trans s,(aF (a:=(af Pb 3)) (fun e:Pb=w.heap.size+1+1=>aa)).trans (bq d ap aa),rfl,p,
   ax.strip (((M.mono fun k h=>.inl h).trans (d.mono fun k h=>.inr aa)).set (a:=(af Pb 3)) (.int .i64 (wrap64 (eB+(c:Int)))) (.inl (.inl rfl))),
   (l.kept d fun k hk=>by have j:=x k hk;omega).Qk ((ax.refl (fun k=>k=Pb) u).set (a:=(af Pb 3)) (.int .i64 (wrap64 (eB+(c:Int)))) (.inl rfl)) ad⟩
 .rintro e w' ⟨r,c,u,rfl,⟨rfl,p,d,hP⟩,rfl⟩;exact⟨c,rfl,p,ax.strip (((d.drew).mono fun k h=>.inl h).FO (g:=w.heap.size+1+1) (.inr aa) _),Hb,Ab,base,av,GH,SD,A,D,ALL,hP.kept (((ax.refl (fun k=>k=w.heap.size+1+1) u).drew).FO (g:=w.heap.size+1+1) rfl _) (fun k hk=>by have:=x k hk;omega),rfl,Y⟩
end
section
variable {w:World} {Pb m:Nat} {G:Nat->Prop} {now:List Pt} {N wk eB:Int}
theorem CO (h:dN w Pb G m now N wk eB):aK 33 #[aj Pb] w (fw w (ae N)):=by
 obtain⟨Hb,Ab,base,av,GH,SD,A,D,ALL,b,rfl,i⟩:=h;have d:=ag (ko b.blk);have c:=ag (P5 b.half);have g:w.cell? (af Pb 0)=some (aj Hb):=aD b.blk;go_enter func33,ntmps33
 go_wp2_with (first|(go_at_call 55;refine d.o.mono ?_;rintro e w1 ⟨rfl,a⟩;have f:=a.symm;clear a;subst f)|(refine c.o.mono ?_;rintro e w1 ⟨rfl,a⟩))
 go_ret;exact⟨rfl,a⟩
theorem Un (h:dN w Pb G m now N wk eB):aK 31 #[aj Pb] w (fw w (ae wk)):=by
 obtain⟨Hb,Ab,base,av,GH,SD,A,D,ALL,b,rfl,i⟩:=h;have d:=ag (ko b.blk);have c:=ag (Uf b.half);have g:w.cell? (af Pb 0)=some (aj Hb):=aD b.blk;go_enter func31,ntmps31
 go_wp2_with (first|(go_at_call 55;refine d.o.mono ?_;rintro e w1 ⟨rfl,a⟩;have f:=a.symm;clear a;subst f)|(refine c.o.mono ?_;rintro e w1 ⟨rfl,a⟩))
 go_ret;exact⟨rfl,a⟩
theorem Ny (h:dN w Pb G m now N wk eB):aK 34 #[aj Pb] w fun e w'=>e=.returned (ae eB)/\w'=w:=by
 obtain⟨Hb,Ab,base,av,GH,SD,A,D,ALL,c,rfl,g⟩:=h;have f:=ag (ko c.blk);have d:=ag (RX Pb 3 eB w (aD c.blk));go_enter func34,ntmps34
 go_wp2_with (first|(go_at_call 55;refine f.o.mono ?_;rintro e w1 ⟨rfl,a⟩;have b:=a.symm;clear a;subst b)|(refine d.o.mono ?_;rintro e w1 ⟨rfl,a⟩;have b:=a.symm;clear a;subst b))
 go_ret;exact⟨rfl,rfl⟩
end
end
section
open Go.RowKit Go.Lib
theorem wh {L:List Pt} {k:Nat} (h:L.length<=k) (f:Pt->Bool):(eD (ids (L.filter f))).length<=k:=by
 rw[gV];unfold ids;rw[bR];exact bA (fO _ _) h
end
section
open Go.RowKit Go.Sort Go.Shelf Go.Lib Go.Maps
attribute [local irreducible] wpQuiet
attribute [local go_sem] Oper.fB
theorem Uo (n:Nat) (h:n<=1000):nM ((n:Int)+2)=Lib.bitLen (n+1):=by
 have:=BH (n+1) aa;rw[<-this];congr 1
theorem kV {N:Int} {T a n:Nat} (h:uG N T a) (m:N<=2*n) (e:n<=1000):T<=a/\a<=16*nM ((n:Int)+2)*nM ((n:Int)+2)+8*T+16:=by
 refine⟨h.1,?_⟩;rw[Uo n e];have⟨f,g,i⟩:=bz (n+1) aa aa;by_cases l:n=0
 .have:=h.2 0 aH;omega
 .have o:2<=Lib.bitLen (n+1):=by
   rcases Nat.lt_or_ge (Lib.bitLen (n+1)) 2 with h9|h9
   .have:(2:Nat)^Lib.bitLen (n+1)<=2^1:=Au ai aa;omega
   .exact h9
  have d:=h.2 (Lib.bitLen (n+1)+1) (by rw[nX];omega);generalize Lib.bitLen (n+1)=k at*;obtain⟨j,rfl⟩:∃j,k=j+2:=⟨k-2,aa⟩;have b:(j+2+1)*(8*(j+2+1)+1)=8*(j*j)+49*j+75:=by
   simp only[je,mV,iJ,Nat.one_mul];have:j*(8*j)=8*(j*j):=by rw[Nat.mul_left_comm]
   omega
  have c:16*(j+2)*(j+2)=16*(j*j)+64*j+64:=by
   simp only[je,mV];have:16*j*j=16*(j*j):=Nat.mul_assoc _ _ _;omega
  rw[b]at d;rw[c];omega
theorem jI {N:Int} {T a:Nat} (h:uG N T a) (b:N<=400) (c:T<=400):a<=2000:=by
 have:=h.2 9 aa;omega
theorem Kw {wk:Int} {m:Nat} (h:∀L,m<2^L->wk<=(L*m:Nat)) (c:m<=1000):wk<=((m*(nM ((m:Int)+1)+2):Nat):Int):=by
 rw[BH m aa];by_cases a:m=0
 .subst a;have:=h 0 ai;simpa using this
 .have b:=h (Lib.bitLen m) (bz m aa a).2.2;rw[je,vo m];omega
theorem Ip {n:Int} (h:n<=1002):nM n<=64:=by
 unfold nM;split
 .omega
 .exact bA (eO (show(n-1).toNat<=1001 by omega) aa) ai
theorem Ky (a b c:Int):wrap64 (wrap64 (a+b)+c)=wrap64 (a+(b+c)):=by unfold wrap64;omega
theorem CP (T a n:Nat) (x:n<=1000) (u:T<=2000) (v:a<=100000) (h:T<=a/\a<=16*nM ((n:Int)+2)*nM ((n:Int)+2)+8*T+16) (w:World):
  aK 30 #[ae T,ae a,ae n] w (fw w (.bool true)):=by
 have l:=ag (UT ((n:Int)+2) w aa);have j:=Ip (n:=(n:Int)+2) aa;generalize nM ((n:Int)+2)=k at*;have y:IntKind.i64.wrap ((n:Int)+2)=(n:Int)+2:=iQ _ aa;obtain⟨c,i⟩:∃c:Nat,c=16*k:=⟨_,rfl⟩;have t:k*k<=64*64:=Nat.mul_le_mul j j;obtain⟨b,g⟩:∃b:Nat,b=c*k:=⟨_,rfl⟩;have m:b=16*(k*k):=by rw[g,i,Nat.mul_assoc]
 obtain⟨t8,p⟩:∃t8:Nat,t8=8*T:=⟨_,rfl⟩;obtain⟨d,q⟩:∃d:Nat,d=b+t8:=⟨_,rfl⟩;obtain⟨f,r⟩:∃f:Nat,f=d+16:=⟨_,rfl⟩;have z:IntKind.i64.wrap (16*(k:Int))=(c:Int):=by rw[iQ _ aa];omega
 have A:IntKind.i64.wrap ((c:Int)*(k:Int))=(b:Int):=by
  have:((c:Int)*(k:Int))=(b:Int):=by rw[g];simp
  rw[this,iQ _ aa]
 have B:IntKind.i64.wrap (8*(T:Int))=(t8:Int):=by rw[iQ _ aa];omega
 have C:IntKind.i64.wrap ((b:Int)+(t8:Int))=(d:Int):=by rw[iQ _ aa];omega
 have D:IntKind.i64.wrap ((d:Int)+16)=(f:Int):=by rw[iQ _ aa];omega
 have d1:decide ((T:Int)<=(a:Int))=true:=aH;have d2:decide ((a:Int)<=(f:Int))=true:=by
  have:=h.2;rw[<-i,<-g]at this;simp;omega
 have d3:decide (T<=a)=true:=aH;have d4:decide (a<=f)=true:=aQ d2;clear i g m p q r h t;go_enter func30,ntmps30
 go_wp2_with (go_at_call 32;refine l.o.mono ?_;rintro e w1 ⟨rfl,s⟩)
 go_ret;exact⟨rfl,s⟩
theorem Iq (l l':List Int) (k:Nat) (h:l.take k=l'.take k) (a:k<l.length) (b:k<l'.length) (c:l[k]=l'[k]):l.take (k+1)=l'.take (k+1):=by
 rw[ic a,ic b,h,c]
theorem CQ (a a':Option Addr) (l l':List Int) (n n' c J:Nat) (w:World) (M:l.length=n) (N:l'.length=n') (h:Rd (.int .u32) w a l) (h':Rd (.int .u32) w a' l') (V:n<=1000000) (W:n'<=1000000):
  aK 15 #[.slice a n c,.slice a' n' J] w (fw w (.bool (decide (l=l')))):=by
 subst M N;have G:=ag h;have H:=ag h';clear h h';generalize m:decide (l=l')=r;have d:=ag m;clear m;by_cases j:l.length=l'.length
 .have K:((l.length:Int)!=(l'.length:Int))=false:=by simp[j]
  have z:=ag j;clear j;go_enter func15,ntmps15;go_wp2
  go_loopw [13] (fun t wr=>∃k:Nat,t=.int .i64 k/\k<=l.length/\Below w.heap.size w wr/\Hid (l.take k=l'.take k)) (fun t _=>l.length-(intOf t).toNat)
  case atStart=>exact⟨0,rfl,bD _,aI _ _,rfl⟩
  case round=>
   obtain⟨k,rfl,S,i,g⟩:=hrel;by_cases E:k<l.length
   .have F:k<l'.length:=by have:=z.o;omega
    obtain⟨b,off,A,Q,C⟩:=(G.o.below i).get aa;obtain⟨P,X,B,R,D⟩:=(H.o.below i).get aa;have Y:=C k E;have Z:=D k F;have T:(k:Int)<(l.length:Int):=aa;have U:(k:Int)<(l'.length:Int):=aa;have p:l[k]≠l'[k]->r=false:=fun O=>by
     rw[<-d.o];simp only[gT];intro e;subst e;exact O rfl
    have q:l[k]=l'[k]->Hid (l.take (k+1)=l'.take (k+1)):=fun L=>Iq l l' k g.o E F L;have x:=ag A;have y:=ag B;clear C D A B;generalize l[k]=u at*;generalize l'[k]=v at*;obtain rfl:=x.o;obtain rfl:=y.o;clear x y;by_cases f:u=v
    .have d0:(u !=v)=false:=by simp[f]
     have I:=q f;clear f p q g;go_wp2;go_region
     all_goals
      go_wp2;go_roundw
      case rel=>exact⟨k+1,by go_num,aa,i.drew,I⟩
      case measure=>exact eT
    .have d0:(u !=v)=true:=by simp[f]
     have m:=p f;subst m;clear f p q d g;go_wp2;go_region
     all_goals
      go_wp2;go_ret;exact⟨rfl,i.drew⟩
   .obtain rfl:k=l.length:=aa;have s:r=true:=by
     rw[<-d.o,bQ];have:=g.o;rw[jO,z.o,jO]at this;exact this
    subst s;clear g d;go_wp2;go_ret;exact⟨rfl,i⟩
 .have K:((l.length:Int)!=(l'.length:Int))=true:=aH;have s:r=false:=by
   rw[<-d.o,gT];rintro rfl;exact j rfl
  subst s;clear d j;go_enter func15,ntmps15;go_wp2;go_ret;exact⟨rfl,aI _ _⟩
theorem Ea:eY 55:=bO func55 aM rfl
theorem Ir:eY 56:=bO func56 aM rfl
theorem Qn:eY 57:=bO func57 aM rfl
theorem Nz:eY 59:=bO func59 aM rfl
section
variable {w w':World} {Pb Hb Ab base m:Nat} {av:Value} {G GH SD S:Nat->Prop} {A:List eX} {D:List (Int×Int)} {ALL now:List Pt} {N wk eB R6:Int}
theorem zO (h:dN w Pb G m now N wk eB) (x y d:Int) (C:d∈ids now):
  aK 12 #[aj Pb,jc x y d] w (fw w (.tuple #[ae 0,.bool false])):=by
 obtain⟨Hb,Ab,base,av,GH,SD,A,D,ALL,f,rfl,L⟩:=h;have r:Hid (∃q,(d,q)∈D):=by
  have⟨p,hp,e⟩:=dA.1 C;obtain⟨c,B,rfl⟩:=dA.1 hp;rw[<-e];exact f.bwd c B
 have s:=ag (bW w (.cells #[ae x,ae y,ak d] 29));have g:Below w.heap.size w (w.alloc (.cells #[ae x,ae y,ak d] 29)):=(aI _ _).alloc (aB _) _;have b:=ag (f.kept (S:=fun _=>False) ((ax.refl _ _).below g) fun _ _ h=>h);have j:=ag g;obtain⟨t,ac,rfl,-,-,-⟩:=bY.aJ bg ai f.row;go_enter func12,ntmps12
 go_wp2_with fail
 generalize w.alloc (.cells #[ae x,ae y,ak d] 29)=w1 at*;have u:w1.cell? (af w.heap.size 2)=some (ak d):=dV s.o;have d1:w1.cell? (af Pb 1)=some (aj Ab):=aD b.o.blk;have d2:w1.cell? (af Pb 2)=some (.slice t ALL.length ac):=aD b.o.blk;have H:=ah u;have I:=ah d1;have J:=ah d2;have i:=ag (b.o.kept (w':=w1.drew) (S:=fun _=>False) ((ax.refl _ _).drew) fun _ _ h=>h);have k:=ag (ko i.o.blk);refine lT (fun W=>∃p:aS w1,W=p.W) [14,15,16] [(0,false)] ⟨⟨_,(aI _ _).drew⟩,rfl⟩ 16 ?_;simp only[jS,uM,uO,uI,fZ,fT]
 repeat(refine iZ (fun K a=>?_);go_simp;first|(refine a _ ?_;clear a K)|(apply Exists.intro;refine⟨fun _=>?_,a _ ?_⟩;rfl;clear a K))
 refine oN ?_;refine aC 1 rfl fun K a=>?_;refine aT Ea rfl _ _ rfl (vals:=#[aj Pb]) rfl k.o ?_;rintro e w2 ⟨rfl,v⟩;subst v;refine⟨_,rfl,?_⟩;refine a _ _ (fun h _=>h) ?_;refine bf [(2,false),(3,false),(4,false),(5,false),(6,true),(7,false),(8,true),(9,false),(10,false),(11,false),(12,true),(13,false)] ⟨⟨_,(aI _ _).drew⟩,rfl⟩ rfl ?_;have⟨q,E⟩:=r.o;have l:=ag (Kq i.o.dir d (ALL.length:Int) q E);refine aC 14 rfl fun K a=>?_;refine Bq Ir rfl _ _ rfl (vals:=#[aj Ab,ak d,ae ALL.length]) rfl l.o ?_;rintro e w3 ⟨rfl,z⟩;refine⟨_,rfl,?_⟩;refine a _ _ (fun _ h=>absurd ai h) ?_;have n:=ag z;have F:=j.o.size;refine aG [15,16] ?_;go_wp2;go_ret2;exact⟨rfl,j.o.trans (((aI _ _).drew.trans n.o).mono F)⟩
def Vt (w:World) (Pb:Nat) (G:Nat->Prop) (m:Nat) (now:List Pt) (N wk eB:Int) (p:Pt) (e:Ending) (w':World):Prop:=
 ∃n:Nat,Lm N n/\e=.returned (.tuple #[ae n,.bool true])/\dN w' Pb (fun k=>G k\/w.heap.size<=k/\k<w'.heap.size) (m+1) (now++[p]) (N+1) (wk+n) eB/\ax G w w'
theorem uk (h:dN w Pb G m now N wk eB) (ap:m<5000) (x y d:Int) (bt:FX (x,y,d)) (aq:d∉ids now):
  aK 12 #[aj Pb,jc x y d] w (Vt w Pb G m now N wk eB (x,y,d)):=by
 obtain⟨Hb,Ab,base,av,GH,SD,A,D,ALL,H,rfl,bd⟩:=h;have bp:∀q,(d,q)∉D:=fun q hq=>by
  obtain⟨k,c,-,hc,-,e⟩:=H.fwd d q hq;exact aq (dA.2 ⟨c.1,dA.2 ⟨c,hc,rfl⟩,e⟩)
 have aX:=ag aq;have s:=ag bd;have bE:=H.few;have z:=ag (bW w (.cells #[ae x,ae y,ak d] 29));have Y:Below w.heap.size w (w.alloc (.cells #[ae x,ae y,ak d] 29)):=(aI _ _).alloc (aB _) _;have b:=ag (H.kept (S:=fun _=>False) ((ax.refl _ _).below Y) fun _ _ h=>h);have aE:=ag Y;have bv:=ag (ko b.o.blk);obtain⟨l,ac,rfl,-,-,-⟩:=bY.aJ bg ai H.row;have t:=ag H;go_enter func12,ntmps12
 go_wp2_with fail
 generalize w.alloc (.cells #[ae x,ae y,ak d] 29)=w1 at*;have M:w1.cell? (af w.heap.size 0)=some (ae x):=dV z.o;have O:w1.cell? (af w.heap.size 1)=some (ae y):=dV z.o;have B:w1.cell? (af w.heap.size 2)=some (ak d):=dV z.o;have d1:w1.cell? (af Pb 1)=some (aj Ab):=aD b.o.blk;have d2:w1.cell? (af Pb 2)=some (.slice l ALL.length ac):=aD b.o.blk;have ad:=ah B;have bw:=ah d1;have al:=ah d2;have R:=ag (b.o.kept (w':=w1.drew) (S:=fun _=>False) ((ax.refl _ _).drew) fun _ _ h=>h);have aw:=ag (ko R.o.blk);refine lT (fun W=>∃p:aS w1,W=p.W) [14,15,16] [(0,false)] ⟨⟨_,(aI _ _).drew⟩,rfl⟩ 16 ?_;simp only[jS,uM,uO,uI,fZ,fT]
 repeat(refine iZ (fun K g=>?_);go_simp;first|(refine g _ ?_;clear g K)|(apply Exists.intro;refine⟨fun _=>?_,g _ ?_⟩;rfl;clear g K))
 refine oN ?_;refine aC 1 rfl fun K g=>?_;refine aT Ea rfl _ _ rfl (vals:=#[aj Pb]) rfl aw.o ?_;rintro e w2 ⟨rfl,a8⟩;subst a8;refine⟨_,rfl,?_⟩;refine g _ _ (fun h _=>h) ?_;refine bf [(2,false),(3,false),(4,false),(5,false),(6,true),(7,false),(8,true),(9,false),(10,false),(11,false),(12,true),(13,false)] ⟨⟨_,(aI _ _).drew⟩,rfl⟩ rfl ?_;have az:=ag (Qi R.o.dir R.o.hb ap d (ALL.length:Int) bp);refine aC 14 rfl fun K g=>?_;refine Bq Ir rfl _ _ rfl (vals:=#[aj Ab,ak d,ae ALL.length]) rfl az.o ?_;rintro e w3 ⟨rfl,bc,bs⟩;refine⟨_,rfl,?_⟩;refine g _ _ (fun _ h=>absurd ai h) ?_;have u:ax SD w1 w3:=((ax.refl _ w1).drew).trans bs.Uk;have bK:=u.size;have aL:=ag bc.clip;have aO:=ag (b.o.half.kept u fun k hk=>(b.o.rq.1 k hk).1);have bj:=bq u b.o.blk (fun h9=>(b.o.rq.2.1 Pb h9).1 rfl);have br:=aR b.o.row u (fun E e h9=>(b.o.rq.2.1 E h9).2.1 e);have bJ:=(aY.1 z.o).1;have L:=ag (bq u z.o (fun h9=>by have:=(t.o.rq.2.1 _ h9).2.2;omega));have T:=ag bj;have aZ:=ag br;have aV:=ag u;refine aG [15,16] ?_
 go_wp2_with fail
 have M:w3.cell? (af w.heap.size 0)=some (ae x):=dV L.o;have O:w3.cell? (af w.heap.size 1)=some (ae y):=dV L.o;have B:w3.cell? (af w.heap.size 2)=some (ak d):=dV L.o;have d2:w3.cell? (af Pb 2)=some (.slice l ALL.length ac):=aD T.o;have a9:=ah M;have ba:=ah O;have ad:=ah B;have al:=ah d2;refine au (fun W=>∃p:aS w3,W=p.W) [7,8,9,10] [(0,false),(1,false),(2,false),(3,false),(4,true),(5,true)] ⟨⟨_,(aI _ _).drew⟩,rfl⟩ 5 ?_;refine aC 6 rfl fun K g=>?_;go_simp;refine g _ _ (fun _ _=>⟨⟨_,((aI _ w3).alloc (aB _) _).drew⟩,rfl⟩) ?_;refine aC 7 rfl fun K g=>?_;refine bC OY 0 (aR (S:=fun _=>False) aZ.o (((ax.refl _ _).alloc _).drew) (fun _ _ h=>h)) [.int .i64 x,.int .i64 y,.int .u32 d] rfl (by simp[Value.oneCell']) rfl (.tmp 27) (.tmp 29) rfl rfl _ rfl (jr _ _) dJ aa (bD _) ?_;intro f r w4 bb bl bk bm;refine g _ _ (fun _ h=>absurd ai h) ?_;have an:Value.ownBlock (.slice l ALL.length ac)=some f\/w3.heap.size<=f:=bk.imp id fun e=>by rw[e];simp
 have J:ax (fun k=>Value.ownBlock (.slice l ALL.length ac)=some k) w3 w4:=((((ax.refl _ w3).alloc _).drew)).grown bl fun k e=>.inl e;have bL:=J.size;have bB:=(aY.1 T.o).1;have X:=bq J T.o b.o.rq.2.2;have a4:=ag (bq J L.o (fun e=>by have:=(t.o.row.lt _ e).2;omega));have bN:w4.cell? (af Pb 2)=some (.slice l ALL.length ac):=aD X;have f4:w4.frozen? (af Pb 2)=false:=aD X;have bo:f≠Pb:=fun e=>an.elim (fun h=>b.o.rq.2.2 (by rw[h,e])) fun h=>aa;have bi:(w4.setCell (af Pb 2) (aA f (ALL.length+1) r)).heap[Pb]? =some (Obj.cells #[aj Hb,aj Ab,aA f (ALL.length+1) r,ae eB] xG (0,0)):=by
  rw[di w4 Pb 2 _ _ _ X];rfl
 have a3:ax (fun k=>Value.ownBlock (.slice l ALL.length ac)=some k\/k=Pb) w3 (w4.setCell (af Pb 2) (aA f (ALL.length+1) r)):=(J.mono fun k h=>.inl h).set _ (.inl (.inr rfl));have a6:=aR bb ((ax.refl (fun k=>k=Pb) w4).set (a:=(af Pb 2)) (aA f (ALL.length+1) r) (.inl rfl)) (fun E e h=>bo (by have C:f=E:=(by injection e);rw[C];exact h));have a5:(w4.setCell (af Pb 2) (aA f (ALL.length+1) r)).heap[w.heap.size]? =_:=(aF (a:=(af Pb 2)) (fun e:Pb=w.heap.size=>by have:=(aY.1 t.o.blk).1;omega)).trans a4.o;have bu:(w4.setCell (af Pb 2) (aA f (ALL.length+1) r)).heap.size=w4.heap.size:=ay;have Z:=ag bi;have U:=ag a3;have a0:=ag a6;have V:=ag a5;have a1:=ag bu;have aN:=ag an;have aW:=ag bm;refine aG [8,9,10] ?_
 go_wp2_with fail
 generalize w4.setCell (af Pb 2) (aA f (ALL.length+1) r)=j at*;have aP:=ag (aO.o.kept U.o fun k hk h9=>by
  have P:=b.o.rq.1 k hk;rcases h9 with h9|h9
  .exact P.2.2.1 h9
  .exact P.2.1 h9)
 have M:j.cell? (af w.heap.size 0)=some (ae x):=dV V.o;have O:j.cell? (af w.heap.size 1)=some (ae y):=dV V.o;have B:j.cell? (af w.heap.size 2)=some (ak d):=dV V.o;have d0:j.cell? (af Pb 0)=some (aj Hb):=aD Z.o;have a9:=ah M;have ba:=ah O;have ad:=ah B;have al:=ah d0;have ar:=ag (Ue (w:=j.drew) (aP.o.kept (S:=fun _=>False) ((ax.refl _ j).drew) fun _ _ h=>h) ap x y d bt aX.o);refine au (fun W=>∃p:aS j,W=p.W) [5,6,7,8,9] [(0,false),(1,false),(2,false),(3,true),(4,true)] ⟨⟨_,(aI _ _).drew⟩,rfl⟩ 5 ?_;refine aC 5 rfl fun K g=>?_;refine aT Qn rfl _ _ rfl (vals:=#[aj Hb,jc x y d]) rfl ar.o ?_;rintro e w6 ⟨n,q,bn,rfl,be,bh⟩;refine⟨_,rfl,?_⟩;refine g _ _ (fun _ h=>absurd ai h) ?_;have aU:=ag be.clip;have v:Hid (ax GH j w6):=((ax.refl _ j).drew).trans bh;refine fV (fun _=>True) [8,9] aM ?_;refine bf [(6,false),(7,false)] trivial rfl ?_;refine aG [8,9] ?_;go_wp2;go_ret2;have bM:=v.o.size;have bI:=a1.o;have i:=b.o.rq;have bz:=(aY.1 b.o.blk).1;have am:∀k,Value.ownBlock (.slice l ALL.length ac)=some k->k<w1.heap.size:=fun k e=>(b.o.row.lt k e).2;have I:∀k,Value.ownBlock (aA f (ALL.length+1) r)=some k->(Value.ownBlock (.slice l ALL.length ac)=some k\/w3.heap.size<=k)/\k<w4.heap.size:=fun k e=>by
  have C:f=k:=by injection e
  subst C;exact⟨aN.o,aW.o⟩
 have bF:w1.drew.heap.size=w1.heap.size:=rfl;have bG:j.drew.heap.size=j.heap.size:=rfl;have a2:ax (fun k=>(Value.ownBlock (.slice l ALL.length ac)=some k\/k=Pb)\/GH k) w3 w6:=(U.o.mono fun k h=>.inl h).trans (v.o.mono fun k h=>.inr h);have ao:∀k,Value.ownBlock (aA f (ALL.length+1) r)=some k->¬GH k:=fun k e h=>by
  rcases(I k e).1 with h9|h9
  .exact(i.1 k h).2.2.1 h9
  .have:=(i.1 k h).2.2.2;omega
 refine⟨n,bn,rfl,⟨Hb,Ab,base,_,_,_,_,D++[(d,(ALL.length:Int))],ALL++[(x,y,d)],⟨bq v.o Z.o (fun h=>(i.1 Pb h).2.1 rfl),?_,aU.o,aL.o.kept a2 ?_,bA t.o.hb aa,aH,?_,?_,⟨fun k hk=>?_,fun k hk=>?_,?_⟩⟩,ay,fun k hk=>?_⟩,?_⟩
 .have P:=aR a0.o v.o (fun E e=>ao E e);rw[bS,gX];exact P
 .rintro k ⟨hk,bH⟩ h9;rcases hk with hk|hk
  .rcases h9 with(h9|h9)|h9
   .exact(i.2.1 k hk).2.1 h9
   .exact(i.2.1 k hk).1 h9
   .exact(i.1 k h9).1 hk
  .rcases h9 with(h9|h9)|h9
   .have:=am k h9;omega
   .omega
   .have:=(i.1 k h9).2.2.2;omega
 .intro id Q hq;rcases bT.1 hq with hq|hq
  .obtain⟨k,c,a7,hc,ab,C⟩:=t.o.fwd id Q hq;exact⟨k,c,a7,IX _ hc,by rw[lW (fH.1 ab).1];exact ab,C⟩
  .obtain⟨rfl,rfl⟩:id=d/\Q=(ALL.length:Int):=aQ hq;exact⟨ALL.length,((x,y,id),q),rfl,ay,ay,rfl⟩
 .intro c hc;rcases bT.1 hc with hc|hc
  .obtain⟨Q,hq⟩:=t.o.bwd c hc;exact⟨Q,IX _ hq⟩
  .obtain rfl:c=((x,y,d),q):=aQ hc;exact⟨_,List.mem_append_right _ nT⟩
 .refine⟨?_,?_,fun e=>?_,hk.2⟩
  .rintro⟨h9,bx⟩;rcases hk.1 with vG|vG
   .rcases h9 with h9|h9
    .exact(i.1 k vG).1 h9
    .have:=(i.1 k vG).2.2.2;omega
   .omega
  .rintro rfl;rcases hk.1 with vG|vG
   .exact(i.1 k vG).2.1 rfl
   .omega
  .rcases hk.1 with vG|vG
   .exact ao k e vG
   .have:=(I k e).2;omega
 .refine⟨?_,fun e=>?_,by have:=hk.2;omega⟩
  .rintro rfl;rcases hk.1 with vG|vG
   .exact(i.2.1 k vG).1 rfl
   .omega
  .have F:=hk.2;rcases(I k e).1 with h9|h9
   .rcases hk.1 with vG|vG
    .exact(i.2.1 k vG).2.1 h9
    .have:=am k h9;omega
   .omega
 .intro e;rcases(I Pb e).1 with h9|h9
  .exact i.2.2 h9
  .omega
 .rcases hk with⟨hk,F⟩|⟨hk,F⟩|rfl|hk
  .rcases hk with hk|hk
   .exact .inl (s.o k (.inl hk))
   .exact .inr ⟨aa,F⟩
  .rcases hk with hk|hk
   .exact .inl (s.o k (.inr (.inl hk)))
   .exact .inr ⟨aa,aa⟩
  .exact .inl (s.o k (.inr (.inr (.inl rfl))))
  .have F:=I k hk;rcases F.1 with h9|h9
   .exact .inl (s.o k (.inr (.inr (.inr h9))))
   .exact .inr ⟨aa,aa⟩
 .refine((((ax.refl G w).below aE.o).trans (aV.o.mono fun k h=>s.o k (.inr (.inl h)))).trans (U.o.mono fun k h=>?_)).trans (v.o.mono fun k h=>s.o k (.inl h));rcases h with h|h
  .exact s.o k (.inr (.inr (.inr h)))
  .exact s.o k (.inr (.inr (.inl h)))
end
section
variable {w w':World} {Pb Hb Ab base m:Nat} {av:Value} {G GH SD S:Nat->Prop} {A:List eX} {D:List (Int×Int)} {ALL now:List Pt} {N wk eB R6:Int}
theorem NA (h:dN w Pb G m now N wk eB) (d:Int) (p:d∉ids now):
  aK 13 #[aj Pb,ak d] w (fw w (.tuple #[ae 0,.bool false])):=by
 obtain⟨Hb,Ab,base,av,GH,SD,A,D,ALL,a,rfl,t⟩:=h;have r:∀q,(d,q)∉D:=fun q s=>by
  obtain⟨k,c,-,n,-,e⟩:=a.fwd d q s;exact p (dA.2 ⟨c.1,dA.2 ⟨c,n,rfl⟩,e⟩)
 have i:=ag (ko a.blk);have g:=ag (Qj a.dir d r);have d1:w.cell? (af Pb 1)=some (aj Ab):=aD a.blk;go_enter func13,ntmps13
 go_wp2_with (first|(go_at_call 55;refine i.o.mono ?_;rintro e w1 ⟨rfl,b⟩;have l:=b.symm;clear b;subst l)|(go_at_call 58;refine g.o.mono ?_;rintro e w1 ⟨rfl,f⟩;have j:=ag f;clear f))
 go_ret2;exact⟨rfl,j.o⟩
def Vu (w:World) (Pb:Nat) (G:Nat->Prop) (m:Nat) (now:List Pt) (N wk eB:Int) (p:Pt) (e:Ending) (w':World):Prop:=
 ∃(n:Nat) (N':Int),e=.returned (.tuple #[ae n,.bool true])/\dN w' Pb (fun k=>G k\/w.heap.size<=k/\k<w'.heap.size) (m+1) (now.filter fun q=>decide (q≠p)) N' (wk+n) eB/\ax G w w'/\Wn (now.filter fun q=>decide (q≠p)).length N N' n
theorem wm (h:dN w Pb G m now N wk eB) (aU:m<5000) (x y d:Int) (P:(x,y,d)∈now):
  aK 13 #[aj Pb,ak d] w (Vu w Pb G m now N wk eB (x,y,d)):=by
 obtain⟨Hb,Ab,base,av,GH,SD,A,D,ALL,g,rfl,aF⟩:=h;have⟨c,u,O⟩:=dA.1 P;have aP:=g.half.facts.2.2.2.1;have Q:∀f∈A,f.1.2.2=d->f.1=(x,y,d):=fun f j e=>by
  have aB:(A.map (·.1)).Pairwise fun p q=>p.2.2≠q.2.2:=dz.1 aP;rcases fo aB (rC j) P with h1|h1|h1
  .exact h1
  .exact absurd e h1
  .exact absurd e.symm h1
 have⟨q,i⟩:=g.bwd c u;rw[O]at i;obtain⟨k,f,rfl,j,hk,hid⟩:=g.fwd d q i;rw[Q f j hid]at hk;have F:=(fH.1 hk).1;have ao:=ag Q;have Y:=ag u;have Z:=ag O;have am:=ag hk;have l:=ag aF;have V:=ag (ko g.blk);have U:=ag (Ns g.dir g.hb d (k:Int) i);have d1:w.cell? (af Pb 1)=some (aj Ab):=aD g.blk;have a:=ag g;have a8:=g.few;go_enter func13,ntmps13
 go_wp2_with (go_at_call 55;refine V.o.mono ?_;rintro e w1 ⟨rfl,J⟩;have aA:=J.symm;clear J;subst aA)
 refine U.o.mono ?_;rintro e w3 ⟨rfl,aE,aW⟩;have s:=aW.Uk;have ab:=ag aE.clip;have ae:=ag (a.o.half.kept s fun k hk=>(a.o.rq.1 k hk).1);have C:=bq s a.o.blk (fun h9=>(a.o.rq.2.1 Pb h9).1 rfl);have R:=aR a.o.row s (fun B e h9=>(a.o.rq.2.1 B h9).2.1 e);have be:=s.size;have X:=ag C;have ap:=ag R;have an:=ag s
 go_wp2_with fail
 obtain⟨aX,ac,az,-,-,aV⟩:=bY.aJ bg ai R;have⟨aZ,a0,ay,a9,E⟩:=aV.get aa;have I:=E k F 0 aa;have x1:=E k F 1 aa;have x2:=E k F 2 aa;have⟨bd,aQ⟩:=fH.1 am.o;rw[aQ]at I x1 x2;simp only[dw,fZ,dC,dK]at I x1 x2;have d0:w3.cell? (af Pb 0)=some (aj Hb):=aD C;have d2:w3.cell? (af Pb 2)=some av:=aD C;rw[az,ay]at d2;have bc:(k:Int)<(ALL.length:Int):=aa;have a1:=ah d0;have a2:=ah d2;have a3:=ah I;have a4:=ah x1;have a5:=ah x2;have T:=ag (RV (w:=w3.drew) (ae.o.kept (S:=fun _=>False) ((ax.refl _ w3).drew) fun _ _ h=>h) aU c Y.o x y d Z.o);refine au (fun W=>∃p:aS w3,W=p.W) [11,12,13,14,15] [(0,false),(1,false),(2,false),(3,true),(4,false),(5,false),(6,false),(7,true),(8,false),(9,false),(10,true)] ⟨⟨_,(aI _ _).drew⟩,rfl⟩ 5 ?_;refine aC 11 rfl fun K aL=>?_;refine aT Nz rfl _ _ rfl (vals:=#[aj Hb,jc x y d]) rfl T.o ?_;rintro e w6 ⟨n,aq,rfl,aH,aN,aO⟩;have ad:=ag aO;refine⟨_,rfl,?_⟩;refine aL _ _ (fun _ h=>absurd ai h) ?_;have al:=ag aH.clip;have r:Hid (ax GH w3 w6):=((ax.refl _ w3).drew).trans aN;refine fV (fun _=>True) [14,15] aM ?_;refine bf [(12,false),(13,false)] trivial rfl ?_;refine aG [14,15] ?_;go_wp2;go_ret2;have bh:=r.o.size;have b:=a.o.rq;have ba:w3.drew.heap.size=w3.heap.size:=rfl;have a7:=(aY.1 a.o.blk).1;have M:∀k,av.ownBlock=some k->k<w.heap.size:=fun k e=>(a.o.row.lt k e).2;refine⟨n,aq,rfl,⟨Hb,Ab,base,av,_,_,_,D.filter fun z=>decide (z.1≠d),ALL,⟨bq r.o X.o (fun h=>(b.1 Pb h).2.1 rfl),aR ap.o r.o (fun B e h=>(b.1 B h).2.2.1 e),al.o,(ab.o.mono (fun k h=>h) (Nat.le_succ _)).kept r.o ?_,bA a.o.hb aa,aa,?_,?_,⟨fun k hk=>?_,fun k hk=>?_,b.2.2⟩⟩,?_,fun k hk=>?_⟩,?_,?_⟩
 .rintro k ⟨hk,bb⟩ h9;rcases hk with hk|hk
  .exact(b.1 k h9).1 hk
  .have:=(b.1 k h9).2.2.2;omega
 .intro id H i;have⟨i,t⟩:=bG.1 i;have⟨k,f,ar,u,aw,v⟩:=a.o.fwd id H i;refine⟨k,f,ar,bG.2 ⟨u,?_⟩,aw,v⟩;simp only[bQ]at t |-;intro e;rw[e]at v;exact t v.symm
 .intro f j;have⟨j,t⟩:=bG.1 j;have⟨H,i⟩:=a.o.bwd f j;refine⟨H,bG.2 ⟨i,?_⟩⟩;simp only[bQ]at t |-;exact fun e=>t (ao.o f j e)
 .refine⟨?_,?_,fun e=>?_,hk.2⟩
  .rintro⟨h9,a6⟩;rcases hk.1 with vG|vG
   .rcases h9 with h9|h9
    .exact(b.1 k vG).1 h9
    .have:=(b.1 k vG).2.2.2;omega
   .omega
  .rintro rfl;rcases hk.1 with vG|vG
   .exact(b.1 k vG).2.1 rfl
   .omega
  .rcases hk.1 with vG|vG
   .exact(b.1 k vG).2.2.1 e
   .have:=M k e;omega
 .refine⟨?_,fun e=>?_,by have:=hk.2;omega⟩
  .rintro rfl;rcases hk.1 with vG|vG
   .exact(b.2.1 k vG).1 rfl
   .omega
  .rcases hk.1 with vG|vG
   .exact(b.2.1 k vG).2.1 e
   .have:=M k e;omega
 .rw[yc];rfl
 .rcases hk with⟨hk,L⟩|⟨hk,L⟩|rfl|hk
  .rcases hk with hk|hk
   .exact .inl (l.o k (.inl hk))
   .exact .inr ⟨aa,L⟩
  .rcases hk with hk|hk
   .exact .inl (l.o k (.inr (.inl hk)))
   .exact .inr ⟨aa,aa⟩
  .exact .inl (l.o k (.inr (.inr (.inl rfl))))
  .exact .inl (l.o k (.inr (.inr (.inr hk))))
 .exact(an.o.mono fun k h=>l.o k (.inr (.inl h))).trans (r.o.mono fun k h=>l.o k (.inl h))
 .rw[yc,bR];exact ad.o
end
end
section
open Go.RowKit Go.Maps
theorem zn {l:List Pt}:(bP l).length<=l.length:=by
 have a:(bP l).length<=(eZ l).length:=by unfold bP Ga;exact fO _ _
 rw[(dQ l).length_eq]at a;exact a
theorem CR (A B:List Pt) (p:Pt):uy (A++B) p=(uy A p||uy B p):=by unfold uy;rw[List.any_append]
theorem nI.self {l T:List Pt} (h:nI l T):nI T T:=⟨h.1,fun p=>⟨fun hp=>⟨hp,by rw[wH h];exact((h.2 p).1 hp).2⟩,fun hp=>hp.1⟩⟩
theorem FR {l:List Pt} (hu:lK l=true) {p:Pt} (h:p∈bP l):p∈l:=((lu ((iy l).1 hu)).2 p).1 h|>.1
theorem FU {l:List Pt} (hu:lK l=true):lK (bP l)=true:=by
 rw[iy]at*;have a:(ids (eZ l)).Nodup:=((dQ l).map _).nodup_iff.2 hu;unfold bP Ga;exact a.sublist (List.Sublist.map _ Eo)
theorem CS {l:List Pt} (hu:lK l=true):kg (bP l)=true:=by
 unfold kg;rw[(Gb _).2 (lu ((iy l).1 hu)).self,FU hu];rfl
theorem Lx {l:List Pt} (hu:lK l=true) (h:Le l):Le (bP l):=fun p hp=>h p (FR hu hp)
theorem xI {A B:List Pt}:lK (A++B)=true↔lK A=true/\lK B=true/\∀p∈A,∀q∈B,p.2.2≠q.2.2:=by
 simp only[iy,ids,bM,pG,dA];refine and_congr Iff.rfl (and_congr Iff.rfl ⟨fun h p hp q a=>h _ ⟨p,hp,rfl⟩ _ ⟨q,a,rfl⟩,?_⟩);rintro h _ ⟨p,hp,rfl⟩ _ ⟨q,a,rfl⟩;exact h p hp q a
theorem Eb {A B:List Pt} (h:lK (A++B)=true):lK (bP A++bP B)=true:=by
 rw[xI]at*;exact⟨FU h.1,FU h.2.1,fun p hp q a=>h.2.2 p (FR h.1 hp) q (FR h.2.1 a)⟩
theorem Ec {l m:List Pt} (b:lK l=true) (c:lK m=true) (h:∀p,(p∈l/\uy l p=false)↔(p∈m/\uy m p=false)):bP l=bP m:=by
 have a:=lu ((iy _).1 b);exact nI.unique (l:=m) ⟨a.1,fun p=>(a.2 p).trans (h p)⟩ (lu ((iy _).1 c))
theorem Qo {A B:List Pt} (h:lK (A++B)=true):bP (bP A++bP B)=bP (A++B):=by
 have d:=(xI.1 h).1;have e:=(xI.1 h).2.1;have b:=lu ((iy _).1 d);have c:=lu ((iy _).1 e);refine Ec (Eb h) h fun p=>?_;rw[CR,CR,wH b,wH c,bT,bT,b.2 p,c.2 p,Bool.or_eq_false_iff];constructor
 .rintro⟨h1|h1,a⟩
  .exact⟨.inl h1.1,a⟩
  .exact⟨.inr h1.1,a⟩
 .rintro⟨h1|h1,a⟩
  .exact⟨.inl ⟨h1,a.1⟩,a⟩
  .exact⟨.inr ⟨h1,a.2⟩,a⟩
theorem R8:bP []=[]:=by simp[bP,Ga,eZ]
end
end Go.Proofs.YtkjdbndekceffaaGreat
