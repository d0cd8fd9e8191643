/- Made small by a program. -/
import Derived.Test.YtkjdbndekceffaaGreatV18
set_option linter.unusedSimpArgs false
set_option linter.unusedVariables false
set_option maxRecDepth 100000
set_option maxHeartbeats 16000000
namespace Go.Proofs.YtkjdbndekceffaaGreat
open Tryz
section
open Go.RowKit Go.Sort Go.Shelf Go.Lib Go.Maps
attribute [local irreducible] wpQuiet
def dN (B:List (Nat×Nat×List Pt)) (i:Nat):List Pt:=(B[i]?.getD (0,0,[])).2.2
def iQ (B:List (Nat×Nat×List Pt)) (i:Nat):Nat:=(B[i]?.getD (0,0,[])).2.1
theorem Li {α b:Type} (B:List α) (d:α) (g:α->List b):(List.range B.length).flatMap (fun i=>g (B[i]?.getD d))=B.flatMap g:=by
 rw[BP,BP];congr 1;refine sO ax fun i c a=>?_;rw[bK]at a;rw[gq,gq,yS,cK a,ic]
theorem Ad (B:List (Nat×Nat×List Pt)) {a:Type} (g:List Pt->List a):(List.range B.length).flatMap (fun i=>g (dN B i))=B.flatMap fun b=>g b.2.2:=Li B (0,0,[]) fun b=>g b.2.2
theorem ER {α b:Type} {g h:α->List b}:∀(l:List α),(∀a,(g a).Perm (h a))->(l.flatMap g).Perm (l.flatMap h)
 |[],_=>.refl _
 |a::l,H=>by
  rw[mE,mE];exact(H a).append (ER l H)
theorem Lj {B:List (Nat×Nat×List Pt)} {now:List Pt} (hp:(ja B).Perm now) (f:Pt->Bool):dh ((List.range B.length).flatMap fun i=>dh (ids ((dN B i).filter f)))=dh (ids (now.filter f)):=by
 rw[Ad B fun l=>dh (ids (l.filter f))];refine xP (lY _) ((pg _ _).trans ?_);have a:(ids ((ja B).filter f)).Perm (ids (now.filter f)):=(hp.filter f).map _;refine a.symm.trans ?_;unfold ja ids;rw[List.filter_flatMap,List.map_flatMap];exact ER B fun b=>(pg _ _).symm
theorem wZ {B:List (Nat×Nat×List Pt)} {now:List Pt} (hp:(ja B).Perm now) (f:Pt->Bool):((List.range B.length).map fun i=>((dN B i).filter f).length).sum=(now.filter f).length:=by
 rw[<-(hp.filter f).length_eq];unfold ja;rw[List.filter_flatMap,<-Ad B fun l=>l.filter f,List.length_flatMap]
theorem SumB.two {bd:Nat->Nat->Prop} {r:Nat->Nat} {b:Nat} (c:∀i t,bd i t->r i<=t/\t<=2*r i+b):∀{i n:Nat},SumB bd i n->((List.range i).map r).sum<=n/\n<=2*((List.range i).map r).sum+i*b
 |0,n,a=>by simp[SumB]at a;subst a;simp
 |i+1,n,a=>by
  obtain⟨n',t,d,f,rfl⟩:=a;have g:=SumB.two c d;have h:=c i t f;have e:([i].map r).sum=r i:=ax;rw[qB,bJ,sS,e,nE i 1 b];omega
def yB (N:Int) (L uY:Nat):Prop:=L<=uY/\∀K:Nat,N<((2^K:Nat):Int)->uY<=2*L+K*(8*K+1)
theorem bitLen_le {n K:Nat} (h:n<2^K) (f:n<=20000):Lib.bitLen n<=K:=by
 by_cases a:n=0
 .subst a;exact aT _
 .obtain⟨c,b,d⟩:=bD n aa a;have e:Lib.bitLen n-1<K:=(JF (by decide:1<2)).1 (qw b h);omega
section
variable {w w1:World} {Pb m:Nat} {G GH:Nat->Prop} {now:List Pt} {A:List fB} {N wk eT:Int} {B:List (Nat×Nat×List Pt)} {F:Nat->Nat->Prop}
theorem DC.cost (T:DC w w1 GH A N B F) {r:Nat->Nat} {bd:Nat->Nat->Prop} (g:∀i t,bd i t->r i<=t/\t<=2*r i+(8*Lib.bitLen (iQ B i)+1)) {n:Nat} (j:SumB bd B.length n):yB N ((List.range B.length).map r).sum n:=by
 have c:∀i,iQ B i<=20000/\∀K:Nat,N<((2^K:Nat):Int)->iQ B i<2^K:=fun i=>by
  unfold iQ;by_cases hi:i<B.length
  .rw[cK hi];have a:=T.built _ (bC hi);refine⟨a.2,fun K f=>?_⟩;simp only[ic];omega
  .rw[o9 aa];exact⟨aT _,fun K _=>qK ai⟩
 refine⟨(SumB.two (r:=r) (b:=2000) (fun i t h=>?_) j).1,fun K f=>?_⟩
 .have a:=g i t h;have d:Lib.bitLen (iQ B i)<=15:=bitLen_le (qw (c i).1 ai) (c i).1;omega
 .have a:=(SumB.two (r:=r) (b:=8*K+1) (fun i t h=>by
   have a:=g i t h;have d:=bitLen_le ((c i).2 K f) (c i).1;omega) j).2
  have d:B.length<=K:=by
   by_cases k:B.length=0
   .omega
   .have e:=T.log k;have l:((2:Int)^(B.length-1))=((2^(B.length-1):Nat):Int):=ax;rw[l]at e;have m:(2:Nat)^(B.length-1)<2^K:=aa;have o:=(JF (by decide:1<2)).1 m;omega
  have e:=oz (8*K+1) d;omega
def DD (w:World) (Pb:Nat) (G:Nat->Prop) (m:Nat) (now:List Pt) (N wk eT:Int) (L:List Int) (e:Ending) (w':World):Prop:=
 ∃(v:Value) (uY:Nat),e=.returned (.tuple #[v,ae uY])/\w'.ownsRow w.heap.size 27 1 v L.length (L.map (Value.int .u32))/\yB N L.length uY/\aB (fun k=>k=Pb) w w'/\dG w' Pb G m now N wk (wrap64 (eT+uY))
def DF (w:World) (Pb:Nat) (G:Nat->Prop) (m:Nat) (now:List Pt) (N wk eT:Int) (r:Value) (e:Ending) (w':World):Prop:=
 ∃uY:Nat,e=.returned (.tuple #[r,ae uY])/\yB N 0 uY/\aB (fun k=>k=Pb) w w'/\dG w' Pb G m now N wk (wrap64 (eT+uY))
theorem nS.at (W:nS w G F B) {i:Nat} (hi:i<B.length):Bk w (F i) B[i].1 (iQ B i) (dN B i):=by
 have h:=W.bk i hi;unfold iQ dN;rwa [cK hi]
theorem nS.few (W:nS w G F B) (f:Pt->Bool) (i:Nat):((dN B i).filter f).length<=20000:=by
 refine bA (fq _ _) ?_;by_cases hi:i<B.length
 .obtain⟨lo,m0,m1,m2,m3,m4,a,bx,cn,hp,lw,ob,tl,sv,dn,h⟩:=W.at hi;have:=h.box.Gt;omega
 .unfold dN;rw[o9 aa];simp
theorem nS.XC (hp:(ja B).Perm (A.map (·.1))) (d:∀c∈A,GU c.1) (i:Nat):Rw (dN B i):=fun p a=>by
 have b:p∈ja B:=by
  unfold dN at a;by_cases hi:i<B.length
  .rw[cK hi]at a;exact yX.2 ⟨_,bC hi,a⟩
  .rw[o9 aa]at a;simp at a
 obtain⟨c,e,rfl⟩:=dD.1 (hp.mem_iff.1 b);exact d c e
theorem Ll {fn:FuncId} {cs:Array Value} (f:Pt->Bool) (q:∀args w,(callFunc fn args).run prog w=.ok (.enter fn args) w) (h:dG w Pb G m now N wk eT)
  (ask:∀(u:World) (F:Nat->Prop) (tb n0:Nat) (l:List Pt),Below w.heap.size w u->Bk u F tb n0 l->Rw l->aK fn (#[aj tb]++cs) u fun e d=>∃(v:Value) (t:Nat),e=.returned (.tuple #[v,ae t])/\((dh (ids (l.filter f))).length<=t/\t<=2*(dh (ids (l.filter f))).length+(8*Lib.bitLen n0+1))/\d.ownsRow u.heap.size 27 1 v (dh (ids (l.filter f))).length ((dh (ids (l.filter f))).map (Value.int .u32))/\Below u.heap.size u d):
  aK 65 #[aj Pb,.func (.func fn) #[] cs] w (DD w Pb G m now N wk eT (dh (ids (now.filter f)))):=by
 obtain⟨Hb,Ab,base,av,GH,SD,A,D,ALL,a,rfl,s⟩:=h;have x:=a.half.facts.2.2.2.2.1;refine(Tp (Q:=fun L n=>L=dh (ids ((A.map (·.1)).filter f))/\yB N L.length n) q a.blk a.half (fun k E=>(a.si.1 k E).2.2.2) ?_).mono ?_
 .intro w1 B F T;have p:∀i,(dh (ids ((dN B i).filter f))).length=((dN B i).filter f).length:=fun i=>by rw[dY];exact bK _
  have o:=fun i=>T.wd.few f i;refine⟨fun i=>dh (ids ((dN B i).filter f)),fun i t=>(dh (ids ((dN B i).filter f))).length<=t/\t<=2*(dh (ids ((dN B i).filter f))).length+(8*Lib.bitLen (iQ B i)+1)/\iQ B i<=20000,fun i t ht=>?_,fun i=>by rw[p];exact o i,fun i hi u b y=>?_,fun n H=>⟨Lj T.perm f,?_⟩⟩
  .have g:=o i
   replace ht:(dh (ids ((dN B i).filter f))).length<=t/\t<=2*(dh (ids ((dN B i).filter f))).length+(8*Lib.bitLen (iQ B i)+1)/\iQ B i<=20000:=ht
   have j:Lib.bitLen (iQ B i)<=15:=bitLen_le (qw ht.2.2 ai) ht.2.2;rw[p]at ht;omega
  .refine(ask u (F i) B[i].1 (iQ B i) (dN B i) b (y.at hi) (nS.XC T.perm x i)).mono ?_;rintro e d ⟨v,t,rfl,ht,c,z⟩;refine⟨v,t,rfl,⟨ht.1,ht.2,?_⟩,c,z⟩;unfold iQ;rw[cK hi];exact(T.built _ (bC hi)).2
  .have g:=T.cost (r:=fun i=>(dh (ids ((dN B i).filter f))).length) (fun i t ht=>⟨ht.1,ht.2.1⟩) H;have j:(dh ((List.range B.length).flatMap fun i=>dh (ids ((dN B i).filter f)))).length=((List.range B.length).map fun i=>(dh (ids ((dN B i).filter f))).length).sum:=by rw[dY,List.length_flatMap]
   rw[j];exact g
 .rintro e w' ⟨v,L,I,rfl,c,⟨rfl,C⟩,K,b⟩;exact⟨v,I,rfl,c,C,K,Hb,Ab,base,av,GH,SD,A,D,ALL,a.Rb K b,rfl,s⟩
theorem Ae {fn:FuncId} {cs:Array Value} (r:List Pt->Nat) (j:∀args w,(callFunc fn args).run prog w=.ok (.enter fn args) w) (h:dG w Pb G m now N wk eT) (E:∀l,r l<=l.length)
  (ask:∀(u:World) (F:Nat->Prop) (tb n0:Nat) (l:List Pt),Below w.heap.size w u->Bk u F tb n0 l->Rw l->aK fn (#[aj tb]++cs) u fun e g=>∃t:Nat,e=.returned (.tuple #[ae (r l:Nat),ae t])/\t<=8*Lib.bitLen n0+1/\Below u.heap.size u g):
  aK 73 #[aj Pb,.func (.func fn) #[] cs] w fun e w'=>∃B:List (Nat×Nat×List Pt),(ja B).Perm now/\DF w Pb G m now N wk eT (.int .i64 (((List.range B.length).map fun i=>r (dN B i)).sum:Nat)) e w':=by
 obtain⟨Hb,Ab,base,av,GH,SD,A,D,ALL,a,rfl,o⟩:=h;have q:=a.half.facts.2.2.2.2.1;refine(K7 (Q:=fun n d=>∃B:List (Nat×Nat×List Pt),(ja B).Perm (A.map (·.1))/\n=((List.range B.length).map fun i=>r (dN B i)).sum/\yB N 0 d) j a.blk a.half (fun k C=>(a.si.1 k C).2.2.2) ?_).mono ?_
 .intro w1 B F T;have z:∀i,r (dN B i)<=20000:=fun i=>bA (E (dN B i)) (by have:=T.wd.few (fun _=>true) i;rwa [kV.2 (fun _ _=>rfl)]at this);refine⟨fun i=>r (dN B i),fun i t=>t<=8*Lib.bitLen (iQ B i)+1/\iQ B i<=20000,fun i t ht=>?_,z,fun i hi u c v=>?_,fun n H=>⟨B,T.perm,rfl,?_⟩⟩
  .have f:Lib.bitLen (iQ B i)<=15:=bitLen_le (qw ht.2 ai) ht.2;omega
  .refine(ask u (F i) B[i].1 (iQ B i) (dN B i) c (v.at hi) (nS.XC T.perm q i)).mono ?_;rintro e g ⟨t,rfl,ht,x⟩;refine⟨t,rfl,⟨ht,?_⟩,x⟩;unfold iQ;rw[cK hi];exact(T.built _ (bC hi)).2
  .have p:=T.cost (r:=fun _=>0) (fun i t ht=>⟨aT _,aa⟩) H;have f:((List.range B.length).map fun _=>0).sum=0:=by have:=Bj (r:=fun _=>0) (b:=0) (fun _=>aA _) B.length;omega
   rwa [f]at p
 .rintro e w' ⟨n,d,rfl,⟨B,s,rfl,y⟩,K,c⟩;exact⟨B,s,d,rfl,y,K,Hb,Ab,base,av,GH,SD,A,D,ALL,a.Rb K c,rfl,o⟩
def AX (x y way:Int) (p:Pt):Bool:=decide (way<=3)&&kM x y (decide (way%2=1)) (decide (2<=way)) p
theorem GK (l:List Pt) (x y a:Int):wY l x y a=dh (ids (l.filter (AX x y a))):=by
 unfold wY AX;by_cases b:a<=3
 .simp only[b,gJ,decide_true,Bool.true_and];rfl
 .simp only[b,jC,decide_false,Bool.false_and];rw[yL.2 ax];exact P8.symm
theorem Je (r s:Nat->Nat) (h:∀i,r i>0↔s i>0):∀{n:Nat},((List.range n).map r).sum>0↔0<((List.range n).map s).sum
 |0=>ax
 |n+1=>by
  have c:=Je r s h (n:=n);have d:=h n;have a:([n].map r).sum=r n:=ax;have b:([n].map s).sum=s n:=ax;rw[qB,bJ,sS,bJ,sS,a,b];omega
theorem Jf (h:dG w Pb G m now N wk eT) (x1 x2 y1 y2 a:Int):aK 17 #[aj Pb,.agg #[ae x1,ae x2,ae y1,ae y2,ak a]] w (DD w Pb G m now N wk eT (dh (ids (now.filter (sj x1 x2 y1 y2))))):=by
 have s:Below w.heap.size w (w.alloc (.cells #[ae x1,ae x2,ae y1,ae y2,ak a] 38)):=(aJ _ _).alloc (aA _) _;have sz:(w.alloc (.cells #[ae x1,ae x2,ae y1,ae y2,ak a] 38)).heap.size=w.heap.size+1:=ax;have i:(w.alloc (.cells #[ae x1,ae x2,ae y1,ae y2,ak a] 38)).heap[w.heap.size]? =some (Obj.cells #[ae x1,ae x2,ae y1,ae y2,ak a] 38 (0,0)):=by
  have q:=bY w (.cells #[ae x1,ae x2,ae y1,ae y2,ak a] 38);have e:w.heap.size=w.heap.size:=ax;rw[e]at q;exact q
 have j:=af (Ll (fn:=66) (cs:=#[aj w.heap.size]) (sj x1 x2 y1 y2) I9 (h.below s) fun u F tb n0 l y x C=>by
  have b:=(aP y i).trans i;refine(Ou x x1 x2 y1 y2 a (ek b) (ek b) (ek b) (ek b) (ek b)).mono ?_;rintro e D ⟨v,t,rfl,⟨c,rfl,g⟩,f,z⟩;exact⟨v,_,rfl,⟨Nat.le_add_left _ _,by unfold hasB at*;omega⟩,f,z⟩)
 have d:aB (fun k=>k=Pb) w (w.alloc (.cells #[ae x1,ae x2,ae y1,ae y2,ak a] 38)):=(aB.refl _ w).alloc _;have d:=af d;have A:=af sz;go_enter func17,ntmps17
 go_wp2_with fail
 refine j.o.mono ?_;rintro e E ⟨v,B,rfl,f,g,K,hP⟩;have HO:=af f;have r:=af hP;have p:=af K;have n:=af g;go_wp2;go_ret2;exact⟨v,B,rfl,bN HO.o (by rw[A.o];omega),n.o,d.o.trans p.o,r.o⟩
theorem Mx (h:dG w Pb G m now N wk eT) (x1 x2 y:Int):aK 19 #[aj Pb,ae x1,ae x2,ae y] w (DD w Pb G m now N wk eT (dh (ids (now.filter (oV x1 x2 y))))):=by
 have r:Below w.heap.size w (((w.alloc (.cells #[ae x1] 2)).alloc (.cells #[ae x2] 2)).alloc (.cells #[ae y] 2)):=(((aJ _ _).alloc (aA _) _).alloc ax _).alloc aH _;have sz:(((w.alloc (.cells #[ae x1] 2)).alloc (.cells #[ae x2] 2)).alloc (.cells #[ae y] 2)).heap.size=w.heap.size+3:=ax;have d:(((w.alloc (.cells #[ae x1] 2)).alloc (.cells #[ae x2] 2)).alloc (.cells #[ae y] 2)).heap[w.heap.size]? =some (Obj.cells #[ae x1] 2 (0,0)):=by
  have q:=bY w (.cells #[ae x1] 2);have e:w.heap.size=w.heap.size:=ax;rw[e]at q;exact(bU _ _ _ (by simp;try omega)).trans ((bU _ _ _ (by simp;try omega)).trans (q))
 have f:(((w.alloc (.cells #[ae x1] 2)).alloc (.cells #[ae x2] 2)).alloc (.cells #[ae y] 2)).heap[w.heap.size+1]? =some (Obj.cells #[ae x2] 2 (0,0)):=by
  have q:=bY (w.alloc (.cells #[ae x1] 2)) (.cells #[ae x2] 2);have e:(w.alloc (.cells #[ae x1] 2)).heap.size=w.heap.size+1:=ax;rw[e]at q;exact(bU _ _ _ (by simp;try omega)).trans (q)
 have g:(((w.alloc (.cells #[ae x1] 2)).alloc (.cells #[ae x2] 2)).alloc (.cells #[ae y] 2)).heap[w.heap.size+2]? =some (Obj.cells #[ae y] 2 (0,0)):=by
  have q:=bY ((w.alloc (.cells #[ae x1] 2)).alloc (.cells #[ae x2] 2)) (.cells #[ae y] 2);have e:((w.alloc (.cells #[ae x1] 2)).alloc (.cells #[ae x2] 2)).heap.size=w.heap.size+2:=ax;rw[e]at q;exact q
 have i:=af (Ll (fn:=68) (cs:=#[aj w.heap.size,aj (w.heap.size+1),aj (w.heap.size+2)]) (oV x1 x2 y) K9 (h.below r) fun u F tb n0 l b s J=>by
  have D:=(aP b d).trans d;have E:=(aP b f).trans f;have H:=(aP b g).trans g;refine(Q3 s x1 x2 y (ek D) (ek E) (ek H)).mono ?_;rintro e L ⟨v,t,rfl,⟨A,B⟩,c,x⟩;exact⟨v,t,rfl,⟨A,bA B (by unfold Ay rZ;omega)⟩,c,x⟩)
 have a:aB (fun k=>k=Pb) w (((w.alloc (.cells #[ae x1] 2)).alloc (.cells #[ae x2] 2)).alloc (.cells #[ae y] 2)):=(((aB.refl _ w).alloc _).alloc _).alloc _;have a:=af a;have C:=af sz;go_enter func19,ntmps19
 go_wp2_with fail
 refine i.o.mono ?_;rintro e M ⟨v,I,rfl,c,z,K,hP⟩;have HO:=af c;have p:=af hP;have n:=af K;have j:=af z;go_wp2;go_ret2;exact⟨v,I,rfl,bN HO.o (by rw[C.o];omega),j.o,a.o.trans n.o,p.o⟩
theorem Jg (h:dG w Pb G m now N wk eT) (x y a:Int) (B:0<=a):aK 18 #[aj Pb,ae x,ae y,.int .u8 a] w (DD w Pb G m now N wk eT (dh (ids (now.filter (AX x y a))))):=by
 have A:Below w.heap.size w (((w.alloc (.cells #[ae x] 2)).alloc (.cells #[ae y] 2)).alloc (.cells #[.int .u8 a] 5)):=(((aJ _ _).alloc (aA _) _).alloc ax _).alloc aH _;have sz:(((w.alloc (.cells #[ae x] 2)).alloc (.cells #[ae y] 2)).alloc (.cells #[.int .u8 a] 5)).heap.size=w.heap.size+3:=ax;have i:(((w.alloc (.cells #[ae x] 2)).alloc (.cells #[ae y] 2)).alloc (.cells #[.int .u8 a] 5)).heap[w.heap.size]? =some (Obj.cells #[ae x] 2 (0,0)):=by
  have q:=bY w (.cells #[ae x] 2);have e:w.heap.size=w.heap.size:=ax;rw[e]at q;exact(bU _ _ _ (by simp;try omega)).trans ((bU _ _ _ (by simp;try omega)).trans (q))
 have j:(((w.alloc (.cells #[ae x] 2)).alloc (.cells #[ae y] 2)).alloc (.cells #[.int .u8 a] 5)).heap[w.heap.size+1]? =some (Obj.cells #[ae y] 2 (0,0)):=by
  have q:=bY (w.alloc (.cells #[ae x] 2)) (.cells #[ae y] 2);have e:(w.alloc (.cells #[ae x] 2)).heap.size=w.heap.size+1:=ax;rw[e]at q;exact(bU _ _ _ (by simp;try omega)).trans (q)
 have n:(((w.alloc (.cells #[ae x] 2)).alloc (.cells #[ae y] 2)).alloc (.cells #[.int .u8 a] 5)).heap[w.heap.size+2]? =some (Obj.cells #[.int .u8 a] 5 (0,0)):=by
  have q:=bY ((w.alloc (.cells #[ae x] 2)).alloc (.cells #[ae y] 2)) (.cells #[.int .u8 a] 5);have e:((w.alloc (.cells #[ae x] 2)).alloc (.cells #[ae y] 2)).heap.size=w.heap.size+2:=ax;rw[e]at q;exact q
 have p:=af (Ll (fn:=67) (cs:=#[aj w.heap.size,aj (w.heap.size+1),aj (w.heap.size+2)]) (AX x y a) Jb (h.below A) fun u F tb n0 l d C E=>by
  have I:=(aP d i).trans i;have J:=(aP d j).trans j;have L:=(aP d n).trans n;refine(Ov C x y a E B (ek I) (ek J) (ek L)).mono ?_;rw[GK];rintro e O ⟨v,t,rfl,⟨c,rfl,g⟩,f,D⟩;exact⟨v,_,rfl,⟨Nat.le_add_left _ _,aa⟩,f,D⟩)
 have b:aB (fun k=>k=Pb) w (((w.alloc (.cells #[ae x] 2)).alloc (.cells #[ae y] 2)).alloc (.cells #[.int .u8 a] 5)):=(((aB.refl _ w).alloc _).alloc _).alloc _;have b:=af b;have H:=af sz;go_enter func18,ntmps18
 go_wp2_with fail
 refine p.o.mono ?_;rintro e P ⟨v,M,rfl,f,g,K,hP⟩;have HO:=af f;have z:=af hP;have s:=af K;have r:=af g;go_wp2;go_ret2;exact⟨v,M,rfl,bN HO.o (by rw[H.o];omega),r.o,b.o.trans s.o,z.o⟩
theorem Tw (h:dG w Pb G m now N wk eT) (x1 x2 y1 y2 a:Int):aK 28 #[aj Pb,.agg #[ae x1,ae x2,ae y1,ae y2,ak a]] w (DF w Pb G m now N wk eT (.int .i64 ((now.filter (sj x1 x2 y1 y2)).length:Nat))):=by
 have i:Below w.heap.size w (w.alloc (.cells #[ae x1,ae x2,ae y1,ae y2,ak a] 38)):=(aJ _ _).alloc (aA _) _;have sz:(w.alloc (.cells #[ae x1,ae x2,ae y1,ae y2,ak a] 38)).heap.size=w.heap.size+1:=ax;have f:(w.alloc (.cells #[ae x1,ae x2,ae y1,ae y2,ak a] 38)).heap[w.heap.size]? =some (Obj.cells #[ae x1,ae x2,ae y1,ae y2,ak a] 38 (0,0)):=by
  have q:=bY w (.cells #[ae x1,ae x2,ae y1,ae y2,ak a] 38);have e:w.heap.size=w.heap.size:=ax;rw[e]at q;exact q
 have g:=af (Ae (fn:=81) (cs:=#[aj w.heap.size]) (fun l=>(l.filter (sj x1 x2 y1 y2)).length) Lb (h.below i) (fun l=>fq _ _) fun u F tb n0 l x b C=>by
  have c:=(aP x f).trans f;refine(Q4 b x1 x2 y1 y2 a (ek c) (ek c) (ek c) (ek c) (ek c)).mono ?_;rintro e E ⟨t,rfl,ht,y⟩;exact⟨t,rfl,ht,y⟩)
 have d:aB (fun k=>k=Pb) w (w.alloc (.cells #[ae x1,ae x2,ae y1,ae y2,ak a] 38)):=(aB.refl _ w).alloc _;have d:=af d;have D:=af sz;clear f i sz h;go_enter func28,ntmps28
 go_wp2_with fail
 refine g.o.mono ?_;rintro e H ⟨B,b,z,rfl,n,K,hP⟩;have v:=af hP;have s:=af K;have r:=af n;have A:=af b;have j:=wZ b (sj x1 x2 y1 y2);have p:=af j;clear hP K n g b j;go_wp2;go_ret2;exact⟨z,by rw[p.o];rfl,r.o,d.o.trans s.o,v.o⟩
theorem Oz (h:dG w Pb G m now N wk eT) (x y a:Int) (E:0<=a):aK 29 #[aj Pb,ae x,ae y,.int .u8 a] w (DF w Pb G m now N wk eT (.int .i64 ((now.filter (AX x y a)).length:Nat))):=by
 have p:Below w.heap.size w (((w.alloc (.cells #[ae x] 2)).alloc (.cells #[ae y] 2)).alloc (.cells #[.int .u8 a] 5)):=(((aJ _ _).alloc (aA _) _).alloc ax _).alloc aH _;have sz:(((w.alloc (.cells #[ae x] 2)).alloc (.cells #[ae y] 2)).alloc (.cells #[.int .u8 a] 5)).heap.size=w.heap.size+3:=ax;have f:(((w.alloc (.cells #[ae x] 2)).alloc (.cells #[ae y] 2)).alloc (.cells #[.int .u8 a] 5)).heap[w.heap.size]? =some (Obj.cells #[ae x] 2 (0,0)):=by
  have q:=bY w (.cells #[ae x] 2);have e:w.heap.size=w.heap.size:=ax;rw[e]at q;exact(bU _ _ _ (by simp;try omega)).trans ((bU _ _ _ (by simp;try omega)).trans (q))
 have g:(((w.alloc (.cells #[ae x] 2)).alloc (.cells #[ae y] 2)).alloc (.cells #[.int .u8 a] 5)).heap[w.heap.size+1]? =some (Obj.cells #[ae y] 2 (0,0)):=by
  have q:=bY (w.alloc (.cells #[ae x] 2)) (.cells #[ae y] 2);have e:(w.alloc (.cells #[ae x] 2)).heap.size=w.heap.size+1:=ax;rw[e]at q;exact(bU _ _ _ (by simp;try omega)).trans (q)
 have j:(((w.alloc (.cells #[ae x] 2)).alloc (.cells #[ae y] 2)).alloc (.cells #[.int .u8 a] 5)).heap[w.heap.size+2]? =some (Obj.cells #[.int .u8 a] 5 (0,0)):=by
  have q:=bY ((w.alloc (.cells #[ae x] 2)).alloc (.cells #[ae y] 2)) (.cells #[.int .u8 a] 5);have e:((w.alloc (.cells #[ae x] 2)).alloc (.cells #[ae y] 2)).heap.size=w.heap.size+2:=ax;rw[e]at q;exact q
 have n:=af (Ae (fn:=83) (cs:=#[aj w.heap.size,aj (w.heap.size+1),aj (w.heap.size+2)]) (fun l=>(wY l x y a).length) GI (h.below p) (fun l=>by show(wY l x y a).length<=l.length;rw[GK,dY];unfold ids;rw[bK];exact fq _ _) fun u F tb n0 l d b I=>by
  have J:=(aP d f).trans f;have L:=(aP d g).trans g;have M:=(aP d j).trans j;refine(Lc b x y a I E (ek J) (ek L) (ek M)).mono ?_;rintro e R ⟨t,rfl,ht,H⟩;exact⟨t,rfl,ht,H⟩)
 have c:aB (fun k=>k=Pb) w (((w.alloc (.cells #[ae x] 2)).alloc (.cells #[ae y] 2)).alloc (.cells #[.int .u8 a] 5)):=(((aB.refl _ w).alloc _).alloc _).alloc _;have c:=af c;have Q:=af sz;clear f g j p sz h;go_enter func29,ntmps29
 go_wp2_with fail
 refine n.o.mono ?_;rintro e S ⟨B,b,O,rfl,s,K,hP⟩;have D:=af hP;have C:=af K;have A:=af s;have P:=af b;have v:((List.range B.length).map fun i=>(wY (dN B i) x y a).length).sum=(now.filter (AX x y a)).length:=by
  rw[<-wZ b];congr 1;refine Bw fun i _=>?_;rw[GK,dY];exact bK _
 have r:=v;have z:=af r;clear hP K s n b r v;go_wp2;go_ret2;exact⟨O,by rw[z.o];rfl,A.o,c.o.trans C.o,D.o⟩
theorem Wz (h:dG w Pb G m now N wk eT) (x1 x2 y:Int):aK 24 #[aj Pb,ae x1,ae x2,ae y] w (DF w Pb G m now N wk eT (.bool (decide (0<(now.filter (oV x1 x2 y)).length)))):=by
 have n:Below w.heap.size w (((w.alloc (.cells #[ae x1] 2)).alloc (.cells #[ae x2] 2)).alloc (.cells #[ae y] 2)):=(((aJ _ _).alloc (aA _) _).alloc ax _).alloc aH _;have sz:(((w.alloc (.cells #[ae x1] 2)).alloc (.cells #[ae x2] 2)).alloc (.cells #[ae y] 2)).heap.size=w.heap.size+3:=ax;have d:(((w.alloc (.cells #[ae x1] 2)).alloc (.cells #[ae x2] 2)).alloc (.cells #[ae y] 2)).heap[w.heap.size]? =some (Obj.cells #[ae x1] 2 (0,0)):=by
  have q:=bY w (.cells #[ae x1] 2);have e:w.heap.size=w.heap.size:=ax;rw[e]at q;exact(bU _ _ _ (by simp;try omega)).trans ((bU _ _ _ (by simp;try omega)).trans (q))
 have f:(((w.alloc (.cells #[ae x1] 2)).alloc (.cells #[ae x2] 2)).alloc (.cells #[ae y] 2)).heap[w.heap.size+1]? =some (Obj.cells #[ae x2] 2 (0,0)):=by
  have q:=bY (w.alloc (.cells #[ae x1] 2)) (.cells #[ae x2] 2);have e:(w.alloc (.cells #[ae x1] 2)).heap.size=w.heap.size+1:=ax;rw[e]at q;exact(bU _ _ _ (by simp;try omega)).trans (q)
 have g:(((w.alloc (.cells #[ae x1] 2)).alloc (.cells #[ae x2] 2)).alloc (.cells #[ae y] 2)).heap[w.heap.size+2]? =some (Obj.cells #[ae y] 2 (0,0)):=by
  have q:=bY ((w.alloc (.cells #[ae x1] 2)).alloc (.cells #[ae x2] 2)) (.cells #[ae y] 2);have e:((w.alloc (.cells #[ae x1] 2)).alloc (.cells #[ae x2] 2)).heap.size=w.heap.size+2:=ax;rw[e]at q;exact q
 have j:=af (Ae (fn:=74) (cs:=#[aj w.heap.size,aj (w.heap.size+1),aj (w.heap.size+2)]) (fun l=>if 0<(l.filter (oV x1 x2 y)).length then 1 else 0) Q6 (h.below n) (fun l=>by show(if 0<(l.filter (oV x1 x2 y)).length then 1 else 0)<=l.length;have:=fq (oV x1 x2 y) l;split<;>omega) fun u F tb n0 l c a L=>by
  have C:=(aP c d).trans d;have D:=(aP c f).trans f;have E:=(aP c g).trans g;refine(Vj a x1 x2 y (ek C) (ek D) (ek E)).mono ?_;rintro e O ⟨t,rfl,ht,x⟩;exact⟨t,rfl,bA ht (by unfold Ay;omega),x⟩)
 have b:aB (fun k=>k=Pb) w (((w.alloc (.cells #[ae x1] 2)).alloc (.cells #[ae x2] 2)).alloc (.cells #[ae y] 2)):=(((aB.refl _ w).alloc _).alloc _).alloc _;have b:=af b;have M:=af sz;clear d f g n sz h;go_enter func24,ntmps24
 go_wp2_with fail
 refine j.o.mono ?_;rintro e P ⟨B,a,H,rfl,p,K,hP⟩;have v:=af hP;have s:=af K;have r:=af p;have I:=af a;have A:(((List.range B.length).map fun i=>if 0<((dN B i).filter (oV x1 x2 y)).length then 1 else 0).sum:Nat)>0↔0<(now.filter (oV x1 x2 y)).length:=by
  rw[<-wZ a];exact Je _ _ fun i=>by split<;>omega
 generalize((List.range B.length).map fun i=>if 0<((dN B i).filter (oV x1 x2 y)).length then 1 else 0).sum=many at*;have hd:decide ((many:Int)>0)=decide (0<(now.filter (oV x1 x2 y)).length):=pF.2 aa;have J:decide ((0:Int)<(many:Int))=decide (0<(now.filter (oV x1 x2 y)).length):=pF.2 aa;have z:decide (0<many)=decide (0<(now.filter (oV x1 x2 y)).length):=pF.2 aa;clear hP K p j a A;go_wp2;go_ret2;exact⟨H,by rw[<-z];rfl,r.o,b.o.trans s.o,v.o⟩
end
end
section
open Go.RowKit Go.Sort Go.Shelf Go.Lib Go.Maps
attribute [local irreducible] wpQuiet
attribute [local go_sem] Oper.dZ
def lowMin (s:Option Pt):Option Pt->Option Pt
 |none=>s
 |some p=>match s with
  |none=>some p
  |some q=>if oO p q<0 then some p else some q
def o7 (l:List Pt) (x1 x2:Int):Option Pt:=(uU l x1 x2).head?
theorem aB.GL {S:Nat->Prop} {w w':World} (K:aB S w w') {g:Nat} (b:S g) (cs:Array Value):aB S w (w'.setRow g cs):=
 ⟨K.os,K.tape,K.output,by rw[setRow_size];exact K.size,fun k c a=>(wz w' g k cs (fun e=>a (e▸b))).trans (K.block k c a)⟩
def GM (s:Option Pt):Obj:=.cells #[.bool s.isSome] 4 (0,0)
theorem Jh:eU 42:=bP func42 aL rfl
theorem Rc:eU 70:=bP func70 aL rfl
theorem Vo {u:World} {F:Nat->Prop} {tb n0:Nat} {l:List Pt} (h:Bk u F tb n0 l) (x1 x2:Int) (s:Option Pt) {ar av fb b:Nat} (ax:u.cell? (ag ar 0)=some (ae x1)) (az:u.cell? (ag av 0)=some (ae x2)) (aa:u.heap[fb]? =some (GM s)) (hp:u.heap[b]? =some (vD (s.getD (0,0,0)))) (S:fb≠b):
  aK 70 #[aj tb,aj ar,aj av,aj fb,aj b] u fun e ac=>∃t:Nat,e=.returned (ae t)/\t<=vG n0/\ac.heap[fb]? =some (GM (lowMin s (o7 l x1 x2)))/\ac.heap[b]? =some (vD ((lowMin s (o7 l x1 x2)).getD (0,0,0)))/\aB (fun k=>k=fb\/k=b) u ac:=by
 obtain⟨lo,m0,m1,m2,m3,m4,hi,bx,cn,a7,lw,ob,tl,sv,dn,h⟩:=h;have H:=af h;have aw:u.cell? (ag tb 4)=some (aj lw):=aI h.blk;have G:Hid (∀W,Below u.heap.size u W->aK 42 #[aj lw,ae x1,ae x2] W fun e w'=>(∃c:Nat,e=.returned (.tuple #[jb ((o7 l x1 x2).getD (0,0,0)).1 ((o7 l x1 x2).getD (0,0,0)).2.1 ((o7 l x1 x2).getD (0,0,0)).2.2,.bool (o7 l x1 x2).isSome,ae c])/\c<=vG n0)/\Below W.heap.size W w'):=fun W aU=>by
  refine(SY (H.o.low.kept ((aB.refl (fun _=>False) u).below aU) (fun _ _ _ h=>h)) x1 x2).mono ?_;rintro e w' ⟨⟨p,hp,c,aX,A⟩,aV⟩;subst hp;exact⟨⟨c,aX,A⟩,aV⟩
 have Z:=ah aw;have X:=ah ax;have Y:=ah az;have aZ:=(bg.1 aa).1;have a0:=(bg.1 hp).1;have aQ:=af aa;have aS:=af hp;clear h aw aa hp ax az;generalize o7 l x1 x2=r at*;go_enter func70,ntmps70
 go_upto_region 1 with fail
 go_cut [7,8,9]from 10 (fun a1 a2 a3 aM=>∃g c:Nat,a1=aj g/\a2=.bool r.isSome/\a3=.int .i64 c/\Hid (c<=vG n0)/\Hid (Below u.heap.size u aM)/\Hid (u.heap.size<=g)/\Hid (aM.heap[g]? =some (vD (r.getD (0,0,0)))))
 case first=>
  refine au (fun W=>∃p:aR u,W=p.W) [6,7,8,9,10,12,13,14] [(0,false),(1,false),(2,false),(3,true),(4,true),(5,true)] ⟨⟨_,(aJ _ _).drew⟩,rfl⟩ 9 ?_;have w:Below u.heap.size u u.drew:=(aJ _ _).drew;generalize u.drew=w0 at*;refine iH 6 11 rfl rfl (fun K n=>?_) (fun K n=>?_)
  .refine aY Jh rfl _ _ rfl (vals:=#[aj lw,ae x1,ae x2]) rfl (G.o _ w) ?_;rintro e w1 ⟨⟨c,rfl,A⟩,aA⟩;have m:=w.trans (aA.mono w.size);refine⟨_,rfl,?_⟩;refine n _ _ (fun _ h=>absurd ai h) ?_;clear n K Z X Y G;have x:=af A;refine aW [(7,false),(8,false),(9,false),(10,false)] ⟨⟨_,m⟩,rfl⟩ rfl ?_;refine ay 11 rfl fun K n=>?_;go_simp;obtain⟨w2,Q⟩:∃W,W=w1.alloc (.cells #[ae 0,ae 0,ak 0] 29):=⟨_,rfl⟩;have E:w2.heap[w1.heap.size]? =some (vD (0,0,0)):=by rw[Q];exact bY w1 _
   have B:Below u.heap.size u w2:=by rw[Q];exact m.alloc m.size _
   rw[<-Q];clear Q;refine n _ _ (fun _ _=>⟨⟨_,B⟩,rfl⟩) ?_;clear n K;refine aF [12,13,14] ?_;have z:=af B;have ao:=af E;have aE:=af m.size;clear w m B E aA A;refine oF rfl 29 (.tmp 7) (.tmp 18) rfl rfl w1.heap.size #[ae (r.getD (0,0,0)).1,ae (r.getD (0,0,0)).2.1,ak (r.getD (0,0,0)).2.2] rfl rfl _ _ ao.o aL rfl (by simp[Value.oneCell']) ?_
   go_wp2_with fail
   go_meet;exact⟨_,c,rfl,rfl,rfl,x,af (oK z.o aE.o _),aE,af (nG _ _ _ _ _ _ ao.o)⟩
  .go_simp;obtain⟨w1,P⟩:∃W,W=w0.alloc (.cells #[ae 0,ae 0,ak 0] 29):=⟨_,rfl⟩;have E:w1.heap[w0.heap.size]? =some (vD (0,0,0)):=by rw[P];exact bY w0 _
   have m:Below u.heap.size u w1:=by rw[P];exact w.alloc w.size _
   rw[<-P];clear P;refine n _ _ (fun _ _=>⟨⟨_,m⟩,rfl⟩) ?_;clear n K;refine ay 6 rfl fun K n=>?_;refine aY Jh rfl _ _ rfl (vals:=#[aj lw,ae x1,ae x2]) rfl (G.o _ m) ?_;rintro e w2 ⟨⟨c,rfl,A⟩,d⟩;have B:=m.trans (d.mono m.size);have aq:=(d.block _ (bg.1 E).1).trans E;refine⟨_,rfl,?_⟩;refine n _ _ (fun _ h=>absurd ai h) ?_;clear n K Z X Y G;have x:=af A;refine dQ (fun _=>True) [12,13,14] aL ?_;refine aW [(7,false),(8,false),(9,false),(10,false)] trivial rfl ?_;refine aF [12,13,14] ?_;have z:=af B;have ap:=af aq;have aD:=af w.size;clear w m B E aq d A;refine oF rfl 29 (.tmp 7) (.tmp 18) rfl rfl w0.heap.size #[ae (r.getD (0,0,0)).1,ae (r.getD (0,0,0)).2.1,ak (r.getD (0,0,0)).2.2] rfl rfl _ _ ap.o aL rfl (by simp[Value.oneCell']) ?_
   go_wp2_with fail
   go_meet;exact⟨_,c,rfl,rfl,rfl,x,af (oK z.o aD.o _),aD,af (nG _ _ _ _ _ _ ap.o)⟩
 case rest=>
  obtain⟨g,c,rfl,rfl,rfl,x,v,a5,V⟩:=hcut;have C:=(v.o.block fb aZ).trans aQ.o;have O:=(v.o.block b a0).trans aS.o;have D:=af C;have y:=af O;have aH:=v.o.size;have a6:=af aH;clear Z X Y G aH;cases r with
  |none=>
   simp only[Option.isSome_none,lowMin,nC]at*;clear C O;go_wp2;go_ret;exact⟨c,rfl,x.o,D.o,y.o,((aB.refl (fun k=>k=fb\/k=b) u).below v.o)⟩
  |some p=>
   obtain⟨f,i,j⟩:=p;simp only[Option.isSome_some,ic]at*;obtain⟨ad,al,am⟩:=fD V.o;simp only at ad al am;cases s with
   |none=>
    have f0:wc.cell? (ag fb 0)=some (.bool false):=by simp[World.cell?,C,GM]
    have aT:=af (nG wc b _ #[ae f,ae i,ak j] _ _ y.o);have HO:=af ((wz wc b fb #[ae f,ae i,ak j] S).trans D.o);have f1:(wc.setRow b #[ae f,ae i,ak j]).cell? (ag fb 0)=some (.bool false):=by simp[World.cell?,HO.o,GM]
    have f2:(wc.setRow b #[ae f,ae i,ak j]).frozen? (ag fb 0)=false:=by simp[World.frozen?,HO.o,GM]
    clear C O
    go_wp2_with (refine oF rfl 29 (.tmp 4) (.tmp 32) rfl rfl b #[ae f,ae i,ak j] rfl rfl _ _ y.o aL rfl (by simp[Value.oneCell']) ?_)
    go_ret;refine⟨c,rfl,x.o,?_,(aG (a:=(ag fb 0)) S).trans aT.o,(((aB.refl (fun k=>k=fb\/k=b) u).below v.o).GL (.inr rfl) _).set (a:=(ag fb 0)) _ (.inl (show fb=fb\/fb=b from .inl rfl))⟩;rw[dC _ fb 0 _ _ _ HO.o];rfl
   |some q=>
    have f0:wc.cell? (ag fb 0)=some (.bool true):=by simp[World.cell?,C,GM]
    obtain⟨J,L,M⟩:=q;obtain⟨a4,y1,y2⟩:=fD y.o;simp only[ic]at a4 y1 y2;have CB:=af (Qo (f,i,j) (J,L,M) wc);generalize aC:oO (f,i,j) (J,L,M)=ab at*;have an:=af aC;clear aC C O;by_cases R:ab<0
    .have hd:decide (ab<0)=true:=oH R;have I:lowMin (some (J,L,M)) (some (f,i,j))=some (f,i,j):=by simp only[lowMin];rw[an.o,aO R]
     have T:=af I;clear I
     go_wp2_with (first|(go_at_call 71;refine CB.o.mono ?_;rintro e w2 ⟨rfl,d⟩;obtain⟨ad,al,am⟩:=fD ((d.block g (bg.1 V.o).1).trans V.o);simp only at ad al am;have z:=af (v.o.trans (d.mono v.o.size));have N:=af ((aP d y.o).trans y.o);have U:=af ((aP d D.o).trans D.o);have HO:=af ((wz w2 b fb #[ae f,ae i,ak j] S).trans U.o);have f1:(w2.setRow b #[ae f,ae i,ak j]).cell? (ag fb 0)=some (.bool true):=(by simp[World.cell?,HO.o,GM]);have f2:(w2.setRow b #[ae f,ae i,ak j]).frozen? (ag fb 0)=false:=(by simp[World.frozen?,HO.o,GM]);clear d)|(refine oF rfl 29 (.tmp 4) (.tmp 32) rfl rfl b #[ae f,ae i,ak j] rfl rfl _ _ N.o aL rfl (by simp[Value.oneCell']) ?_))
     go_ret;rw[T.o];refine⟨c,rfl,x.o,?_,(aG (a:=(ag fb 0)) S).trans (nG _ _ _ _ _ _ N.o),(((aB.refl (fun k=>k=fb\/k=b) u).below z.o).GL (.inr rfl) _).set (a:=(ag fb 0)) _ (.inl (show fb=fb\/fb=b from .inl rfl))⟩;rw[dC _ fb 0 _ _ _ HO.o];rfl
    .have hd:decide (ab<0)=false:=FM R;have I:lowMin (some (J,L,M)) (some (f,i,j))=some (J,L,M):=by simp only[lowMin];rw[an.o,aN R]
     have T:=af I;clear I
     go_wp2_with (go_at_call 71;refine CB.o.mono ?_;rintro e w2 ⟨rfl,d⟩;have z:=af (v.o.trans (d.mono v.o.size));have N:=af ((aP d y.o).trans y.o);have U:=af ((aP d D.o).trans D.o);clear d)
     go_ret;rw[T.o];exact⟨c,rfl,x.o,U.o,N.o,((aB.refl (fun k=>k=fb\/k=b) u).below z.o)⟩
def DI (x1 x2:Int) (l:List Pt):Option Pt->Prop
 |none=>∀p∈l,qh x1 x2 p=false
 |some p=>p∈l/\qh x1 x2 p=true/\∀q∈l,qh x1 x2 q=true->¬mM q p
theorem GN (l:List Pt) (x1 x2:Int):DI x1 x2 l (o7 l x1 x2):=by
 have hp:=jy (l.filter (qh x1 x2));have f:(kI (l.filter (qh x1 x2))).Pairwise fun p q=>OT p q=true:=sH (le:=OT) (fun p q r g i=>by simp only[OT,pE,gY]at*;unfold mM at*;omega) (fun p q=>by simp only[OT,BQ,pE,gY];unfold mM;omega) _;unfold o7 uU;generalize kI (l.filter (qh x1 x2))=S at*;cases S with
 |nil=>
  intro p c;cases h:qh x1 x2 p with
  |false=>rfl
  |true=>exact absurd (hp.mem_iff.2 (bI.2 ⟨c,h⟩)) iO
 |cons p T=>
  have a:=bI.1 (hp.mem_iff.1 ny);refine⟨a.1,a.2,fun q d e h=>?_⟩;rcases gW.1 (hp.mem_iff.2 (bI.2 ⟨d,e⟩))with rfl|h2
  .exact xz _ h
  .have b:=(lQ.1 f).1 q h2;unfold OT at b;simp[h]at b
theorem OA {x1 x2:Int} {l k:List Pt} {s r:Option Pt} (b:DI x1 x2 l s) (c:DI x1 x2 k r):DI x1 x2 (l++k) (lowMin s r):=by
 cases r with
 |none=>
  cases s with
  |none=>exact fun p hp=>(bW.1 hp).elim (b p) (c p)
  |some q=>exact⟨bW.2 (.inl b.1),b.2.1,fun p hp a=>(bW.1 hp).elim (fun h=>b.2.2 p h a) (fun h=>absurd a (by rw[c p h];simp))⟩
 |some p=>
  cases s with
  |none=>exact⟨bW.2 (.inr c.1),c.2.1,fun q f a=>(bW.1 f).elim (fun h=>absurd a (by rw[b q h];simp)) (fun h=>c.2.2 q h a)⟩
  |some q=>
   simp only[lowMin];by_cases d:oO p q<0
   .rw[aO d];rw[rq]at d;refine⟨bW.2 (.inr c.1),c.2.1,fun t ht a=>(bW.1 ht).elim (fun h e=>b.2.2 t h a (pM e d)) (fun h=>c.2.2 t h a)⟩
   .rw[aN d];rw[rq]at d;refine⟨bW.2 (.inl b.1),b.2.1,fun t ht a=>(bW.1 ht).elim (fun h=>b.2.2 t h a) (fun h e=>?_)⟩;have:=c.2.2 t h a;unfold mM at*;omega
theorem ET {x1 x2:Int} {l k:List Pt} (hp:k.Perm l) (hu:(ids l).Nodup) {s r:Option Pt} (a:DI x1 x2 l s) (b:DI x1 x2 k r):s=r:=by
 cases s with
 |none=>
  cases r with
  |none=>rfl
  |some p=>exact absurd b.2.1 (by rw[a p (hp.mem_iff.1 b.1)];simp)
 |some q=>
  cases r with
  |none=>exact absurd a.2.1 (by rw[b q (hp.mem_iff.2 a.1)];simp)
  |some p=>
   have c:=a.2.2 p (hp.mem_iff.1 b.1) b.2.1;have d:=b.2.2 q (hp.mem_iff.2 a.1) a.2.1;rw[RI hu a.1 (hp.mem_iff.1 b.1) (by unfold mM at*;omega)]
def OB (B:List (Nat×Nat×List Pt)) (x1 x2:Int):Nat->Option Pt
 |0=>none
 |i+1=>lowMin (OB B x1 x2 i) (o7 (dN B i) x1 x2)
theorem MB (B:List (Nat×Nat×List Pt)) (x1 x2:Int):∀i,DI x1 x2 ((List.range i).flatMap (dN B)) (OB B x1 x2 i)
 |0=>fun p hp=>by simp at hp
 |i+1=>by
  rw[qB,gZ];have e:[i].flatMap (dN B)=dN B i:=ax;rw[e];exact OA (MB B x1 x2 i) (GN _ _ _)
theorem Ji {B:List (Nat×Nat×List Pt)} {now:List Pt} (hp:(ja B).Perm now) (hu:(ids now).Nodup) (x1 x2:Int):OB B x1 x2 B.length=o7 now x1 x2:=by
 have a:=MB B x1 x2 B.length;rw[show(List.range B.length).flatMap (dN B)=ja B from Ad B fun l=>l]at a;exact(ET hp hu (GN now x1 x2) a).symm
section
variable {w w1:World} {Pb m:Nat} {G GH:Nat->Prop} {now:List Pt} {A:List fB} {N wk eT:Int}
def Ua (w:World) (Pb:Nat) (G:Nat->Prop) (m:Nat) (now:List Pt) (N wk eT:Int) (o:Option Pt) (e:Ending) (w':World):Prop:=
 ∃uY:Nat,e=.returned (.tuple #[jb (o.getD (0,0,0)).1 (o.getD (0,0,0)).2.1 (o.getD (0,0,0)).2.2,.bool o.isSome,ae uY])/\yB N 0 uY/\aB (fun k=>k=Pb) w w'/\dG w' Pb G m now N wk (wrap64 (eT+uY))
def Af (w:World) (x1 x2:Int):World:=((((w.alloc (.cells #[ae x1] 2)).alloc (.cells #[ae x2] 2)).alloc (.cells #[ae 0,ae 0,ak 0] 29)).alloc (.cells #[ae 0,ae 0,ak 0] 29)).alloc (.cells #[.bool false] 4)
theorem Lm (w:World) (x1 x2:Int):Below w.heap.size w (Af w x1 x2)/\(Af w x1 x2).heap.size=w.heap.size+5/\(Af w x1 x2).heap[w.heap.size]? =some (.cells #[ae x1] 2 (0,0))/\(Af w x1 x2).heap[w.heap.size+1]? =some (.cells #[ae x2] 2 (0,0))/\
  (Af w x1 x2).heap[w.heap.size+1+1]? =some (vD (0,0,0))/\(Af w x1 x2).heap[w.heap.size+1+1+1]? =some (vD (0,0,0))/\(Af w x1 x2).heap[w.heap.size+1+1+1+1]? =some (GM none):=by
 obtain⟨b,a⟩:∃W,W=Af w x1 x2:=⟨_,rfl⟩;rw[<-a];unfold Af at a;have c:Below w.heap.size w b:=by
  rw[a];exact(((((aJ _ _).alloc (aA _) _).alloc ax _).alloc (by simp<;>omega) _).alloc (by simp<;>omega) _).alloc (by simp<;>omega) _
 have sz:b.heap.size=w.heap.size+5:=by rw[a];simp
 have d:b.heap[w.heap.size]? =some (.cells #[ae x1] 2 (0,0)):=by
  rw[a];exact(bU _ _ _ (by simp<;>omega)).trans ((bU _ _ _ (by simp<;>omega)).trans ((bU _ _ _ (by simp<;>omega)).trans ((bU _ _ _ ax).trans (bY w _))))
 have e:b.heap[w.heap.size+1]? =some (.cells #[ae x2] 2 (0,0)):=by
  rw[a];exact(bU _ _ _ (by simp<;>omega)).trans ((bU _ _ _ (by simp<;>omega)).trans ((bU _ _ _ ax).trans (Ci w (.cells #[ae x1] 2) (.cells #[ae x2] 2))))
 have f:b.heap[w.heap.size+1+1]? =some (vD (0,0,0)):=by
  rw[a];exact(bU _ _ _ (by simp<;>omega)).trans ((bU _ _ _ ax).trans (by have:=bY ((w.alloc (.cells #[ae x1] 2)).alloc (.cells #[ae x2] 2)) (.cells #[ae 0,ae 0,ak 0] 29);rwa [show((w.alloc (.cells #[ae x1] 2)).alloc (.cells #[ae x2] 2)).heap.size=w.heap.size+1+1 by simp]at this))
 have g:b.heap[w.heap.size+1+1+1]? =some (vD (0,0,0)):=by
  rw[a];exact(bU _ _ _ ax).trans (by have:=bY (((w.alloc (.cells #[ae x1] 2)).alloc (.cells #[ae x2] 2)).alloc (.cells #[ae 0,ae 0,ak 0] 29)) (.cells #[ae 0,ae 0,ak 0] 29);rwa [show(((w.alloc (.cells #[ae x1] 2)).alloc (.cells #[ae x2] 2)).alloc (.cells #[ae 0,ae 0,ak 0] 29)).heap.size=w.heap.size+1+1+1 by simp]at this)
 have h:b.heap[w.heap.size+1+1+1+1]? =some (GM none):=by
  rw[a];have:=bY ((((w.alloc (.cells #[ae x1] 2)).alloc (.cells #[ae x2] 2)).alloc (.cells #[ae 0,ae 0,ak 0] 29)).alloc (.cells #[ae 0,ae 0,ak 0] 29)) (.cells #[.bool false] 4);rwa [show((((w.alloc (.cells #[ae x1] 2)).alloc (.cells #[ae x2] 2)).alloc (.cells #[ae 0,ae 0,ak 0] 29)).alloc (.cells #[ae 0,ae 0,ak 0] 29)).heap.size=w.heap.size+1+1+1+1 by simp]at this
 exact⟨c,sz,d,e,f,g,h⟩
theorem Re {w:World} {v:Value} (x1 x2:Int) (Q:Option Pt->Nat->World->Prop)
  (x:aK 69 #[v,.func (.func 70) #[] #[aj w.heap.size,aj (w.heap.size+1),aj (w.heap.size+1+1+1+1),aj (w.heap.size+1+1+1)]] (Af w x1 x2) fun e a=>∃(r:Option Pt) (d:Nat),e=.returned (ae d)/\a.heap[w.heap.size+1+1+1+1]? =some (GM r)/\a.heap[w.heap.size+1+1+1]? =some (vD (r.getD (0,0,0)))/\a.heap[w.heap.size+1+1]? =some (vD (0,0,0))/\Q r d a):
  aK 20 #[v,ae x1,ae x2] w fun e w'=>∃(r:Option Pt) (d:Nat) (u:World),e=.returned (.tuple #[jb (r.getD (0,0,0)).1 (r.getD (0,0,0)).2.1 (r.getD (0,0,0)).2.2,.bool r.isSome,ae d])/\Q r d u/\w'=u.drew.setRow (w.heap.size+1+1) #[ae (r.getD (0,0,0)).1,ae (r.getD (0,0,0)).2.1,ak (r.getD (0,0,0)).2.2]:=by
 have j:=af x;have k:Hid (((((w.alloc (.cells #[ae x1] 2)).alloc (.cells #[ae x2] 2)).alloc (.cells #[ae 0,ae 0,ak 0] 29)).alloc (.cells #[ae 0,ae 0,ak 0] 29)).alloc (.cells #[.bool false] 4)=Af w x1 x2):=rfl;go_enter func20,ntmps20
 go_upto_region 3 with fail
 rw[k.o]
 go_wp2_with fail
 refine j.o.mono ?_;rintro e a ⟨r,d,rfl,y,hp,z,t⟩;have f:=af y;have g:=af hp;have HO:=af z;have n:=af t
 go_upto_region 4 with fail
 generalize F:w.heap.size+1+1+1+1=fb at*;generalize G:w.heap.size+1+1+1=b at*;generalize A:w.heap.size+1+1=c at*;have q:=af (show c<b/\b<fb from aa);have m:=af A;have C:∀p:kG (fun W:World=>W.heap[fb]? =some (GM r)/\W.heap[b]? =some (vD (r.getD (0,0,0)))),p.W.cell? (ag b 0)=some (ae (r.getD (0,0,0)).1):=fun p=>(fD p.h.2).1;have D:∀p:kG (fun W:World=>W.heap[fb]? =some (GM r)/\W.heap[b]? =some (vD (r.getD (0,0,0)))),p.W.cell? (ag b 1)=some (ae (r.getD (0,0,0)).2.1):=fun p=>(fD p.h.2).2.1;have E:∀p:kG (fun W:World=>W.heap[fb]? =some (GM r)/\W.heap[b]? =some (vD (r.getD (0,0,0)))),p.W.cell? (ag b 2)=some (ak (r.getD (0,0,0)).2.2):=fun p=>(fD p.h.2).2.2;have B:∀p:kG (fun W:World=>W.heap[fb]? =some (GM r)/\W.heap[b]? =some (vD (r.getD (0,0,0)))),p.W.cell? (ag fb 0)=some (.bool r.isSome):=fun p=>by simp[World.cell?,p.h.1,GM]
 refine au (fun W=>∃p:kG (fun W:World=>W.heap[fb]? =some (GM r)/\W.heap[b]? =some (vD (r.getD (0,0,0)))),W=p.W) [4,5] [(0,true),(1,true),(2,false)] ⟨⟨a.drew,⟨f.o,g.o⟩⟩,rfl⟩ 3 ?_;have i:a.drew.heap[c]? =some (vD (0,0,0)):=HO.o;refine ay 3 rfl fun K s=>?_;rw[aO (by simp[Region.wanted])];refine wp_store_row 29 (.tmp 6) (.tmp 15) rfl c #[ae (r.getD (0,0,0)).1,ae (r.getD (0,0,0)).2.1,ak (r.getD (0,0,0)).2.2] rfl rfl _ _ i aL rfl (by simp[Value.oneCell']) ?_;have H:=q.o;refine s _ _ (fun _ _=>⟨⟨a.drew.setRow c #[ae (r.getD (0,0,0)).1,ae (r.getD (0,0,0)).2.1,ak (r.getD (0,0,0)).2.2],(wz a.drew c fb _ aa).trans f.o,(wz a.drew c b _ aa).trans g.o⟩,rfl⟩) ?_;have l:=af (nG a.drew c _ #[ae (r.getD (0,0,0)).1,ae (r.getD (0,0,0)).2.1,ak (r.getD (0,0,0)).2.2] _ _ i);refine aF [4,5] ?_
 go_wp2_with fail
 refine kC (o5 rfl _ _ c _ _ _ _ (.bool r.isSome) (.int .i64 (d:Nat)) rfl rfl rfl l.o underlying29 rfl aL) rfl ?_;exact⟨r,d,a,rfl,n.o,by rw[m.o]⟩
theorem Jj (h:dG w Pb G m now N wk eT) (x1 x2:Int):aK 20 #[aj Pb,ae x1,ae x2] w (Ua w Pb G m now N wk eT (o7 now x1 x2)):=by
 have⟨y,sz,H,I,ap,J,K⟩:=Lm w x1 x2;obtain⟨Hb,Ab,base,av,GH,SD,A,D,ALL,j,rfl,Y⟩:=h;have l:=j.kept (S:=fun _=>False) ((aB.refl _ _).below y) fun _ _ h=>h;have E:=l.half.facts;have aq:Pb<w.heap.size:=(bg.1 j.blk).1;have L:=(Gz (fn:=70) (Sx:=fun k=>k=w.heap.size+1+1+1+1\/k=w.heap.size+1+1+1) (cs:=#[aj w.heap.size,aj (w.heap.size+1),aj (w.heap.size+1+1+1+1),aj (w.heap.size+1+1+1)]) (Q:=fun B c u=>u.heap[w.heap.size+1+1+1+1]? =some (GM (o7 (A.map (·.1)) x1 x2))/\u.heap[w.heap.size+1+1+1]? =some (vD ((o7 (A.map (·.1)) x1 x2).getD (0,0,0)))/\yB N 0 c) Rc l.blk l.half (fun k hk=>aa) (fun w1 B F o C v al am X=>by
  have T:DC (Af w x1 x2) w1 GH A N B F:=⟨o,C,v,al,am,X⟩;have U:=(aP o K).trans K;have R:=(aP o J).trans J;have P:=(aP o I).trans I;have O:=(aP o H).trans H;have ah:∀i t,(t<=vG (iQ B i)/\iQ B i<=20000)->t<=1000000:=fun i t ht=>by
   have z:Lib.bitLen (iQ B i)<=15:=bitLen_le (qw ht.2 ai) ht.2;have ab:=ht.1;unfold vG at ab;omega
  refine⟨fun i n u=>SumB (fun i t=>t<=vG (iQ B i)/\iQ B i<=20000) i n/\u.heap[w.heap.size+1+1+1+1]? =some (GM (OB B x1 x2 i))/\u.heap[w.heap.size+1+1+1]? =some (vD ((OB B x1 x2 i).getD (0,0,0)))/\aB (fun k=>k=w.heap.size+1+1+1+1\/k=w.heap.size+1+1+1) w1 u,⟨rfl,U,R,aB.refl _ _⟩,fun i n u f=>f.2.2.2,fun i n u f=>f.1.le ah,fun i n hi u f=>?_,fun n u f=>?_⟩
  .obtain⟨ao,q,s,d⟩:=f;have V:=bu d O aa;have W:=bu d P aa;refine(Vo ((C.kept d fun k hk e=>by have:=(j.si.1 k hk).2.2.2;omega).at hi) x1 x2 (OB B x1 x2 i) (ek V) (ek W) q s aa).mono ?_;rintro e ar ⟨t,rfl,ht,ak,an,ac⟩;refine⟨t,rfl,⟨n,t,ao,⟨ht,?_⟩,rfl⟩,ak,an,d.trans ac⟩;unfold iQ;rw[cK hi];exact(T.built _ (bC hi)).2
  .refine⟨by rw[<-Ji v E.2.2.2.1];exact f.2.1,by rw[<-Ji v E.2.2.2.1];exact f.2.2.1,?_⟩;have Z:=T.cost (r:=fun _=>0) (fun i t ht=>⟨aT _,by have:=ht.1;unfold vG at this;omega⟩) f.1;have z:((List.range B.length).map fun _=>0).sum=0:=by have:=Bj (r:=fun _=>0) (b:=0) (fun _=>aA _) B.length;omega
   rwa [z]at Z))
 have x:∀k,GH k\/SD k\/k=Pb\/av.ownBlock=some k->k<w.heap.size:=fun k hk=>by
  rcases hk with hk|hk|hk|hk
  .exact(j.si.1 k hk).2.2.2
  .exact(j.si.2.1 k hk).2.2
  .omega
  .exact(j.row.lt k hk).2
 have M:aB (fun k=>k=Pb) w (Af w x1 x2):=(aB.refl _ _).below y;refine(Re x1 x2 (fun r c u=>r=o7 (A.map (·.1)) x1 x2/\yB N 0 c/\aB (fun k=>k=Pb) w u/\Jd u Pb Hb Ab base av GH SD m A D ALL N wk (wrap64 (eT+(c:Int)))) (L.mono ?_)).mono ?_
 .rintro e au ⟨B,c,u,rfl,⟨q,s,p⟩,d,rfl⟩;have af:=bu d l.blk aa;have ad:(u.setCell (ag Pb 3) (.int .i64 (wrap64 (eT+(c:Int))))).heap[Pb]? =some (Obj.cells #[aj Hb,aj Ab,av,ae (wrap64 (eT+(c:Int)))] yz (0,0)):=by
   rw[dC u Pb 3 _ _ _ af];rfl
  exact⟨_,c,rfl,(aG (a:=(ag Pb 3)) (fun e:Pb=w.heap.size+1+1+1+1=>aa)).trans q,(aG (a:=(ag Pb 3)) (fun e:Pb=w.heap.size+1+1+1=>aa)).trans s,(aG (a:=(ag Pb 3)) (fun e:Pb=w.heap.size+1+1=>aa)).trans (bu d ap aa),rfl,p,
   aB.strip (((M.mono fun k h=>.inl h).trans (d.mono fun k h=>.inr aa)).set (a:=(ag Pb 3)) (.int .i64 (wrap64 (eT+(c:Int)))) (.inl (.inl rfl))),
   (l.kept d fun k hk=>by have j:=x k hk;omega).Rb ((aB.refl (fun k=>k=Pb) u).set (a:=(ag Pb 3)) (.int .i64 (wrap64 (eT+(c:Int)))) (.inl rfl)) ad⟩
 .rintro e w' ⟨r,c,u,rfl,⟨rfl,p,d,hP⟩,rfl⟩;exact⟨c,rfl,p,aB.strip (((d.drew).mono fun k h=>.inl h).GL (g:=w.heap.size+1+1) (.inr aa) _),Hb,Ab,base,av,GH,SD,A,D,ALL,hP.kept (((aB.refl (fun k=>k=w.heap.size+1+1) u).drew).GL (g:=w.heap.size+1+1) rfl _) (fun k hk=>by have:=x k hk;omega),rfl,Y⟩
end
theorem vH {P:Program} {fn:Func} {p q:Tmp} {ty:TypeId} (h:fn.results=#[.cell p ty,.tmp q]) (a:Array Value) (w:World) (g:Nat) (t:TypeId) (cs:Array Value) (fr:Nat×Nat) (d:TypeDesc) (b:Value)
  (hp:a.getD p undef=aj g) (c:a.getD q undef=b) (f:w.heap[g]? =some (.cells cs t fr))
  (hu:P.underlying ty=some d) (hd:(match d with|.struct _|.array _ _=>true|_=>false)=true) (hi:(P.info? ty).map (·.size)=some cs.size):
  (results fn a).run P w=.ok (.tuple #[.agg cs,b]) w:=by
 have i:a[p]?.getD undef=aj g:=aQ hp;have e:a[q]?.getD undef=b:=aQ c;simp[results,h,i,e,asAddr,run_loadVar_row w g t ty cs fr d f hu hd hi]
section
variable {w:World} {Pb m:Nat} {G:Nat->Prop} {now:List Pt} {N wk eT:Int}
theorem Rf (h:dG w Pb G m now N wk eT):aK 33 #[aj Pb] w (gD w (ae N)):=by
 obtain⟨Hb,Ab,base,av,GH,SD,A,D,ALL,b,rfl,i⟩:=h;have d:=af (lL b.blk);have c:=af (QV b.half);have g:w.cell? (ag Pb 0)=some (aj Hb):=aI b.blk;go_enter func33,ntmps33
 go_wp2_with (first|(go_at_call 55;refine d.o.mono ?_;rintro e w1 ⟨rfl,a⟩;have f:=a.symm;clear a;subst f)|(refine c.o.mono ?_;rintro e w1 ⟨rfl,a⟩))
 go_ret;exact⟨rfl,a⟩
def GQ (l:List Pt) (d:Int):Option Pt:=l.find? fun p=>decide (p.2.2=d)
theorem EU {l:List Pt} {d:Int} (h:d∉ids l):GQ l d=none:=by
 unfold GQ;rw[BG];intro p hp;simp only[bO];rintro rfl;exact h (sF hp)
theorem OC {l:List Pt} {d:Int} {p:Pt} (h:GQ l d=some p):p∈l/\p.2.2=d:=⟨List.mem_of_find?_eq_some h,by simpa using List.find?_some h⟩
theorem MC {l:List Pt} (hu:(ids l).Nodup) {p:Pt} (hp:p∈l):GQ l p.2.2=some p:=by
 cases h:GQ l p.2.2 with
 |none=>
  unfold GQ at h;exact absurd ax (BG.1 h p hp)
 |some q=>
  obtain⟨b,a⟩:=OC h;rcases eZ (dF.1 hu) b hp with h3|h3|h3
  .rw[h3]
  .exact absurd a h3
  .exact absurd a.symm h3
def Rh (w:World) (r:Option Pt) (e:Ending) (w':World):Prop:=e=.returned (.tuple #[jb (r.getD (0,0,0)).1 (r.getD (0,0,0)).2.1 (r.getD (0,0,0)).2.2,.bool r.isSome])/\Below w.heap.size w w'
theorem Ub (h:dG w Pb G m now N wk eT) (d:Int):aK 23 #[aj Pb,ak d] w (Rh w (GQ now d)):=by
 have X:=h.facts;obtain⟨Hb,Ab,base,av,GH,SD,A,D,ALL,V,rfl,ap⟩:=h;obtain⟨w1,j⟩:∃w1,w1=w.alloc (.cells #[ae 0,ae 0,ak 0] 29):=⟨_,rfl⟩;have B:Below w.heap.size w w1:=by rw[j];exact(aJ _ _).alloc (aA _) _
 have H:w1.heap[w.heap.size]? =some (vD (0,0,0)):=by rw[j];exact bY w _
 have b:=V.kept (S:=fun _=>False) ((aB.refl _ _).below B) fun _ _ h=>h;have v:=af (lL b.blk);have u:=af (Wx b.dir d);have d1:w1.cell? (ag Pb 1)=some (aj Ab):=aI b.blk;have O:=af B;have an:=af H;have a:=af b;have M:=af j;have z:=af X.2.2.2.1;have ar:w.heap.size<w1.heap.size:=(bg.1 H).1;clear j B H V b X ap;go_enter func23,ntmps23
 go_upto_region 1 with fail
 rw[<-M.o];clear M
 go_wp2_with (go_at_call 55;refine v.o.mono ?_;rintro e w2 ⟨rfl,U⟩;have ao:=U.symm;clear U;subst ao)
 refine u.o.mono ?_;rintro e w3 ⟨t,-,g,f⟩;have C:=O.o.trans (f.mono O.o.size);have I:=(f.block w.heap.size ar).trans an.o;have i:=af I;have P:=af C;rcases g with⟨q,r,rfl⟩|⟨ad,rfl⟩
 .obtain⟨k,c,rfl,l,g,rfl⟩:=a.o.fwd d q r;have Y:GQ (A.map (·.1)) c.1.2.2=some c.1:=MC z.o (sF l);have Q:=af Y;have E:=(fI.1 g).1;have F:=a.o.kept (S:=fun _=>False) ((aB.refl _ _).below f) fun _ _ h=>h;obtain⟨au,ac,T,-,-,ah⟩:=bV.aD bq ai F.row;obtain⟨aw,ax,R,aq,n⟩:=ah.get aa;have L:=n k E 0 aa;have x1:=n k E 1 aa;have x2:=n k E 2 aa;obtain⟨az,Z⟩:=fI.1 g;rw[Z]at L x1 x2;simp only[bX,eG,eQ,df]at L x1 x2;have d2:w3.cell? (ag Pb 2)=some av:=aI F.blk;rw[T,R]at d2;have ay:(k:Int)<(ALL.length:Int):=aa;clear n ah aq Z F R T f C I a u v d1 l g r Y z;generalize W:c.1=p at*;obtain⟨J,K,s⟩:=p;have al:=af W;clear W;simp only at L x1 x2 Q |-;have x:=af (nG w3 w.heap.size _ #[ae J,ae K,ak s] _ _ i.o);have y:=af (oK P.o (aA w.heap.size) #[ae J,ae K,ak s])
  go_wp2_with (refine oF rfl 29 (.tmp 4) (.tmp 31) rfl rfl w.heap.size #[ae J,ae K,ak s] rfl rfl _ _ i.o aL rfl (by simp[Value.oneCell']) ?_)
  refine kC (vH rfl _ _ w.heap.size _ _ _ _ (.bool true) rfl rfl x.o underlying29 rfl aL) rfl ?_;refine⟨?_,y.o⟩;rw[show c.1.2.2=s by rw[al.o],Q.o];rfl
 .have ab:GQ (A.map (·.1)) d=none:=EU fun h=>by
   obtain⟨p,hp,rfl⟩:=dD.1 h;obtain⟨c,l,rfl⟩:=dD.1 hp;obtain⟨q,r⟩:=a.o.bwd c l;exact ad q r
  have am:=af ab;have x:=af (nG w3 w.heap.size _ #[ae 0,ae 0,ak 0] _ _ i.o);have y:=af (oK P.o (aA w.heap.size) #[ae 0,ae 0,ak 0]);clear ab ad f C I a u v d1 z
  go_wp2_with (refine oF rfl 29 (.tmp 4) (.tmp 24) rfl rfl w.heap.size #[ae 0,ae 0,ak 0] rfl rfl _ _ i.o aL rfl (by simp[Value.oneCell']) ?_)
  refine kC (vH rfl _ _ w.heap.size _ _ _ _ (.bool false) rfl rfl x.o underlying29 rfl aL) rfl ?_;refine⟨?_,y.o⟩;rw[am.o];rfl
end
end
section
open Go.RowKit Go.Lib
theorem w9 {L:List Pt} {k:Nat} (h:L.length<=k) (f:Pt->Bool):(dh (ids (L.filter f))).length<=k:=by
 rw[dY];unfold ids;rw[bK];exact bA (fq _ _) h
end
section
open Go.RowKit Go.Sort Go.Shelf Go.Lib Go.Maps
attribute [local irreducible] wpQuiet
attribute [local go_sem] Oper.dZ
theorem EW:eU 55:=bP func55 aL rfl
theorem Jk:eU 56:=bP func56 aL rfl
theorem Ri:eU 57:=bP func57 aL rfl
theorem OD:eU 59:=bP func59 aL rfl
section
variable {w w':World} {Pb Hb Ab base m:Nat} {av:Value} {G GH SD S:Nat->Prop} {A:List fB} {D:List (Int×Int)} {ALL now:List Pt} {N wk eT Eg:Int}
theorem AL (h:dG w Pb G m now N wk eT) (x y d:Int) (C:d∈ids now):
  aK 12 #[aj Pb,jb x y d] w (gD w (.tuple #[ae 0,.bool false])):=by
 obtain⟨Hb,Ab,base,av,GH,SD,A,D,ALL,f,rfl,L⟩:=h;have r:Hid (∃q,(d,q)∈D):=by
  have⟨p,hp,e⟩:=dD.1 C;obtain⟨c,B,rfl⟩:=dD.1 hp;rw[<-e];exact f.bwd c B
 have s:=af (bY w (.cells #[ae x,ae y,ak d] 29));have g:Below w.heap.size w (w.alloc (.cells #[ae x,ae y,ak d] 29)):=(aJ _ _).alloc (aA _) _;have b:=af (f.kept (S:=fun _=>False) ((aB.refl _ _).below g) fun _ _ h=>h);have j:=af g;obtain⟨t,ac,rfl,-,-,-⟩:=bV.aD bq ai f.row;go_enter func12,ntmps12
 go_wp2_with fail
 generalize w.alloc (.cells #[ae x,ae y,ak d] 29)=w1 at*;have u:w1.cell? (ag w.heap.size 2)=some (ak d):=ek s.o;have d1:w1.cell? (ag Pb 1)=some (aj Ab):=aI b.o.blk;have d2:w1.cell? (ag Pb 2)=some (.slice t ALL.length ac):=aI b.o.blk;have H:=ah u;have I:=ah d1;have J:=ah d2;have i:=af (b.o.kept (w':=w1.drew) (S:=fun _=>False) ((aB.refl _ _).drew) fun _ _ h=>h);have k:=af (lL i.o.blk);refine mo (fun W=>∃p:aR w1,W=p.W) [14,15,16] [(0,false)] ⟨⟨_,(aJ _ _).drew⟩,rfl⟩ 16 ?_;simp only[iX,sD,nz,sw,eG,eP]
 repeat(refine gF (fun K a=>?_);go_simp;first|(refine a _ ?_;clear a K)|(apply Exists.intro;refine⟨fun _=>?_,a _ ?_⟩;rfl;clear a K))
 refine jJ ?_;refine ay 1 rfl fun K a=>?_;refine aY EW rfl _ _ rfl (vals:=#[aj Pb]) rfl k.o ?_;rintro e w2 ⟨rfl,v⟩;subst v;refine⟨_,rfl,?_⟩;refine a _ _ (fun h _=>h) ?_;refine aW [(2,false),(3,false),(4,false),(5,false),(6,true),(7,false),(8,true),(9,false),(10,false),(11,false),(12,true),(13,false)] ⟨⟨_,(aJ _ _).drew⟩,rfl⟩ rfl ?_;have⟨q,E⟩:=r.o;have l:=af (Lh i.o.dir d (ALL.length:Int) q E);refine ay 14 rfl fun K a=>?_;refine fe Jk rfl _ _ rfl (vals:=#[aj Ab,ak d,ae ALL.length]) rfl l.o ?_;rintro e w3 ⟨rfl,z⟩;refine⟨_,rfl,?_⟩;refine a _ _ (fun _ h=>absurd ai h) ?_;have n:=af z;have F:=j.o.size;refine aF [15,16] ?_;go_wp2;go_ret2;exact⟨rfl,j.o.trans (((aJ _ _).drew.trans n.o).mono F)⟩
def WA (w:World) (Pb:Nat) (G:Nat->Prop) (m:Nat) (now:List Pt) (N wk eT:Int) (p:Pt) (e:Ending) (w':World):Prop:=
 ∃n:Nat,Ms N n/\e=.returned (.tuple #[ae n,.bool true])/\dG w' Pb (fun k=>G k\/w.heap.size<=k/\k<w'.heap.size) (m+1) (now++[p]) (N+1) (wk+n) eT/\aB G w w'
theorem uV (h:dG w Pb G m now N wk eT) (ap:m<5000) (x y d:Int) (bt:GU (x,y,d)) (aq:d∉ids now):
  aK 12 #[aj Pb,jb x y d] w (WA w Pb G m now N wk eT (x,y,d)):=by
 obtain⟨Hb,Ab,base,av,GH,SD,A,D,ALL,H,rfl,be⟩:=h;have bp:∀q,(d,q)∉D:=fun q hq=>by
  obtain⟨k,c,-,hc,-,e⟩:=H.fwd d q hq;exact aq (dD.2 ⟨c.1,dD.2 ⟨c,hc,rfl⟩,e⟩)
 have aZ:=af aq;have s:=af be;have bD:=H.few;have z:=af (bY w (.cells #[ae x,ae y,ak d] 29));have Y:Below w.heap.size w (w.alloc (.cells #[ae x,ae y,ak d] 29)):=(aJ _ _).alloc (aA _) _;have b:=af (H.kept (S:=fun _=>False) ((aB.refl _ _).below Y) fun _ _ h=>h);have aE:=af Y;have bw:=af (lL b.o.blk);obtain⟨l,ac,rfl,-,-,-⟩:=bV.aD bq ai H.row;have t:=af H;go_enter func12,ntmps12
 go_wp2_with fail
 generalize w.alloc (.cells #[ae x,ae y,ak d] 29)=w1 at*;have M:w1.cell? (ag w.heap.size 0)=some (ae x):=ek z.o;have O:w1.cell? (ag w.heap.size 1)=some (ae y):=ek z.o;have B:w1.cell? (ag w.heap.size 2)=some (ak d):=ek z.o;have d1:w1.cell? (ag Pb 1)=some (aj Ab):=aI b.o.blk;have d2:w1.cell? (ag Pb 2)=some (.slice l ALL.length ac):=aI b.o.blk;have ad:=ah B;have bx:=ah d1;have al:=ah d2;have R:=af (b.o.kept (w':=w1.drew) (S:=fun _=>False) ((aB.refl _ _).drew) fun _ _ h=>h);have aw:=af (lL R.o.blk);refine mo (fun W=>∃p:aR w1,W=p.W) [14,15,16] [(0,false)] ⟨⟨_,(aJ _ _).drew⟩,rfl⟩ 16 ?_;simp only[iX,sD,nz,sw,eG,eP]
 repeat(refine gF (fun K g=>?_);go_simp;first|(refine g _ ?_;clear g K)|(apply Exists.intro;refine⟨fun _=>?_,g _ ?_⟩;rfl;clear g K))
 refine jJ ?_;refine ay 1 rfl fun K g=>?_;refine aY EW rfl _ _ rfl (vals:=#[aj Pb]) rfl aw.o ?_;rintro e w2 ⟨rfl,a9⟩;subst a9;refine⟨_,rfl,?_⟩;refine g _ _ (fun h _=>h) ?_;refine aW [(2,false),(3,false),(4,false),(5,false),(6,true),(7,false),(8,true),(9,false),(10,false),(11,false),(12,true),(13,false)] ⟨⟨_,(aJ _ _).drew⟩,rfl⟩ rfl ?_;have az:=af (Q9 R.o.dir R.o.hb ap d (ALL.length:Int) bp);refine ay 14 rfl fun K g=>?_;refine fe Jk rfl _ _ rfl (vals:=#[aj Ab,ak d,ae ALL.length]) rfl az.o ?_;rintro e w3 ⟨rfl,bd,bs⟩;refine⟨_,rfl,?_⟩;refine g _ _ (fun _ h=>absurd ai h) ?_;have u:aB SD w1 w3:=((aB.refl _ w1).drew).trans bs.Jz;have bK:=u.size;have aM:=af bd.clip;have aO:=af (b.o.half.kept u fun k hk=>(b.o.si.1 k hk).1);have bj:=bu u b.o.blk (fun h9=>(b.o.si.2.1 Pb h9).1 rfl);have br:=aU b.o.row u (fun E e h9=>(b.o.si.2.1 E h9).2.1 e);have bJ:=(bg.1 z.o).1;have L:=af (bu u z.o (fun h9=>by have:=(t.o.si.2.1 _ h9).2.2;omega));have T:=af bj;have a0:=af br;have aV:=af u;refine aF [15,16] ?_
 go_wp2_with fail
 have M:w3.cell? (ag w.heap.size 0)=some (ae x):=ek L.o;have O:w3.cell? (ag w.heap.size 1)=some (ae y):=ek L.o;have B:w3.cell? (ag w.heap.size 2)=some (ak d):=ek L.o;have d2:w3.cell? (ag Pb 2)=some (.slice l ALL.length ac):=aI T.o;have ba:=ah M;have bb:=ah O;have ad:=ah B;have al:=ah d2;refine au (fun W=>∃p:aR w3,W=p.W) [7,8,9,10] [(0,false),(1,false),(2,false),(3,false),(4,true),(5,true)] ⟨⟨_,(aJ _ _).drew⟩,rfl⟩ 5 ?_;refine ay 6 rfl fun K g=>?_;go_simp;refine g _ _ (fun _ _=>⟨⟨_,((aJ _ w3).alloc (aA _) _).drew⟩,rfl⟩) ?_;refine ay 7 rfl fun K g=>?_;refine bF zL 0 (aU (S:=fun _=>False) a0.o (((aB.refl _ _).alloc _).drew) (fun _ _ h=>h)) [.int .i64 x,.int .i64 y,.int .u32 d] rfl (by simp[Value.oneCell']) rfl (.tmp 27) (.tmp 29) rfl rfl _ rfl (lU _ _) dE aa (aT _) ?_;intro f r w4 bc bl bk bm;refine g _ _ (fun _ h=>absurd ai h) ?_;have an:Value.ownBlock (.slice l ALL.length ac)=some f\/w3.heap.size<=f:=bk.imp id fun e=>by rw[e];simp
 have J:aB (fun k=>Value.ownBlock (.slice l ALL.length ac)=some k) w3 w4:=((((aB.refl _ w3).alloc _).drew)).grown bl fun k e=>.inl e;have bL:=J.size;have bC:=(bg.1 T.o).1;have X:=bu J T.o b.o.si.2.2;have a5:=af (bu J L.o (fun e=>by have:=(t.o.row.lt _ e).2;omega));have bN:w4.cell? (ag Pb 2)=some (.slice l ALL.length ac):=aI X;have f4:w4.frozen? (ag Pb 2)=false:=aI X;have bo:f≠Pb:=fun e=>an.elim (fun h=>b.o.si.2.2 (by rw[h,e])) fun h=>aa;have bi:(w4.setCell (ag Pb 2) (aC f (ALL.length+1) r)).heap[Pb]? =some (Obj.cells #[aj Hb,aj Ab,aC f (ALL.length+1) r,ae eT] yz (0,0)):=by
  rw[dC w4 Pb 2 _ _ _ X];rfl
 have a4:aB (fun k=>Value.ownBlock (.slice l ALL.length ac)=some k\/k=Pb) w3 (w4.setCell (ag Pb 2) (aC f (ALL.length+1) r)):=(J.mono fun k h=>.inl h).set _ (.inl (.inr rfl));have a7:=aU bc ((aB.refl (fun k=>k=Pb) w4).set (a:=(ag Pb 2)) (aC f (ALL.length+1) r) (.inl rfl)) (fun E e h=>bo (by have C:f=E:=(by injection e);rw[C];exact h));have a6:(w4.setCell (ag Pb 2) (aC f (ALL.length+1) r)).heap[w.heap.size]? =_:=(aG (a:=(ag Pb 2)) (fun e:Pb=w.heap.size=>by have:=(bg.1 t.o.blk).1;omega)).trans a5.o;have bv:(w4.setCell (ag Pb 2) (aC f (ALL.length+1) r)).heap.size=w4.heap.size:=ax;have Z:=af bi;have U:=af a4;have a1:=af a7;have V:=af a6;have a2:=af bv;have aN:=af an;have aX:=af bm;refine aF [8,9,10] ?_
 go_wp2_with fail
 generalize w4.setCell (ag Pb 2) (aC f (ALL.length+1) r)=j at*;have aP:=af (aO.o.kept U.o fun k hk h9=>by
  have P:=b.o.si.1 k hk;rcases h9 with h9|h9
  .exact P.2.2.1 h9
  .exact P.2.1 h9)
 have M:j.cell? (ag w.heap.size 0)=some (ae x):=ek V.o;have O:j.cell? (ag w.heap.size 1)=some (ae y):=ek V.o;have B:j.cell? (ag w.heap.size 2)=some (ak d):=ek V.o;have d0:j.cell? (ag Pb 0)=some (aj Hb):=aI Z.o;have ba:=ah M;have bb:=ah O;have ad:=ah B;have al:=ah d0;have ar:=af (Vh (w:=j.drew) (aP.o.kept (S:=fun _=>False) ((aB.refl _ j).drew) fun _ _ h=>h) ap x y d bt aZ.o);refine au (fun W=>∃p:aR j,W=p.W) [5,6,7,8,9] [(0,false),(1,false),(2,false),(3,true),(4,true)] ⟨⟨_,(aJ _ _).drew⟩,rfl⟩ 5 ?_;refine ay 5 rfl fun K g=>?_;refine aY Ri rfl _ _ rfl (vals:=#[aj Hb,jb x y d]) rfl ar.o ?_;rintro e w6 ⟨n,q,bn,rfl,bf,bh⟩;refine⟨_,rfl,?_⟩;refine g _ _ (fun _ h=>absurd ai h) ?_;have aS:=af bf.clip;have v:Hid (aB GH j w6):=((aB.refl _ j).drew).trans bh;refine dQ (fun _=>True) [8,9] aL ?_;refine aW [(6,false),(7,false)] trivial rfl ?_;refine aF [8,9] ?_;go_wp2;go_ret2;have bM:=v.o.size;have bI:=a2.o;have i:=b.o.si;have bB:=(bg.1 b.o.blk).1;have am:∀k,Value.ownBlock (.slice l ALL.length ac)=some k->k<w1.heap.size:=fun k e=>(b.o.row.lt k e).2;have I:∀k,Value.ownBlock (aC f (ALL.length+1) r)=some k->(Value.ownBlock (.slice l ALL.length ac)=some k\/w3.heap.size<=k)/\k<w4.heap.size:=fun k e=>by
  have C:f=k:=by injection e
  subst C;exact⟨aN.o,aX.o⟩
 have bE:w1.drew.heap.size=w1.heap.size:=rfl;have bG:j.drew.heap.size=j.heap.size:=rfl;have a3:aB (fun k=>(Value.ownBlock (.slice l ALL.length ac)=some k\/k=Pb)\/GH k) w3 w6:=(U.o.mono fun k h=>.inl h).trans (v.o.mono fun k h=>.inr h);have ao:∀k,Value.ownBlock (aC f (ALL.length+1) r)=some k->¬GH k:=fun k e h=>by
  rcases(I k e).1 with h9|h9
  .exact(i.1 k h).2.2.1 h9
  .have:=(i.1 k h).2.2.2;omega
 refine⟨n,bn,rfl,⟨Hb,Ab,base,_,_,_,_,D++[(d,(ALL.length:Int))],ALL++[(x,y,d)],⟨bu v.o Z.o (fun h=>(i.1 Pb h).2.1 rfl),?_,aS.o,aM.o.kept a3 ?_,bA t.o.hb aa,aH,?_,?_,⟨fun k hk=>?_,fun k hk=>?_,?_⟩⟩,ax,fun k hk=>?_⟩,?_⟩
 .have P:=aU a1.o v.o (fun E e=>ao E e);rw[bQ,gZ];exact P
 .rintro k ⟨hk,bH⟩ h9;rcases hk with hk|hk
  .rcases h9 with(h9|h9)|h9
   .exact(i.2.1 k hk).2.1 h9
   .exact(i.2.1 k hk).1 h9
   .exact(i.1 k h9).1 hk
  .rcases h9 with(h9|h9)|h9
   .have:=am k h9;omega
   .omega
   .have:=(i.1 k h9).2.2.2;omega
 .intro id Q hq;rcases bW.1 hq with hq|hq
  .obtain⟨k,c,a8,hc,ab,C⟩:=t.o.fwd id Q hq;exact⟨k,c,a8,JL _ hc,by rw[mr (fI.1 ab).1];exact ab,C⟩
  .obtain⟨rfl,rfl⟩:id=d/\Q=(ALL.length:Int):=aQ hq;exact⟨ALL.length,((x,y,id),q),rfl,ax,ax,rfl⟩
 .intro c hc;rcases bW.1 hc with hc|hc
  .obtain⟨Q,hq⟩:=t.o.bwd c hc;exact⟨Q,JL _ hq⟩
  .obtain rfl:c=((x,y,d),q):=aQ hc;exact⟨_,List.mem_append_right _ ny⟩
 .refine⟨?_,?_,fun e=>?_,hk.2⟩
  .rintro⟨h9,bz⟩;rcases hk.1 with wG|wG
   .rcases h9 with h9|h9
    .exact(i.1 k wG).1 h9
    .have:=(i.1 k wG).2.2.2;omega
   .omega
  .rintro rfl;rcases hk.1 with wG|wG
   .exact(i.1 k wG).2.1 rfl
   .omega
  .rcases hk.1 with wG|wG
   .exact ao k e wG
   .have:=(I k e).2;omega
 .refine⟨?_,fun e=>?_,by have:=hk.2;omega⟩
  .rintro rfl;rcases hk.1 with wG|wG
   .exact(i.2.1 k wG).1 rfl
   .omega
  .have F:=hk.2;rcases(I k e).1 with h9|h9
   .rcases hk.1 with wG|wG
    .exact(i.2.1 k wG).2.1 h9
    .have:=am k h9;omega
   .omega
 .intro e;rcases(I Pb e).1 with h9|h9
  .exact i.2.2 h9
  .omega
 .rcases hk with⟨hk,F⟩|⟨hk,F⟩|rfl|hk
  .rcases hk with hk|hk
   .exact .inl (s.o k (.inl hk))
   .exact .inr ⟨aa,F⟩
  .rcases hk with hk|hk
   .exact .inl (s.o k (.inr (.inl hk)))
   .exact .inr ⟨aa,aa⟩
  .exact .inl (s.o k (.inr (.inr (.inl rfl))))
  .have F:=I k hk;rcases F.1 with h9|h9
   .exact .inl (s.o k (.inr (.inr (.inr h9))))
   .exact .inr ⟨aa,aa⟩
 .refine((((aB.refl G w).below aE.o).trans (aV.o.mono fun k h=>s.o k (.inr (.inl h)))).trans (U.o.mono fun k h=>?_)).trans (v.o.mono fun k h=>s.o k (.inl h));rcases h with h|h
  .exact s.o k (.inr (.inr (.inr h)))
  .exact s.o k (.inr (.inr (.inl h)))
end
section
variable {w w':World} {Pb Hb Ab base m:Nat} {av:Value} {G GH SD S:Nat->Prop} {A:List fB} {D:List (Int×Int)} {ALL now:List Pt} {N wk eT Eg:Int}
theorem OE (h:dG w Pb G m now N wk eT) (d:Int) (p:d∉ids now):
  aK 13 #[aj Pb,ak d] w (gD w (.tuple #[ae 0,.bool false])):=by
 obtain⟨Hb,Ab,base,av,GH,SD,A,D,ALL,a,rfl,t⟩:=h;have r:∀q,(d,q)∉D:=fun q s=>by
  obtain⟨k,c,-,n,-,e⟩:=a.fwd d q s;exact p (dD.2 ⟨c.1,dD.2 ⟨c,n,rfl⟩,e⟩)
 have i:=af (lL a.blk);have g:=af (Ra a.dir d r);have d1:w.cell? (ag Pb 1)=some (aj Ab):=aI a.blk;go_enter func13,ntmps13
 go_wp2_with (first|(go_at_call 55;refine i.o.mono ?_;rintro e w1 ⟨rfl,b⟩;have l:=b.symm;clear b;subst l)|(go_at_call 58;refine g.o.mono ?_;rintro e w1 ⟨rfl,f⟩;have j:=af f;clear f))
 go_ret2;exact⟨rfl,j.o⟩
def WB (w:World) (Pb:Nat) (G:Nat->Prop) (m:Nat) (now:List Pt) (N wk eT:Int) (p:Pt) (e:Ending) (w':World):Prop:=
 ∃(n:Nat) (N':Int),e=.returned (.tuple #[ae n,.bool true])/\dG w' Pb (fun k=>G k\/w.heap.size<=k/\k<w'.heap.size) (m+1) (now.filter fun q=>decide (q≠p)) N' (wk+n) eT/\aB G w w'/\Xz (now.filter fun q=>decide (q≠p)).length N N' n
theorem xc (h:dG w Pb G m now N wk eT) (aS:m<5000) (x y d:Int) (P:(x,y,d)∈now):
  aK 13 #[aj Pb,ak d] w (WB w Pb G m now N wk eT (x,y,d)):=by
 obtain⟨Hb,Ab,base,av,GH,SD,A,D,ALL,g,rfl,aG⟩:=h;have⟨c,u,O⟩:=dD.1 P;have aP:=g.half.facts.2.2.2.1;have Q:∀f∈A,f.1.2.2=d->f.1=(x,y,d):=fun f j e=>by
  have aC:(A.map (·.1)).Pairwise fun p q=>p.2.2≠q.2.2:=dF.1 aP;rcases eZ aC (sF j) P with h1|h1|h1
  .exact h1
  .exact absurd e h1
  .exact absurd e.symm h1
 have⟨q,i⟩:=g.bwd c u;rw[O]at i;obtain⟨k,f,rfl,j,hk,hid⟩:=g.fwd d q i;rw[Q f j hid]at hk;have F:=(fI.1 hk).1;have ao:=af Q;have Y:=af u;have Z:=af O;have am:=af hk;have l:=af aG;have V:=af (lL g.blk);have U:=af (Oy g.dir g.hb d (k:Int) i);have d1:w.cell? (ag Pb 1)=some (aj Ab):=aI g.blk;have a:=af g;have a8:=g.few;go_enter func13,ntmps13
 go_wp2_with (go_at_call 55;refine V.o.mono ?_;rintro e w1 ⟨rfl,J⟩;have aA:=J.symm;clear J;subst aA)
 refine U.o.mono ?_;rintro e w3 ⟨rfl,aE,aV⟩;have s:=aV.Jz;have ab:=af aE.clip;have ae:=af (a.o.half.kept s fun k hk=>(a.o.si.1 k hk).1);have C:=bu s a.o.blk (fun h9=>(a.o.si.2.1 Pb h9).1 rfl);have R:=aU a.o.row s (fun B e h9=>(a.o.si.2.1 B h9).2.1 e);have be:=s.size;have X:=af C;have ap:=af R;have an:=af s
 go_wp2_with fail
 obtain⟨aX,ac,az,-,-,aT⟩:=bV.aD bq ai R;have⟨aZ,a0,ax,a9,E⟩:=aT.get aa;have I:=E k F 0 aa;have x1:=E k F 1 aa;have x2:=E k F 2 aa;have⟨bd,aQ⟩:=fI.1 am.o;rw[aQ]at I x1 x2;simp only[bX,eG,eQ,df]at I x1 x2;have d0:w3.cell? (ag Pb 0)=some (aj Hb):=aI C;have d2:w3.cell? (ag Pb 2)=some av:=aI C;rw[az,ax]at d2;have bc:(k:Int)<(ALL.length:Int):=aa;have a1:=ah d0;have a2:=ah d2;have a3:=ah I;have a4:=ah x1;have a5:=ah x2;have T:=af (Tn (w:=w3.drew) (ae.o.kept (S:=fun _=>False) ((aB.refl _ w3).drew) fun _ _ h=>h) aS c Y.o x y d Z.o);refine au (fun W=>∃p:aR w3,W=p.W) [11,12,13,14,15] [(0,false),(1,false),(2,false),(3,true),(4,false),(5,false),(6,false),(7,true),(8,false),(9,false),(10,true)] ⟨⟨_,(aJ _ _).drew⟩,rfl⟩ 5 ?_;refine ay 11 rfl fun K aM=>?_;refine aY OD rfl _ _ rfl (vals:=#[aj Hb,jb x y d]) rfl T.o ?_;rintro e w6 ⟨n,aq,rfl,aH,aN,aO⟩;have ad:=af aO;refine⟨_,rfl,?_⟩;refine aM _ _ (fun _ h=>absurd ai h) ?_;have al:=af aH.clip;have r:Hid (aB GH w3 w6):=((aB.refl _ w3).drew).trans aN;refine dQ (fun _=>True) [14,15] aL ?_;refine aW [(12,false),(13,false)] trivial rfl ?_;refine aF [14,15] ?_;go_wp2;go_ret2;have bf:=r.o.size;have b:=a.o.si;have ba:w3.drew.heap.size=w3.heap.size:=rfl;have a7:=(bg.1 a.o.blk).1;have M:∀k,av.ownBlock=some k->k<w.heap.size:=fun k e=>(a.o.row.lt k e).2;refine⟨n,aq,rfl,⟨Hb,Ab,base,av,_,_,_,D.filter fun z=>decide (z.1≠d),ALL,⟨bu r.o X.o (fun h=>(b.1 Pb h).2.1 rfl),aU ap.o r.o (fun B e h=>(b.1 B h).2.2.1 e),al.o,(ab.o.mono (fun k h=>h) (Nat.le_succ _)).kept r.o ?_,bA a.o.hb aa,aa,?_,?_,⟨fun k hk=>?_,fun k hk=>?_,b.2.2⟩⟩,?_,fun k hk=>?_⟩,?_,?_⟩
 .rintro k ⟨hk,bb⟩ h9;rcases hk with hk|hk
  .exact(b.1 k h9).1 hk
  .have:=(b.1 k h9).2.2.2;omega
 .intro id H i;have⟨i,t⟩:=bI.1 i;have⟨k,f,ar,u,aw,v⟩:=a.o.fwd id H i;refine⟨k,f,ar,bI.2 ⟨u,?_⟩,aw,v⟩;simp only[bO]at t |-;intro e;rw[e]at v;exact t v.symm
 .intro f j;have⟨j,t⟩:=bI.1 j;have⟨H,i⟩:=a.o.bwd f j;refine⟨H,bI.2 ⟨i,?_⟩⟩;simp only[bO]at t |-;exact fun e=>t (ao.o f j e)
 .refine⟨?_,?_,fun e=>?_,hk.2⟩
  .rintro⟨h9,a6⟩;rcases hk.1 with wG|wG
   .rcases h9 with h9|h9
    .exact(b.1 k wG).1 h9
    .have:=(b.1 k wG).2.2.2;omega
   .omega
  .rintro rfl;rcases hk.1 with wG|wG
   .exact(b.1 k wG).2.1 rfl
   .omega
  .rcases hk.1 with wG|wG
   .exact(b.1 k wG).2.2.1 e
   .have:=M k e;omega
 .refine⟨?_,fun e=>?_,by have:=hk.2;omega⟩
  .rintro rfl;rcases hk.1 with wG|wG
   .exact(b.2.1 k wG).1 rfl
   .omega
  .rcases hk.1 with wG|wG
   .exact(b.2.1 k wG).2.1 e
   .have:=M k e;omega
 .rw[yY];rfl
 .rcases hk with⟨hk,L⟩|⟨hk,L⟩|rfl|hk
  .rcases hk with hk|hk
   .exact .inl (l.o k (.inl hk))
   .exact .inr ⟨aa,L⟩
  .rcases hk with hk|hk
   .exact .inl (l.o k (.inr (.inl hk)))
   .exact .inr ⟨aa,aa⟩
  .exact .inl (l.o k (.inr (.inr (.inl rfl))))
  .exact .inl (l.o k (.inr (.inr (.inr hk))))
 .exact(an.o.mono fun k h=>l.o k (.inr (.inl h))).trans (r.o.mono fun k h=>l.o k (.inl h))
 .rw[yY,bK];exact ad.o
end
def addN (now:List Pt) (p:Pt):List Pt:=if p.2.2∈ids now then now else now++[p]
def uA (now:List Pt) (d:Int):List Pt:=now.filter fun q=>decide (q.2.2≠d)
theorem Jl {now:List Pt} {d:Int} (h:d∉ids now):uA now d=now:=by
 unfold uA;rw[kV];intro q a;simp only[bO,ne_eq];rintro rfl;exact h (sF a)
theorem Jm {now:List Pt} (hu:(ids now).Nodup) {p:Pt} (hp:p∈now):(now.filter fun q=>decide (q≠p))=uA now p.2.2:=by
 unfold uA;refine l9 fun q a=>?_;simp only[ne_eq,decide_not,Bool.not_inj_iff];rw[nD,bO,bO];refine⟨fun e=>by rw[e],fun e=>?_⟩;rcases eZ (dF.1 hu) a hp with h|h|h
 .exact h
 .exact absurd e h
 .exact absurd e.symm h
section
variable {w:World} {Pb m:Nat} {G:Nat->Prop} {now:List Pt} {N wk eT:Int}
def Uc (w:World) (Pb:Nat) (G:Nat->Prop) (m:Nat) (Xr:List Pt) (did:Bool) (wk eT:Int) (lo:Nat) (e:Ending) (w':World):Prop:=
 ∃(n:Nat) (N':Int),e=.returned (.tuple #[ae n,.bool did])/\dG w' Pb (fun k=>G k\/w.heap.size<=k/\k<w'.heap.size) (m+did.toNat) Xr N' (wk+n) eT/\aB G w w'/\(did=true->lo<=n)/\(did=false->n=0)
theorem Rj (h:dG w Pb G m now N wk eT) (f:m<5000) (p:Pt) (i:GU p):
  aK 12 #[aj Pb,jb p.1 p.2.1 p.2.2] w (Uc w Pb G m (addN now p) (decide (p.2.2∉ids now)) wk eT 1):=by
 by_cases a:p.2.2∈ids now
 .refine(AL h p.1 p.2.1 p.2.2 a).mono ?_;rintro e w' ⟨rfl,c⟩;have b:decide (p.2.2∉ids now)=false:=by simp[a]
  unfold addN;rw[aO a,b];exact⟨0,N,rfl,by rw[show wk+((0:Nat):Int)=wk by omega];exact(h.below c).more fun k h=>.inl h,(aB.refl _ _).below c,(fun h=>by cases h),fun _=>rfl⟩
 .refine(uV h f p.1 p.2.1 p.2.2 i a).mono ?_;rintro e w' ⟨n,g,rfl,hP,d⟩;have b:decide (p.2.2∉ids now)=true:=by simp[a]
  unfold addN;rw[aN a,b];exact⟨n,_,rfl,hP,d,fun _=>g.pos,fun h=>by cases h⟩
theorem ME (h:dG w Pb G m now N wk eT) (i:m<5000) (d:Int):
  aK 13 #[aj Pb,ak d] w (Uc w Pb G m (uA now d) (decide (d∈ids now)) wk eT 0):=by
 by_cases a:d∈ids now
 .obtain⟨p,hp,rfl⟩:=dD.1 a;refine(xc h i p.1 p.2.1 p.2.2 hp).mono ?_;rintro e w' ⟨n,f,rfl,hP,g,-⟩;have b:decide (p.2.2∈ids now)=true:=by simp[a]
  rw[b,<-Jm h.facts.2.2.2.1 hp];exact⟨n,f,rfl,hP,g,fun _=>aT _,fun h=>by cases h⟩
 .refine(OE h d a).mono ?_;rintro e w' ⟨rfl,c⟩;have b:decide (d∈ids now)=false:=by simp[a]
  rw[Jl a,b];exact⟨0,N,rfl,by rw[show wk+((0:Nat):Int)=wk by omega];exact(h.below c).more fun k h=>.inl h,(aB.refl _ _).below c,(fun h=>by cases h),fun _=>rfl⟩
abbrev Vp:=Int×Pt×Bx×Int
def OG (o:Vp):List Value:=[.int .u8 o.1,.int .i64 o.2.1.1,.int .i64 o.2.1.2.1,.int .u32 o.2.1.2.2,.int .i64 o.2.2.1.1,.int .i64 o.2.2.1.2.1,.int .i64 o.2.2.1.2.2.1,.int .i64 o.2.2.1.2.2.2.1,.int .u32 o.2.2.1.2.2.2.2,.int .u8 o.2.2.2]
theorem WC:eY prog 47 49 10 80:=.mk' (z:=.agg (OG (0,(0,0,0),(0,0,0,0,0),0)).toArray) underlying47 aL rfl ai
def Vq (o:Vp):Prop:=(Lit.int .u8 o.1).wf=true/\GU o.2.1/\Bx.wf o.2.2.1/\(Lit.int .u8 o.2.2.2).wf=true
end
theorem Jn (l l':List Int) (k:Nat) (h:l.take k=l'.take k) (a:k<l.length) (b:k<l'.length) (c:l[k]=l'[k]):l.take (k+1)=l'.take (k+1):=by
 rw[gT a,gT b,h,c]
theorem nT (a a':Option Addr) (l l':List Int) (n n' c J:Nat) (w:World) (M:l.length=n) (N:l'.length=n') (h:Rd (.int .u32) w a l) (h':Rd (.int .u32) w a' l') (V:n<=1000000) (W:n'<=1000000):
  aK 15 #[.slice a n c,.slice a' n' J] w (gD w (.bool (decide (l=l')))):=by
 subst M N;have G:=af h;have H:=af h';clear h h';generalize m:decide (l=l')=r;have d:=af m;clear m;by_cases j:l.length=l'.length
 .have K:((l.length:Int)!=(l'.length:Int))=false:=by simp[j]
  have z:=af j;clear j;go_enter func15,ntmps15;go_wp2
  go_loopw [13] (fun t wr=>∃k:Nat,t=.int .i64 k/\k<=l.length/\Below w.heap.size w wr/\Hid (l.take k=l'.take k)) (fun t _=>l.length-(intOf t).toNat)
  case atStart=>exact⟨0,rfl,aT _,aJ _ _,rfl⟩
  case round=>
   obtain⟨k,rfl,S,i,g⟩:=hrel;by_cases E:k<l.length
   .have F:k<l'.length:=by have:=z.o;omega
    obtain⟨b,off,A,Q,C⟩:=(G.o.below i).get aa;obtain⟨P,X,B,R,D⟩:=(H.o.below i).get aa;have Y:=C k E;have Z:=D k F;have T:(k:Int)<(l.length:Int):=aa;have U:(k:Int)<(l'.length:Int):=aa;have p:l[k]≠l'[k]->r=false:=fun O=>by
     rw[<-d.o];simp only[gY];intro e;subst e;exact O rfl
    have q:l[k]=l'[k]->Hid (l.take (k+1)=l'.take (k+1)):=fun L=>Jn l l' k g.o E F L;have x:=af A;have y:=af B;clear C D A B;generalize l[k]=u at*;generalize l'[k]=v at*;obtain rfl:=x.o;obtain rfl:=y.o;clear x y;by_cases f:u=v
    .have d0:(u !=v)=false:=by simp[f]
     have I:=q f;clear f p q g;go_wp2;go_region
     all_goals
      go_wp2;go_roundw
      case rel=>exact⟨k+1,by go_num,aa,i.drew,I⟩
      case measure=>exact bZ
    .have d0:(u !=v)=true:=by simp[f]
     have m:=p f;subst m;clear f p q d g;go_wp2;go_region
     all_goals
      go_wp2;go_ret;exact⟨rfl,i.drew⟩
   .obtain rfl:k=l.length:=aa;have s:r=true:=by
     rw[<-d.o,bO];have:=g.o;rw[iE,z.o,iE]at this;exact this
    subst s;clear g d;go_wp2;go_ret;exact⟨rfl,i⟩
 .have K:((l.length:Int)!=(l'.length:Int))=true:=aH;have s:r=false:=by
   rw[<-d.o,gY];rintro rfl;exact j rfl
  subst s;clear d j;go_enter func15,ntmps15;go_wp2;go_ret;exact⟨rfl,aJ _ _⟩
end
section
open Go.RowKit Go.Maps
theorem qj {l:List Pt}:(bL l).length<=l.length:=by
 have a:(bL l).length<=(fC l).length:=by unfold bL Ha;exact fq _ _
 rw[(dV l).length_eq]at a;exact a
theorem xe (A B:List Pt) (p:Pt):pJ (A++B) p=(pJ A p||pJ B p):=by unfold pJ;rw[List.any_append]
theorem nZ.self {l T:List Pt} (h:nZ l T):nZ T T:=⟨h.1,fun p=>⟨fun hp=>⟨hp,by rw[xA h];exact((h.2 p).1 hp).2⟩,fun hp=>hp.1⟩⟩
theorem GR {l:List Pt} (hu:lF l=true) {p:Pt} (h:p∈bL l):p∈l:=((kF ((fV l).1 hu)).2 p).1 h|>.1
theorem Bl {l:List Pt} (hu:lF l=true):lF (bL l)=true:=by
 rw[fV]at*;have a:(ids (fC l)).Nodup:=((dV l).map _).nodup_iff.2 hu;unfold bL Ha;exact a.sublist (List.Sublist.map _ Fu)
theorem DJ {l:List Pt} (hu:lF l=true):kP (bL l)=true:=by
 unfold kP;rw[(Hd _).2 (kF ((fV l).1 hu)).self,Bl hu];rfl
theorem MF {l:List Pt} (hu:lF l=true) (h:Mj l):Mj (bL l):=fun p hp=>h p (GR hu hp)
theorem yC {A B:List Pt}:lF (A++B)=true↔lF A=true/\lF B=true/\∀p∈A,∀q∈B,p.2.2≠q.2.2:=by
 simp only[fV,ids,bJ,oG,dD];refine and_congr Iff.rfl (and_congr Iff.rfl ⟨fun h p hp q a=>h _ ⟨p,hp,rfl⟩ _ ⟨q,a,rfl⟩,?_⟩);rintro h _ ⟨p,hp,rfl⟩ _ ⟨q,a,rfl⟩;exact h p hp q a
theorem EX {A B:List Pt} (h:lF (A++B)=true):lF (bL A++bL B)=true:=by
 rw[yC]at*;exact⟨Bl h.1,Bl h.2.1,fun p hp q a=>h.2.2 p (GR h.1 hp) q (GR h.2.1 a)⟩
theorem EY {l m:List Pt} (b:lF l=true) (c:lF m=true) (h:∀p,(p∈l/\pJ l p=false)↔(p∈m/\pJ m p=false)):bL l=bL m:=by
 have a:=kF ((fV _).1 b);exact nZ.unique (l:=m) ⟨a.1,fun p=>(a.2 p).trans (h p)⟩ (kF ((fV _).1 c))
theorem Rk {A B:List Pt} (h:lF (A++B)=true):bL (bL A++bL B)=bL (A++B):=by
 have d:=(yC.1 h).1;have e:=(yC.1 h).2.1;have b:=kF ((fV _).1 d);have c:=kF ((fV _).1 e);refine EY (EX h) h fun p=>?_;rw[xe,xe,xA b,xA c,bW,bW,b.2 p,c.2 p,Bool.or_eq_false_iff];constructor
 .rintro⟨h1|h1,a⟩
  .exact⟨.inl h1.1,a⟩
  .exact⟨.inr h1.1,a⟩
 .rintro⟨h1|h1,a⟩
  .exact⟨.inl ⟨h1,a.1⟩,a⟩
  .exact⟨.inr ⟨h1,a.2⟩,a⟩
theorem Tx:bL []=[]:=by simp[bL,Ha,fC]
end
end Go.Proofs.YtkjdbndekceffaaGreat
