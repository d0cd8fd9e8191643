/- Made small by a program. -/
import Derived.Test.YtkjdbndekceffaaGreatW12
set_option linter.unusedSimpArgs false
set_option linter.unusedVariables false
set_option maxRecDepth 100000
set_option maxHeartbeats 16000000
namespace Go.Proofs.YtkjdbndekceffaaGreat
open Tryz
section
open Go.RowKit Go.Sort Go.Shelf Go.Lib Go.Maps
attribute [local irreducible] wpQuiet
abbrev Lj (rv xv:Value) (fb:Nat) (nv hv:Value) (n:Int):Obj:=.cells #[rv,xv,ah fb,nv,hv,aa n] 161 (0,0)
structure dJ (w:World) (lo hi tb fb:Nat) (R:List Pt) (h:iy) (cnt:Int) (V:mr):Prop where
 blk:w.heap[tb]? =some (Lj V.rv V.xv fb V.nv V.hv cnt)
 fq:lo<=tb/\tb<hi/\lo<=fb/\fb<hi/\hi<=w.heap.size
 row:w.ownsRow lo 29 3 V.rv R.length (R.flatMap dx)
 xs:w.ownsRow lo 2 1 V.xv R.length ((bU R).map (Value.int .i64))
 ig:mQ w lo fb R.length V.fv
 iP:w.ownsRow lo 163 7 V.nv (aU R.length).length ((aU R.length).flatMap nU)
 nE:w.ownsRow lo 3 1 V.hv (aU R.length).length (GA h (aU R.length).length)
 top:∀v,v=V.rv\/v=V.xv\/v=V.nv\/v=V.hv\/v=V.fv->∀g,v.ownBlock=some g->g<hi
section
variable {w w':World} {lo hi tb fb:Nat} {R:List Pt} {h:iy} {cnt:Int} {V:mr}
theorem dJ.congr {h':iy} (H:dJ w lo hi tb fb R h cnt V) (e:∀k,k<(aU R.length).length->h' k=h k):dJ w lo hi tb fb R h' cnt V:=
 ⟨H.blk,H.fq,H.row,H.xs,H.ig,H.iP,by rw[La e];exact H.nE,H.top⟩
theorem dJ.kept {S:Nat->Prop} (H:dJ w lo hi tb fb R h cnt V) (K:au S w w') (hS:∀k,lo<=k->k<hi->¬S k):dJ w' lo hi tb fb R h cnt V:=by
 have ht:=H.top;have a:∀{e:TypeId} {sz:Nat} {v:Value} {n:Nat} {xs:List Value},w.ownsRow lo e sz v n xs->(∀g,v.ownBlock=some g->g<hi)->w'.ownsRow lo e sz v n xs:=fun a b=>aS a K fun g e=>hS g (a.lt g e).1 (b g e);exact⟨bF K H.blk (hS tb H.fq.1 H.fq.2.1),⟨H.fq.1,H.fq.2.1,H.fq.2.2.1,H.fq.2.2.2.1,bJ H.fq.2.2.2.2 K.size⟩,
  a H.row (ht _ (by simp)),a H.xs (ht _ (by simp)),
  ⟨bF K H.ig.blk (hS fb H.fq.2.2.1 H.fq.2.2.2.1),a H.ig.row (ht _ (by simp))⟩,a H.iP (ht _ (by simp)),a H.nE (ht _ (by simp)),H.top⟩
theorem dJ.below {B:Nat} (H:dJ w lo hi tb fb R h cnt V) (a:Below B w w') (e:hi<=B):dJ w' lo hi tb fb R h cnt V:=
 H.kept (S:=fun k=>hi<=k) ⟨a.os,a.tape,a.output,a.size,fun k f g=>a.block k (by omega)⟩ fun k b c d=>by omega
theorem dJ.ED (H:dJ w lo hi tb fb R h cnt V):tb<w.heap.size:=bB H.fq.2.1 H.fq.2.2.2.2
theorem dJ.nodes (H:dJ w lo hi tb fb R h cnt V) (l:0<R.length):∃g off c,V.nv=.slice (some (ae g off)) (aU R.length).length c/\cz nU 7 w (some (ae g off)) (aU R.length):=by
 have m:=dh R.length;have⟨g,c,e,_⟩:=aQ H.iP (by omega);obtain⟨a,i,b,-,-,d⟩:=cz.aC iZ (by decide) H.iP;rw[e]at b;injection b with f j k;rw[<-f]at d;exact⟨g,0,c,e,d⟩
theorem dJ.holds (H:dJ w lo hi tb fb R h cnt V) (r:0<R.length):∃g c,V.hv=aj g (aU R.length).length c/\lo<=g/\g<hi/\g≠tb/\g≠fb/\g<w.heap.size/\(∀k,k<(aU R.length).length->w.cell? (ae g k)=some (aa (nG (h k)))/\w.frozen? (ae g k)=false)/\
  (∀a,V.rv.ownBlock=some a->a≠g)/\(∀a,V.xv.ownBlock=some a->a≠g)/\(∀a,V.nv.ownBlock=some a->a≠g)/\∀a,V.fv.ownBlock=some a->a≠g:=by
 have x:=dh R.length;have⟨g,c,e,y,u,s,t⟩:=aQ H.nE (by omega);have b:=H.nE;rw[e]at b;have p:(aj g (aU R.length).length c).ownBlock=some g:=rfl;have f:∀{j:TypeId} {sz n:Nat} {v:Value} {xs:List Value},w.ownsRow lo j sz v n xs->j≠3->∀a,v.ownBlock=some a->a≠g:=fun q o a d l=>bD q b o a d (l▸p);refine⟨g,c,e,(b.lt g rfl).1,H.top V.hv (by simp) g (by rw[e];rfl),fun i=>bz b H.blk (by decide) g rfl i.symm,fun i=>bz b H.ig.blk (by decide) g rfl i.symm,(b.lt g rfl).2,fun k m=>⟨?_,b.frozenAt k⟩,f H.row (by decide),f H.xs (by decide),f H.iP (by decide),f H.ig.row (by decide)⟩;have d:=b.cellAt k (by omega);rw[JR h m]at d;exact d
theorem dJ.mW (H:dJ w lo hi tb fb R h cnt V) {g n c:Nat} (i:V.hv=aj g n c) {k:Nat} (j:k<(aU R.length).length) (v:Option Nat):
  dJ (w.setCell (ae g k) (.int .i64 (nG v))) lo hi tb fb R (fV h k v) cnt V:=by
 have K:au (fun k=>k=g) w (w.setCell (ae g k) (.int .i64 (nG v))):=(au.refl (fun k=>k=g) w).set (a:=(ae g k)) _ (.inl rfl);have e:=H.nE;rw[i]at e;have l:n=(aU R.length).length:=by
  rcases e.2 with⟨d,-⟩|⟨p,m,o,d,-⟩
  .cases d
  .injection d with _ d _
 subst l;have⟨cs,fr,b⟩:=pU e;have f:=(e.stored k (.int .i64 (nG v))).1;rw[JS h j v]at f;refine⟨Ef H.blk K b (by decide),by simpa using H.fq,eX H.row K b (by decide),eX H.xs K b (by decide),xR H.ig K b (by decide) (by decide),eX H.iP K b (by decide),?_,H.top⟩;rw[i];exact f
theorem dJ.Ay (H:dJ w lo hi tb fb R h cnt V) (m:Int):dJ (w.setCell (ae tb 5) (.int .i64 m)) lo hi tb fb R h m V:=by
 have K:au (fun k=>k=tb) w (w.setCell (ae tb 5) (.int .i64 m)):=(au.refl (fun k=>k=tb) w).set (a:=(ae tb 5)) _ (.inl rfl);have b:=H.blk;exact⟨dA w tb 5 _ _ _ H.blk,by simpa using H.fq,eX H.row K b (by decide),eX H.xs K b (by decide),xR H.ig K b (by decide) (by decide),eX H.iP K b (by decide),eX H.nE K b (by decide),H.top⟩
end
end
section
open Go.RowKit Go.Sort Go.Shelf Go.Lib Go.Maps
attribute [local irreducible] wpQuiet
attribute [local go_sem] Oper.fo
structure NT (w:World) (tb:Nat) (R:List Pt):Prop where
 lt:tb<w.heap.size
 row:∃ra rc,w.cell? (ae tb 0)=some (.slice ra R.length rc)/\cz dx 3 w ra R
theorem NT.below {w w':World} {tb:Nat} {R:List Pt} (H:NT w tb R) (a:Below w.heap.size w w'):NT w' tb R:=by
 have⟨d,e,b,c⟩:=H.row;exact⟨bB H.lt a.size,d,e,(a.cell (p:=(ae tb 0)) H.lt).trans b,c.below a⟩
theorem dJ.P7 {w:World} {lo hi tb fb:Nat} {cnt:Int} {R:List Pt} {h:iy} {V:mr} (H:dJ w lo hi tb fb R h cnt V):NT w tb R:=by
 obtain⟨c,d,b,-,-,e⟩:=cz.aC bu (by decide) H.row;have a:=H.blk;rw[b]at a;exact⟨H.ED,c,d,by simp[World.cell?,a],e⟩
theorem yc {w:World} {tb:Nat} {R:List Pt} (H:NT w tb R) (P:R.length<=20000) (g d:Option Nat) (B:∀i,g=some i->i<R.length) (C:∀i,d=some i->i<R.length):
  aH 103 #[ah tb,aa (nG g),aa (nG d)] w (eY w (aa (nG (lowO R g d)))):=by
 obtain⟨am,an,ap,J,K⟩:=H;have N:=af K;have y:Hid (∀n,Below w.heap.size w (w.drewN n)):=fun n=>Below.bC _ n;clear K;cases g with
 |none=>
  have v:lowO R none d=d:=rfl;rw[v];generalize nG d=k at*;show Calls _ _ #[_,aa (-1),_] _ _;go_enter func103,ntmps103
  go_upto_region 1 with fail
  go_quiet (fail)
  go_wp2;go_ret;exact⟨rfl,y.o _⟩
 |some i=>
  have hi:=B i rfl;have aj:((i:Int)==-1)=false:=by first|(simp;done)|(simp;omega)
  have ak:decide ((i:Int)=-1)=false:=by first|(simp;done)|(simp;omega)
  cases d with
  |none=>
   have v:lowO R (some i) none=some i:=rfl;rw[v];show Calls _ _ #[_,aa (i:Int),aa (-1)] _ fun e w'=>e=.returned (aa (i:Int))/\_;go_enter func103,ntmps103
   go_upto_region 1 with fail
   go_quiet (fail)
   go_wp2;go_ret;exact⟨rfl,y.o _⟩
  |some j=>
   have f:=C j rfl;have f1:((j:Int)==-1)=false:=by first|(simp;done)|(simp;omega)
   have f2:decide ((j:Int)=-1)=false:=by first|(simp;done)|(simp;omega)
   have f3:((j:Int)!=-1)=true:=by first|(simp;done)|(simp;omega)
   have a:lowO R (some i) (some j)=if BL R j i then some j else some i:=rfl;obtain⟨ao,aq,O,al,c⟩:=N.o.get (by omega);have m:=c i hi 0 (by omega);have r:=c i hi 1 (by omega);have s:=c i hi 2 (by omega);have t:=c j f 0 (by omega);have v1:=c j f 1 (by omega);have u:=c j f 2 (by omega);simp only[dx,aM,aN,dM]at m r s t v1 u;rw[<-dF hi]at m r s;rw[<-dF f]at t v1 u;subst O;have z:Hid (BL R j i=decide (nA (bV R j) (bV R i)<0)):=by
    show _=_;unfold BL;rw[tV,pK]
   rw[z.o]at a;have A:=af a;obtain⟨I,F⟩:∃I,I=R.length:=⟨_,rfl⟩;rw[<-F]at J P hi f;clear c z B C F a;generalize bV R i=p at*;generalize bV R j=q at*;have L:=af (fun W=>NK q p W);generalize nA q p=l at*;obtain⟨ab,ac,Z⟩:=p;obtain⟨ae,ai,ad⟩:=q;simp only at m r s t v1 u;have M:Hid (∀b:aT w,aH 71 #[iD ae ai ad,iD ab ac Z] b.W fun e w'=>e=.returned (aa l)/\Below b.W.heap.size b.W w'):=fun b=>L.o b.W;generalize lowO R (some i) (some j)=res at*;simp only[nG];have Q:=ag J;have S:=ag m;have T:=ag r;have U:=ag s;have V:=ag t;have X:=ag v1;have Y:=ag u;go_enter func103,ntmps103
   go_upto_region 1 with fail
   refine bI (by kernel_rfl) (by kernel_rfl) ?_
   repeat(quiet_step ((go_at_call 71;exact dC (M.o _))))
   refine jb ?_;intro w4 G;have D:Below w.heap.size w w4:=by obtain⟨b,rfl⟩:=G;exact b.h
   have x:=af D;clear G D Q S T U V X Y;by_cases E:l<0
   .have d1:decide (l<0)=true:=by simp[E]
    have a:=A.o;rw[d1,aK rfl]at a;subst a;go_wp2;go_ret;exact⟨rfl,x.o⟩
   .have d1:decide (l<0)=false:=by simp[E]
    have a:=A.o;rw[d1,aI (by decide)]at a;subst a;go_wp2;go_ret;exact⟨rfl,x.o⟩
def nH (R:List Pt) (x1 x2:Int):List Nat×Nat:=
 if R.length=0\/x2<x1 then([],0)
 else if iU R x1<lD R x2 then(((dK 0 R.length).canon 0 (iU R x1) (lD R x2)).1,(aR (bU R) x1).2+(aP (bU R) x2).2+((dK 0 R.length).canon 0 (iU R x1) (lD R x2)).2)
 else([],(aR (bU R) x1).2+(aP (bU R) x2).2)
theorem P8 {R:List Pt} {x1 x2:Int} (a:R.length=0\/x2<x1):nH R x1 x2=([],0):=by unfold nH;rw[aK a]
def P9 (w:World) (r:List Nat×Nat) (e:Ending) (w':World):Prop:=
 ∃v,e=.returned (.tuple #[v,aa (r.2:Nat)])/\w'.ownsRow w.heap.size 3 1 v r.1.length (r.1.map fA)/\Below w.heap.size w w'
theorem Ll {W:World} {lo hi tb fb:Nat} {cnt:Int} {R:List Pt} {h:iy} {V:mr} (b:dJ W lo hi tb fb R h cnt V) (ao:R.length<=20000) (x1 x2:Int):
  aH 110 #[ah tb,aa x1,aa x2] W (P9 W (nH R x1 x2)):=by
 have L:=b.ED;have d:=b.blk;obtain⟨ai,aj,A⟩:=fD b.row;obtain⟨D,E,B,-,-,s⟩:=Rd.aC b.xs;rw[A,B]at d;have j:(bU R).length=R.length:=by unfold bU;rw[bX]
 rw[j]at d;have Q:W.cell? (ae tb 0)=some (.slice ai R.length aj):=by simp[World.cell?,d]
 have y:W.cell? (ae tb 1)=some (.slice D R.length E):=by simp[World.cell?,d]
 have z:W.cell? (ae tb 2)=some (ah fb):=by simp[World.cell?,d]
 by_cases q:R.length=0\/x2<x1
 .rw[P8 q];have G:Hid (P9 W ([],0) (.returned (.tuple #[aG,aa 0])) W):=⟨_,rfl,dz _ _ _ _,aB _ _⟩;clear b d s A B y z;generalize R.length=n at*;by_cases a:n=0
  .have d0:((n:Int)==0)=true:=by simp[a]
   have d1:(n==0)=true:=by simp[a]
   have d2:decide (n=0)=true:=by simp[a]
   clear a q j;go_enter func110,ntmps110;go_wp2;go_ret2;exact G.o
  .have d0:((n:Int)==0)=false:=by simp[a]
   have d1:(n==0)=false:=by simp[a]
   have d2:decide (n=0)=false:=by simp[a]
   have f1:decide (x1>x2)=true:=by simp;omega
   have f2:decide (x2<x1)=true:=by simp;omega
   clear a q j;go_enter func110,ntmps110;go_wp2;go_ret2;exact G.o
 .have a:0<R.length:=by omega
  have t:=af (fun W' (m:Below W.heap.size W W')=>DY D (bU R) E x1 W' (s.below m) (by omega));have u:=af (fun W' (m:Below W.heap.size W W')=>DZ D (bU R) E x2 W' (s.below m) (by omega));have ad:=fU (fun i=>decide (x1<=(bU R).getD i 0)) (bU R).length;have ag:=fU (fun i=>decide (x2<(bU R).getD i 0)) (bU R).length;have ap:(aR (bU R) x1).2<=20000:=by unfold aR;omega
  have aq:(aP (bU R) x2).2<=20000:=by unfold aP;omega
  obtain⟨ak,al,am⟩:=bO 0 R.length a;have X:=eZ 0 R.length a;have Y:=(FT.pX (iU R x1) (lD R x2) (dK 0 R.length) 0).1;have M:=PN R x2;have k:Hid (iU R x1<lD R x2->∀W',Below W.heap.size W W'->aH 175 #[ah fb,aa (iU R x1),aa (lD R x2)] W' (PO W' R.length (iU R x1) (lD R x2))):=fun f W' m=>
   FN lo fb R.length (iU R x1) (lD R x2) V.fv (by omega) f M W' (b.below m b.fq.2.2.2.2).ig
  have l:Hid (nH R x1 x2=if iU R x1<lD R x2 then(((dK 0 R.length).canon 0 (iU R x1) (lD R x2)).1,(aR (bU R) x1).2+(aP (bU R) x2).2+((dK 0 R.length).canon 0 (iU R x1) (lD R x2)).2)else([],(aR (bU R) x1).2+(aP (bU R) x2).2)):=by
   show nH R x1 x2=_
   conv=>lhs;unfold nH
   rw[aI q]
  have x:Hid (iU R x1=(aR (bU R) x1).1/\lD R x2=(aP (bU R) x2).1):=⟨rfl,rfl⟩;rw[<-x.o.1,j]at t;rw[<-x.o.2,j]at u;have f1:decide (x1>x2)=false:=by simp;omega
  have f2:decide (x2<x1)=false:=by simp;omega
  unfold PO at k;have Z:((dK 0 R.length).canon 0 (iU R x1) (lD R x2)).2<=40000:=by omega
  obtain⟨dg,J⟩:∃dg,dg=(dK 0 R.length).canon 0 (iU R x1) (lD R x2):=⟨_,rfl⟩;rw[<-J]at k l Z;clear b d s A B q ad ag ak al am X j J Y M;generalize iU R x1=fr at*;generalize lD R x2=tu at*;generalize ab:(aR (bU R) x1).2=N at*;generalize ac:(aP (bU R) x2).2=O at*;generalize nH R x1 x2=ask at*;clear ab ac x;generalize R.length=n at*;have d0:((n:Int)==0)=false:=by simp;omega
  have d1:(n==0)=false:=by simp;omega
  have d2:decide (n=0)=false:=by simp;omega
  go_enter func110,ntmps110
  go_wp2_with fail
  refine(t.o W (aB _ _)).mono ?_;rintro e w1 ⟨rfl,C⟩;have S:=(C.cell (p:=(ae tb 1)) L).trans y;have r:=af C;clear C
  go_wp2_with fail
  refine(u.o w1 r.o).mono ?_;rintro e w2 ⟨rfl,H⟩;have g:Hid (Below W.heap.size W w2):=r.o.trans (H.mono r.o.size);have an:=(g.o.cell (p:=(ae tb 2)) L).trans z;clear H S t u r Q y z;by_cases f:fr<tu
  .have T:decide ((tu:Int)<=(fr:Int))=false:=by simp;omega
   have U:decide (tu<=fr)=false:=by simp;omega
   have c:=l.o;rw[aK f]at c;have P:=af c;have F:=af (k.o f w2 g.o);clear c f k l
   go_wp2_with fail
   refine F.o.mono ?_;rintro e w3 ⟨v,rfl,K,I⟩;have w:Hid (P9 W ask (.returned (.tuple #[v,aa ((N+O+dg.2:Nat):Int)])) w3):=by
    rw[P.o];exact⟨v,rfl,bL K g.o.size,g.o.trans (I.mono g.o.size)⟩
   clear K I F;go_wp2;go_ret2;exact w.o
  .have T:decide ((tu:Int)<=(fr:Int))=true:=by simp;omega
   have U:decide (tu<=fr)=true:=by simp;omega
   have c:=l.o;rw[aI f]at c;have w:Hid (P9 W ask (.returned (.tuple #[aG,aa ((N+O:Nat):Int)])) w2):=by
    rw[c];exact⟨_,rfl,dz _ _ _ _,g.o⟩
   clear c f k l;go_wp2;go_ret2;exact w.o
theorem Qa {R:List Pt} {x1 x2:Int}:∀k∈(nH R x1 x2).1,k<(aU R.length).length:=fun k a=>by
 unfold nH at a;by_cases b:R.length=0\/x2<x1
 .rw[aK b]at a;exact absurd a gZ
 .rw[aI b]at a;by_cases c:iU R x1<lD R x2
  .rw[aK c]at a;exact FT.NH _ 0 (jF R.length (by omega)) k a
  .rw[aI c]at a;exact absurd a gZ
theorem Lm {R:List Pt} (d:R.length<=20000) (x1 x2:Int):(nH R x1 x2).1.length<=40000/\(nH R x1 x2).2<=100000:=by
 unfold nH;by_cases a:R.length=0\/x2<x1
 .rw[aK a];simp
 .rw[aI a];have f:=fU (fun i=>decide (x1<=(bU R).getD i 0)) (bU R).length;have h:=fU (fun i=>decide (x2<(bU R).getD i 0)) (bU R).length;have k:(bU R).length=R.length:=by unfold bU;rw[bX]
  have g:(aR (bU R) x1).2<=20000:=by unfold aR;omega
  have j:(aP (bU R) x2).2<=20000:=by unfold aP;omega
  have e:=eZ 0 R.length (by omega);have c:=FT.pX (iU R x1) (lD R x2) (dK 0 R.length) 0;by_cases b:iU R x1<lD R x2
  .rw[aK b];exact⟨bJ c.2 (by omega),by have:=c.1;simp only;omega⟩
  .rw[aI b];exact⟨by simp,by show _+_<=_;omega⟩
theorem JX {R:List Pt} {gone:List Bool} {YS:List Nat} {N:List Nd} (b:cB R gone YS) (c:List Nat):∀i,rF R N YS c=some i->i<R.length:=by
 intro i h;have a:=FU (N:=N) b c none (fun _=>False) (fun _ h=>h.elim) (fun _ h=>h);unfold rF at h;rw[h]at a;rcases a.1 with h2|h2
 .exact h2.elim
 .obtain⟨k,-,d⟩:=wV.1 h2;exact Cz b d
theorem nI {P:Program} {fn:Func} {p q r:Tmp} {ty:TypeId} (h:fn.results=#[.cell p ty,.tmp q,.tmp r]) (a:Array Value) (w:World) (g:Nat) (t:TypeId) (cs:Array Value) (fr:Nat×Nat) (d:TypeDesc) (b c:Value)
  (hp:a.getD p undef=ah g) (e:a.getD q undef=b) (i:a.getD r undef=c) (k:w.heap[g]? =some (.cells cs t fr))
  (hu:P.underlying ty=some d) (hd:(match d with|.struct _|.array _ _=>true|_=>false)=true) (hi:(P.info? ty).map (·.size)=some cs.size):
  (results fn a).run P w=.ok (.tuple #[.agg cs,b,c]) w:=by
 have l:a[p]?.getD undef=ah g:=by simpa using hp
 have f:a[q]?.getD undef=b:=by simpa using e
 have j:a[r]?.getD undef=c:=by simpa using i
 simp[results,h,l,f,j,asAddr,run_loadVar_row w g t ty cs fr d k hu hd hi]
theorem IQ {w:World} {lo hi tb fb:Nat} {cnt:Int} {R:List Pt} {gone:List Bool} {YS:List Nat} {V:mr} (f:dJ w lo hi tb fb R (kz (aU R.length) YS) cnt V) (ag:cB R gone YS) (I:R.length<=20000) (x1 x2:Int):
  aH 42 #[ah tb,aa x1,aa x2] w fun e w'=>(∃p:Pt,p=((rF R (aU R.length) YS (nH R x1 x2).1).map (bV R)).getD (0,0,0)/\e=.returned (.tuple #[iD p.1 p.2.1 p.2.2,.bool (rF R (aU R.length) YS (nH R x1 x2).1).isSome,aa ((nH R x1 x2).2:Nat)]))/\Below w.heap.size w w':=by
 obtain⟨aw,ax⟩:=Lm I x1 x2;have F:=af (Qa (R:=R) (x1:=x1) (x2:=x2));have C:=af (fun W (aQ:Below w.heap.size w W)=>Ll (f.below aQ f.fq.2.2.2.2) I x1 x2);obtain⟨ask,ak⟩:∃ask,ask=nH R x1 x2:=⟨_,rfl⟩;rw[<-ak]at C F aw ax |-;clear ak;obtain⟨a,ik⟩:=ask;simp only at aw ax F |-;have g:=af f;have G:=af ag;have a5:=f.ED;obtain⟨w1,q⟩:∃w1,w1=w.alloc (.cells #[aa 0,aa 0,ai 0] 29):=⟨_,rfl⟩;have al:Below w.heap.size w w1:=by rw[q];exact(aB _ _).alloc (ay _) _
 have az:w1.heap[w.heap.size]? =some (wG (0,0,0)):=by rw[q];exact di w _
 have l:=af al;have H:=af az;have S:=af q;clear q al az f ag;go_enter func42,ntmps42
 go_upto_region 1 with fail
 rw[<-S.o];clear S
 go_wp2_with fail
 refine(C.o w1 l.o).mono ?_;rintro e w2 ⟨v,rfl,av,K⟩;have m:=af (l.o.trans (K.mono l.o.size));have aS:w.heap.size<w1.heap.size:=(aZ.1 H.o).1;have Z:=af ((K.block w.heap.size aS).trans H.o);have aT:w.heap.size<w2.heap.size:=(aZ.1 Z.o).1;obtain⟨a6,a7,rfl,-,-,aq⟩:=Rd.aC (enc:=fA) av;have aE:=af aq;clear av aq K C l H;go_wp2
 go_loopw [11,23] (fun bv O wr=>∃j:Nat,O=.int .i64 j/\j<=a.length/\bv=.int .i64 (nG (rF R (aU R.length) YS (a.take j)))/\Hid (Below w2.heap.size w2 wr)) (fun _ O _=>a.length-(intOf O).toNat)
 case atStart=>exact⟨0,rfl,bf _,rfl,af (aB _ _)⟩
 case round=>
  obtain⟨j,rfl,a1,rfl,c⟩:=hrel;by_cases L:j<a.length
  .have a2:(j:Int)<(a.length:Int):=by omega
   have ap:=F.o a[j] (bN L);have aP:0<R.length:=by have:=dh R.length;omega
   have aD:=af (m.o.trans (c.o.mono (by have:=m.o.size;omega)));have r:=g.o.below aD.o (by have:=g.o.fq;omega);obtain⟨aL,ch,ac,-,-,-,-,a0,an,-⟩:=r.holds aP;have J:=r.blk;rw[ac]at J;have aG:wr.cell? (ae tb 4)=some (aj aL (aU R.length).length ch):=by simp[World.cell?,J]
   have aI:=(an a[j] ap).1;have P:=af (yc r.P7 I (rF R (aU R.length) YS (a.take j)) (kz (aU R.length) YS a[j]) (JX G.o _) (fun i h=>AU G.o h));have aF:Hid (rF R (aU R.length) YS (a.take (j+1))=lowO R (rF R (aU R.length) YS (a.take j)) (kz (aU R.length) YS a[j])):=by
    show _=_;rw[dZ L,K9]
   obtain⟨b,off,ab,aY,ao⟩:=(aE.o.below c.o).get (by omega);have aV:=ao j L;simp only[fA]at aV;have Q:=af ab;have aR:(aU R.length).length<=40000:=by rw[dh];omega
   obtain⟨M,ad⟩:∃M,M=(aU R.length).length:=⟨_,rfl⟩;rw[<-ad]at aG ap aR;clear an ao J ac r ab ad;generalize lowO R (rF R (aU R.length) YS (a.take j)) (kz (aU R.length) YS a[j])=a8 at*;generalize kz (aU R.length) YS a[j]=bk at*;generalize rF R (aU R.length) YS (a.take j)=aW at*;generalize a[j]=k at*;obtain rfl:=Q.o;clear Q
   go_wp2_with fail
   refine P.o.mono ?_;rintro e w3 ⟨rfl,am⟩;have d:=af (c.o.trans (am.mono c.o.size));clear am P;go_wp2;go_roundw
   case rel=>exact⟨j+1,by go_num,by omega,by rw[aF.o],d⟩
   case measure=>simp[intOf];omega
  .obtain rfl:j=a.length:=by omega
   rw[jy]at*;have au:=JX (N:=aU R.length) G.o a;generalize ar:rF R (aU R.length) YS a=o at*;have HO:=af ar;clear ar;have d:=af (m.o.trans (c.o.mono (by have:=m.o.size;omega)));have n:=af ((c.o.block w.heap.size aT).trans Z.o);obtain⟨w3,aK⟩:∃w3:World,w3=wr:=⟨_,rfl⟩;subst aK;cases o with
   |none=>
    simp only[nG,kT,l6,Option.isSome_none];have T:=qQ w3 w.heap.size _ #[aa 0,aa 0,ai 0] _ _ n.o;have U:=xq d.o (ay w.heap.size) #[aa 0,aa 0,ai 0];have D:=af T;have E:=af U;clear T U
    go_wp2_with (refine tL rfl 29 (.tmp 6) (.tmp 40) rfl rfl w.heap.size #[aa 0,aa 0,ai 0] rfl rfl _ _ n.o (by kernel_rfl) rfl (by simp[Value.oneCell']) ?_)
    refine jT (nI rfl _ _ w.heap.size _ _ _ _ (.bool false) (.int .i64 (ik:Nat)) rfl rfl rfl D.o underlying29 rfl (by kernel_rfl)) rfl ?_;exact⟨⟨(0,0,0),by first|rfl|(rw[HO.o];rfl),by first|rfl|(rw[HO.o];rfl)⟩,E.o⟩
   |some i=>
    have s:=au i rfl;have aI:((i:Int)==-1)=false:=by first|(simp;done)|(simp;omega)
    have aX:decide ((i:Int)=-1)=false:=by first|(simp;done)|(simp;omega)
    obtain⟨a3,ba,bc,a9,aA⟩:=(g.o.below d.o (by have:=g.o.fq;omega)).P7;obtain⟨bb,bd,aJ,a4,t⟩:=aA.get (by omega);have z:=t i s 0 (by omega);have A:=t i s 1 (by omega);have B:=t i s 2 (by omega);simp only[dx,aM,aN,dM]at z A B;rw[<-dF s]at z A B;subst aJ;simp only[nG,aO,gq,Option.isSome_some];have X:Hid (∃p,p=bV R i):=⟨_,rfl⟩;obtain⟨p,hp⟩:=X.o;have Y:=af hp;rw[<-hp]at z A B;clear hp X;obtain⟨u,x,y⟩:=p;simp only at z A B;clear t aA au;have D:=af (qQ w3 w.heap.size _ #[aa u,aa x,ai y] _ _ n.o);have E:=af (xq d.o (ay w.heap.size) #[aa u,aa x,ai y])
    go_wp2_with (refine tL rfl 29 (.tmp 6) (.tmp 48) rfl rfl w.heap.size #[aa u,aa x,ai y] rfl rfl _ _ n.o (by kernel_rfl) rfl (by simp[Value.oneCell']) ?_)
    refine jT (nI rfl _ _ w.heap.size _ _ _ _ (.bool true) (.int .i64 (ik:Nat)) rfl rfl rfl D.o underlying29 rfl (by kernel_rfl)) rfl ?_;exact⟨⟨(u,x,y),by first|exact Y.o|(rw[HO.o];exact Y.o),by first|rfl|(rw[HO.o];rfl)⟩,E.o⟩
end
section
open Go Go.RowKit
namespace FT
theorem uN:∀(t:FT) (s x:Nat),t.wf->t.lo<=x->x<t.hi->
  (∀i k,(t.path s x)[i]? =some k->i+1<(t.path s x).length->∃l r b,(node l r,b)∈t.subs s/\(node l r).root b=k)/\
  ∃L k,t.path s x=L++[k]/\(leaf x,k)∈t.subs s
 |leaf a,s,x,h,g,j=>by
  have o:a=x:=by simp only[lo,hi]at g j;omega
  subst o;refine⟨fun i k hi c=>?_,[],s,by rw[path];rfl,by simp[subs]⟩;rw[path]at c;simp at c
 |node l r,s,x,h,g,j=>by
  have w:=h.2.2;have key:∀(t:FT) (b:Nat),(∀p∈t.subs b,p∈(node l r).subs s)->(node l r).path s x=(node l r).root s::t.path b x->
    ((∀i k,(t.path b x)[i]? =some k->i+1<(t.path b x).length->∃l r f,(node l r,f)∈t.subs b/\(node l r).root f=k)/\∃L k,t.path b x=L++[k]/\(leaf x,k)∈t.subs b)->
    (∀i k,((node l r).path s x)[i]? =some k->i+1<((node l r).path s x).length->∃l' d b,(node l' d,b)∈(node l r).subs s/\(node l' d).root b=k)/\∃L k,(node l r).path s x=L++[k]/\(leaf x,k)∈(node l r).subs s:=fun t b n e ⟨q,L,k,u,v⟩=>by
   rw[e];refine⟨fun i k hi c=>?_,(node l r).root s::L,k,by rw[u];rfl,n _ v⟩
   match i with
   |0=>
    simp only[aM]at hi;injection hi with hi;exact⟨l,r,s,by simp[subs],hi⟩
   |i+1=>
    simp only[aN]at hi;have⟨l',d,f,m1,m2⟩:=q i k hi (by simpa using c);exact⟨l',d,f,n _ m1,m2⟩
  by_cases m:x<l.hi
  .exact key l s (fun p hp=>by simp[subs,hp]) (by rw[path,aK m]) (uN l s x h.1 g m)
  .exact key r (s+l.size) (fun p hp=>by simp[subs,hp]) (by rw[path,aI m]) (uN r _ x h.2.1 (by omega) j)
end FT
def yf (N:List Nd) (YS UY:List Nat) (P:List Nat) (m:Nat):iy:=fun k=>if k∈P.take m then kz N YS k else kz N UY k
section
variable {R:List Pt} {gone QO:List Bool} {YS:List Nat} {x:Nat}
theorem Lp (g:x<R.length) {k:Nat} (c:k<(aU R.length).length) (hP:k∉(dK 0 R.length).path 0 x):kz (aU R.length) (dV YS x) k=kz (aU R.length) YS k:=by
 have b:0<R.length:=by omega
 have⟨t,s,a,e⟩:=rZ c;subst e;have⟨w1,w2,w3⟩:=bO 0 R.length b;have d:=FT.at_mem (fG b▸a);have f:¬(t.lo<=x/\x<t.hi):=fun h=>hP (FT.vH _ 0 x w1 (t,s) d h.1 h.2);unfold kz;rw[AR a,AR a];congr 1;unfold nl dV;rw[qF];apply lZ;intro i _;by_cases e:i=x
 .subst e;simp[f]
 .simp[e]
structure NU (R:List Pt) (YS:List Nat) (x:Nat) (P:List Nat):Prop where
 lt:∀k∈P,k<(aU R.length).length
 down:P.Pairwise (·>·)
 aside:∀k,k<(aU R.length).length->k∉P->kz (aU R.length) (dV YS x) k=kz (aU R.length) YS k
 inner:∀i (h:i+1<P.length),∃l r s,FT.At (aU R.length) (.node l r) s/\(FT.node l r).wf/\(FT.node l r).root s=P[i]'(qG h)
 last:∃h:P.length-1<P.length,FT.At (aU R.length) (.leaf x) P[P.length-1]
theorem RP (YS:List Nat) (m:x<R.length):NU R YS x ((dK 0 R.length).path 0 x):=by
 have a:0<R.length:=by omega
 have⟨w1,w2,w3⟩:=bO 0 R.length a;have g:=jF R.length a;have d:=g;rw[fG a]at d;have c:∀p∈(dK 0 R.length).subs 0,FT.At (aU R.length) p.1 p.2:=fun p hp=>by rw[fG a];exact FT.kg _ 0 d _ hp
 have⟨n,L,k,f,o⟩:=FT.uN (dK 0 R.length) 0 x w1 (by omega) (by omega);refine⟨fun k b=>?_,FT.rW _ 0 x w1 (by omega) (by omega),fun k b hP=>Lp m b hP,fun i h=>?_,?_⟩
 .obtain⟨p,hp,e,-⟩:=FT.mg _ 0 x w1 (by omega) (by omega) k b;rw[<-e];exact(c p hp).lt
 .obtain⟨l,r,s,m1,m2⟩:=n i _ (dw (qG h)) h;exact⟨l,r,s,c _ m1,FT.pG _ 0 w1 _ m1,m2⟩
 .have j:((dK 0 R.length).path 0 x).length-1<((dK 0 R.length).path 0 x).length:=by rw[f];simp
  refine⟨j,?_⟩;have e:((dK 0 R.length).path 0 x)[((dK 0 R.length).path 0 x).length-1]=k:=by simp[f]
  rw[e];exact c _ o
variable {P:List Nat} (hP:NU R YS x P)
include hP
theorem NU.sorted {i j:Nat} (a:i<j) (b:j<P.length):P[j]<P[i]:=gH.1 hP.down i j (by omega) b a
theorem NU.Bb {m k:Nat} (b:m<P.length) (d:k<=P[m]) (h:k∈P.take m):False:=by
 have⟨i,hi,e⟩:=jk h;have a:i<m:=by simp at hi;omega
 have c:P[i]'(by omega)=k:=by rw[<-e];simp
 have:=hP.sorted a b;omega
theorem Lr (c:cB R QO (dV YS x)) (k:Nat) (g:k<(aU R.length).length):fV (kz (aU R.length) YS) (P[P.length-1]'hP.last.1) none k=yf (aU R.length) YS (dV YS x) P (P.length-1) k:=by
 have⟨j,d⟩:=hP.last;unfold yf;by_cases e:k=P[P.length-1]
 .subst e;rw[fO,aI (fun h=>hP.Bb j (ay _) h),AV c d,aI (by simp[dV])]
 .rw[gU e];by_cases h:k∈P.take (P.length-1)
  .rw[aK h]
  .rw[aI h];refine(hP.aside k g fun b=>?_).symm;have⟨i,hi,a⟩:=jk b;by_cases f:i=P.length-1
   .subst f;exact e a.symm
   .exact h (by rw[<-a];exact List.mem_take_iff_getElem.2 ⟨i,by omega,rfl⟩)
theorem NV (g:cB R QO (dV YS x)) {m:Nat} (a:m+1<P.length):∃l r s,FT.At (aU R.length) (.node l r) s/\(FT.node l r).root s=P[m]'(qG a)/\
  yf (aU R.length) YS (dV YS x) P (m+1) (l.root s)=kz (aU R.length) (dV YS x) (l.root s)/\yf (aU R.length) YS (dV YS x) P (m+1) (r.root (s+l.size))=kz (aU R.length) (dV YS x) (r.root (s+l.size))/\
  ∀k,fV (yf (aU R.length) YS (dV YS x) P (m+1)) (P[m]'(qG a)) (lowO R (kz (aU R.length) (dV YS x) (l.root s)) (kz (aU R.length) (dV YS x) (r.root (s+l.size)))) k=yf (aU R.length) YS (dV YS x) P m k:=by
 have⟨l,r,s,c,i,e⟩:=hP.inner m a;have d:l.root s<(FT.node l r).root s/\r.root (s+l.size)<(FT.node l r).root s:=by
  have:=l.size_pos;have:=r.size_pos;have j:(FT.node l r).size=l.size+r.size+1:=rfl;unfold FT.root;omega
 have f:∀k,k<(FT.node l r).root s->k∉P.take (m+1):=fun k b h=>by
  rw[e]at b;rw[dZ (qG a),bT,ll]at h;rcases h with h|h
  .exact hP.Bb (qG a) (um b) h
  .omega
 refine⟨l,r,s,c,e,aI (f _ d.1),aI (f _ d.2),fun k=>?_⟩;by_cases b:k=P[m]
 .subst b;rw[fO];unfold yf;rw[aI (fun h=>hP.Bb (qG a) (ay _) h),<-e,FR g c i]
 .rw[gU b];unfold yf;have:k∈P.take (m+1)↔k∈P.take m:=by
   rw[dZ (qG a),bT,ll];exact⟨fun h=>h.resolve_right b,.inl⟩
  simp only[this]
theorem NW:yf (aU R.length) YS (dV YS x) P 0=kz (aU R.length) (dV YS x):=by
 have _:=hP;funext k;unfold yf;rw[zM,aI gZ]
end
end
section
open Go.RowKit Go.Sort Go.Shelf Go.Lib Go.Maps
attribute [local irreducible] wpQuiet
attribute [local go_sem] Oper.fo
theorem Bc:∀args w,(callFunc 103 args).run prog w=.ok (.enter 103 args) w:=cK func103 (by kernel_rfl) rfl
def IU (w:World) (lo hi tb fb:Nat) (R:List Pt) (YS:List Nat) (cnt:Int) (V:mr) (x:Nat) (e:Ending) (w':World):Prop:=
 (x∉YS/\e=.returned (.bool false)/\Below w.heap.size w w')\/(x∈YS/\e=.returned (.bool true)/\dJ w' lo hi tb fb R (kz (aU R.length) (dV YS x)) (cnt-1) V/\au (fun k=>lo<=k/\k<hi) w w')
theorem F5 {w:World} {lo hi tb fb:Nat} {R:List Pt} {gone:List Bool} {YS:List Nat} {cnt:Int} {V:mr} (I:dJ w lo hi tb fb R (kz (aU R.length) YS) cnt V) (aR:cB R gone YS) (c8:R.length<=20000) (dP:0<=cnt) (dQ:cnt<=20000) {x:Nat} (L:x<R.length) (p:Pt) (hp:R[x]=p):
  aH 127 #[ah tb,iD p.1 p.2.1 p.2.2] w (IU w lo hi tb fb R YS cnt V x):=by
 have B:=I.blk;have dk:=I.ED;have C:=I.fq;obtain⟨bT,bU,b6,-,-,bK⟩:=cz.aC bu (by decide) I.row;rw[b6]at B;have CB:=af (fun W (B:Below w.heap.size w W)=>Nn bT R R.length bU p W rfl (by omega) (bK.below B) aR.zT);have a1:=Eh aR.zT L;rw[hp]at a1;rw[a1.1,a1.2]at CB;have cO:=af bK;have cq:bV R x=p:=by rw[dF L];exact hp
 have cN:=af cq;have ax:=af L;obtain⟨bf,bh,be⟩:=p;obtain⟨w1,aG⟩:∃w1,w1=w.alloc (.cells #[aa bf,aa bh,ai be] 29):=⟨_,rfl⟩;have bx:Below w.heap.size w w1:=by rw[aG];exact(aB _ _).alloc (ay _) _
 have ac:w1.heap[w.heap.size]? =some (.cells #[aa bf,aa bh,ai be] 29 (0,0)):=by rw[aG];exact di w _
 have bJ:w.heap.size<w1.heap.size:=(aZ.1 ac).1;have a2:=(bx.block tb dk).trans B;have U:w1.cell? (ae tb 0)=some (.slice bT R.length bU):=by simp[World.cell?,a2]
 have bb:w1.cell? (ae w.heap.size 0)=some (aa bf):=by simp[World.cell?,ac]
 have bc:w1.cell? (ae w.heap.size 1)=some (aa bh):=by simp[World.cell?,ac]
 have bd:w1.cell? (ae w.heap.size 2)=some (ai be):=by simp[World.cell?,ac]
 have dj:0<R.length:=by omega
 have cu:=L;obtain⟨n,bH⟩:∃n,n=R.length:=⟨_,rfl⟩;rw[<-bH]at c8 U CB dj cu;have v:=af bH;have ao:=af bx;have b0:=af I;have bp:=af aR;have b4:=af (RP YS L);have dl:tb<w1.heap.size:=by omega
 clear I bK B b6 bH bx ac a2 a1 hp L aR cq;have d0:((n:Int)==0)=false:=by simp;omega
 have d1:(n==0)=false:=by simp;omega
 have d2:decide (n=0)=false:=by simp;omega
 go_enter func127,ntmps127
 go_upto_region 1 with fail
 rw[<-aG];clear aG
 go_upto_region 3 with fail
 have b2:Hid (∀b:aT w1,aH 191 #[.slice bT n bU,iD bf bh be,.func (.func 94) #[] #[]] b.W fun e w'=>e=.returned (.tuple #[aa (x:Nat),.bool true])/\Below b.W.heap.size b.W w'):=fun b=>CB.o b.W (ao.o.trans (b.h.mono ao.o.size));clear CB;have c2:=ag U;have c3:=ag bb;have c4:=ag bc;have c5:=ag bd;refine bI (by kernel_rfl) (by kernel_rfl) ?_
 repeat(quiet_step ((go_at_call 191;exact dC (b2.o _))))
 refine jb ?_;intro wc ct;have J:Below w1.heap.size w1 wc:=by obtain⟨b,rfl⟩:=ct;exact b.h
 have U:=(J.cell (p:=(ae tb 0)) dl).trans U;have bb:=(J.cell (p:=(ae w.heap.size 0)) bJ).trans bb;have bc:=(J.cell (p:=(ae w.heap.size 1)) bJ).trans bc;have bd:=(J.cell (p:=(ae w.heap.size 2)) bJ).trans bd;have S:Hid (Below w.heap.size w wc):=ao.o.trans (J.mono ao.o.size);clear ct J c2 c3 c4 c5 b2;have av:Hid (dJ wc lo hi tb fb R (kz (aU R.length) YS) cnt V):=b0.o.below S.o C.2.2.2.2;have cj:=av.o.blk;have bq:wc.cell? (ae tb 2)=some (ah fb):=by simp[World.cell?,cj]
 obtain⟨b,off,cZ,da,f⟩:=(cO.o.below S.o).get (by have:=v.o;omega);have bQ:=f x ax.o 0 (by omega);have bR:=f x ax.o 1 (by omega);have bS:=f x ax.o 2 (by omega);rw[<-dF ax.o,cN.o]at bQ bR bS;simp only[dx,aM,aN,dM]at bQ bR bS;subst cZ;clear f cj b0
 go_upto_region 4 with fail
 go_quiet (fail)
 obtain⟨w3,aL⟩:∃w3,w3=wc.drewN nq:=⟨_,rfl⟩;have bz:Below wc.heap.size wc w3:=by rw[aL];exact Below.bC _ _
 have bq:w3.cell? (ae tb 2)=some (ah fb):=by rw[aL];exact bq
 have ar:Hid (dJ w3 lo hi tb fb R (kz (aU R.length) YS) cnt V):=av.o.below bz av.o.fq.2.2.2.2;have ap:Hid (Below w.heap.size w w3):=S.o.trans (bz.mono S.o.size);have bY:=af (uD lo fb n x V.fv (by omega) cu w3 (by rw[v.o];exact ar.o.ig))
 go_upto_region 6 with fail
 rw[<-aL];clear aL bz av S bQ bR bS bb bc bd U da
 go_wp2_with fail
 refine bY.o.mono ?_;rintro e w4 ⟨pv,rfl,a6,bA⟩;have T:Hid (dJ w4 lo hi tb fb R (kz (aU R.length) YS) cnt V):=ar.o.below bA ar.o.fq.2.2.2.2;have b1:Hid (Below w.heap.size w w4):=ap.o.trans (bA.mono ap.o.size);have d4:w.heap.size<=w3.heap.size:=ap.o.size;obtain⟨P,aQ⟩:∃P,P=(dK 0 n).path 0 x:=⟨_,rfl⟩;have dN:P.length<=n+1:=by
  have b7:=FT.nP (dK 0 n) 0 x;have dL:=uz 0 n n (um (Dh));rw[aQ];omega
 rw[<-aQ]at a6;have E:Hid (NU R YS x P):=by rw[aQ,v.o];exact b4.o
 clear aQ;obtain⟨dD,cy,rfl,-,-,ad⟩:=Rd.aC (enc:=fA) a6;have bo:Hid (w4.ownsRow w3.heap.size 3 1 (.slice dD P.length cy) P.length (P.map fA)):=a6;obtain⟨co,b9⟩:=E.o.last;have a4:=E.o.lt _ (bN co);obtain⟨az,bP,c0,dO,cb⟩:=ad.get (by omega);have bk:=cb (P.length-1) co;simp only[fA]at bk;obtain⟨G,ch,bt,ck,cl,dd,-,dR,f,-⟩:=T.o.holds (by have:=v.o;omega);obtain⟨t,Q⟩:=f _ a4;rw[show kz (aU R.length) YS P[P.length-1]=if x∈YS then some x else none from AV bp.o b9]at t;have Z:=T.o.blk;rw[bt]at Z;have F:w4.cell? (ae tb 4)=some (aj G (aU R.length).length ch):=by simp[World.cell?,Z]
 have cW:w4.cell? (ae tb 5)=some (aa cnt):=by simp[World.cell?,Z]
 have dG:w4.frozen? (ae tb 5)=false:=by simp[World.frozen?,Z]
 have cF:=af bt;have cK:Hid (P[P.length-1]=P[P.length-1]):=rfl;have c7:(aU R.length).length<=40000:=by have:=v.o;rw[dh];omega
 have cY:((P.length-1:Nat):Int)=(P.length:Int)-1:=by omega
 have d5:=T.o.ED;have dS:G≠tb:=dd;obtain⟨lf,bF⟩:∃lf,lf=P[P.length-1]:=⟨_,rfl⟩;obtain⟨M,bw⟩:∃M,M=(aU R.length).length:=⟨_,rfl⟩;rw[<-bF]at bk t Q a4;rw[<-bw]at F a4 c7;have cJ:=af bF;have bm:=af bw;obtain⟨m1,bG⟩:∃m1,m1=P.length-1:=⟨_,rfl⟩;rw[<-bG]at bk;have dX:(P.length:Int)-1=(m1:Int):=by omega
 have dY:(m1:Int)<(P.length:Int):=by omega
 have dZ:m1<P.length:=by omega
 have cL:=af bG;clear bG;subst c0;clear Z bt f a6 ad bA bY ar ap bq cb bF bw b9 cY cK;by_cases A:x∈YS
 .rw[aK A]at t;simp only[nG]at t;have b8:=bp.o.drop ((bp.o.live x).1 A);have aw:=af b8;have dH:((x:Int)==-1)=false:=by first|(simp;done)|(simp;omega)
  have dI:decide ((x:Int)=-1)=false:=by first|(simp;done)|(simp;omega)
  have cR:=af A;obtain⟨bW,X⟩:∃bW,bW=w4.setCell (ae G lf) (.int .i64 (-1)):=⟨_,rfl⟩;obtain⟨w6,Y⟩:∃w6,w6=bW.setCell (ae tb 5) (.int .i64 (cnt-1)):=⟨_,rfl⟩;have cM:Hid (dJ w6 lo hi tb fb R (yf (aU R.length) YS (dV YS x) P m1) (cnt-1) V):=by
   rw[Y,X];have b7:=((T.o.mW cF.o (by rw[<-bm.o];exact a4) none).Ay (cnt-1));refine b7.congr fun k dg=>?_;rw[cJ.o,cL.o];exact(Lr E.o aw.o k dg).symm
  have cH:Hid (au (fun k=>lo<=k/\k<hi) w w6):=by
   rw[Y,X];exact((((au.refl _ w).below b1.o).set (a:=(ae G lf)) _ (.inl ⟨ck,cl⟩)).set (a:=(ae tb 5)) _ (.inl ⟨C.1,C.2.1⟩))
  have b5:Hid (w6.ownsRow w3.heap.size 3 1 (.slice (some (ae az bP)) P.length cy) P.length (P.map fA)):=by
   have bO:au (fun k=>lo<=k/\k<hi) w4 w6:=by rw[Y,X];exact(((au.refl _ w4).set (a:=(ae G lf)) _ (.inl ⟨ck,cl⟩)).set (a:=(ae tb 5)) _ (.inl ⟨C.1,C.2.1⟩))
   exact aS bo.o bO (fun g e H=>by have:=(bo.o.lt g e).1;have:=H.2;have:=C.2.2.2.2;omega)
  have b3:Hid (w6=(w4.setCell (ae G lf) (.int .i64 (-1))).setCell (ae tb 5) (.int .i64 (cnt-1))):=by rw[Y,X];rfl
  clear X Y b8 A T bo b4
  go_upto_region 12 with fail
  rw[<-b3.o];clear b3 F cW dG t Q bk;go_wp2
  go_loopw [10] (fun bL wr=>∃(m:Nat) (i:Int),bL=.int .i64 i/\i=(m:Int)-1/\m<=m1/\Hid (dJ wr lo hi tb fb R (yf (aU R.length) YS (dV YS x) P m) (cnt-1) V)/\Hid (au (fun k=>lo<=k/\k<hi) w6 wr)) (fun bL _=>(intOf bL+1).toNat)
  case atStart=>exact⟨m1,_,rfl,by omega,ay _,cM,af (au.refl _ _)⟩
  case round=>
   obtain⟨m,i,rfl,df,d3,u,bl⟩:=hrel;by_cases dW:0<m
   .obtain⟨j,rfl⟩:∃j,m=j+1:=⟨m-1,by omega⟩;obtain rfl:i=(j:Int):=by omega
    clear df;obtain⟨l,r,s,aV,ci,cf,cg,cs⟩:=NV E.o aw.o (m:=j) (by omega);have cm:j<P.length:=by omega
    have dU:(j:Int)<(P.length:Int):=by omega
    have cC:=aS b5.o bl.o (fun g e H=>by have:=(b5.o.lt g e).1;have:=H.2;have:=C.2.2.2.2;omega);obtain⟨_,_,aE,-,-,ad⟩:=Rd.aC (enc:=fA) cC;injection aE with aE _ _;obtain⟨cT,dB,bs,dc,cc⟩:=ad.get (by omega);obtain⟨rfl,rfl⟩:az=cT/\bP=dB:=by rw[<-aE]at bs;simpa using bs
    have an:=cc j cm;simp only[fA]at an;obtain⟨c6,dA,cn,env,cA⟩:=u.o.nodes (by have:=v.o;omega);obtain⟨y,cX,bv,a2,de,dT,-,a3,f,-⟩:=u.o.holds (by have:=v.o;omega);obtain⟨-,n0,al,am,a7,a8,a9,ba⟩:=l9 cA aV.get;have a5:=E.o.lt _ (bN cm);have cp:=aV.left.lt;have cr:=aV.right.lt;obtain⟨t,Q⟩:=f _ a5;obtain⟨y1,-⟩:=f _ cp;obtain⟨y2,-⟩:=f _ cr;rw[cf]at y1;rw[cg]at y2;have a0:=u.o.blk;rw[env,bv]at a0;have br:wr.cell? (ae tb 3)=some (.slice (some (ae c6 dA)) (aU R.length).length cn):=by simp[World.cell?,a0]
    have F:wr.cell? (ae tb 4)=some (aj y (aU R.length).length cX):=by simp[World.cell?,a0]
    have cd:((FT.node l r).top s).l=((l.root s:Nat):Int):=by show((s+l.size:Nat):Int)-1=_;unfold FT.root;have:=l.size_pos;omega
    have ce:((FT.node l r).top s).r=((r.root (s+l.size):Nat):Int):=by show((s+l.size+r.size:Nat):Int)-1=_;unfold FT.root;have:=r.size_pos;omega
    rw[cd]at al;rw[ce]at am;have c9:=u.o.ED;have bX:=af (fun W (B:Below wr.heap.size wr W)=>yc (u.o.P7.below B) (by have:=v.o;omega) (kz (aU R.length) (dV YS x) (l.root s)) (kz (aU R.length) (dV YS x) (r.root (s+l.size))) (fun i h=>AU aw.o h) (fun i h=>AU aw.o h));have cP:=af cs;have cG:=af bv;rw[ci]at n0 al am a7 a8 a9 ba;rw[<-bm.o]at br F a5 cp cr;obtain⟨O,bE⟩:∃O,O=P[j]:=⟨_,rfl⟩;have cI:=af bE;rw[<-bE]at an n0 al am a7 a8 a9 ba t Q a5;clear bE ci cs cf cg a0 env bv f cA cc cC ad aE bs cd ce aV;generalize lowO R (kz (aU R.length) (dV YS x) (l.root s)) (kz (aU R.length) (dV YS x) (r.root (s+l.size)))=cx at*;generalize kz (aU R.length) (dV YS x) (l.root s)=cS at*;generalize kz (aU R.length) (dV YS x) (r.root (s+l.size))=cU at*;generalize l.root s=kl at*;generalize r.root (s+l.size)=kr at*;generalize(FT.node l r).top s=d at*;obtain⟨q,aP⟩:∃q,q=(wr.alloc (.cells #[.int .u8 d.kind,aa kl,aa kr,aa d.fr,aa d.Jk,aa 0,aa d.item] 163)).drew:=⟨_,rfl⟩;have z:Below wr.heap.size wr q:=by rw[aP];exact((aB _ _).alloc (ay _) _).drew
    have N:q.heap[wr.heap.size]? =some (.cells #[.int .u8 d.kind,aa kl,aa kr,aa d.fr,aa d.Jk,aa 0,aa d.item] 163 (0,0)):=by rw[aP];exact di wr _
    have aq:=af z;have cQ:=af N;have bZ:=af aP;clear aP z N;have bM:=ag br;have dz:=ag an;have dq:=ag n0;have dr:=ag al;have ds:=ag am;have dt:=ag a7;have du:=ag a8;have dv:=ag a9;have dw:=ag ba
    go_upto_region 15 with fail
    refine ak (fun W=>∃p:aT wr,W=p.W) [11] [(0,false),(1,false),(2,false),(3,true),(4,false),(5,false),(6,false),(7,true),(8,false),(9,true)] ⟨⟨_,(aB _ _).drew⟩,rfl⟩ 2 ?_;simp only[bn,aX,aY,aW,aN,aM,aO]
    repeat(refine aD (fun K c=>?_);go_simp;first|(refine c _ ?_;clear c K)|(apply Exists.intro;refine⟨fun _=>?_,c _ ?_⟩;rfl;clear c K))
    refine aJ ?_;refine aA 10 rfl fun K c=>?_;go_simp;refine c _ _ (fun _ _=>⟨⟨_,((aB _ _).drew).alloc (ay _) _⟩,rfl⟩) ?_;clear c K;refine aF [11] _ _ _ (by kernel_rfl) ?_;simp only[pick,aX,aY,aW,aN,aM];clear bM dz dq dr ds dt du dv dw n0 al am a7 a8 a9 ba br
    go_upto_region 16 with fail
    rw[<-bZ.o];clear bZ;have N:=cQ.o;have z:=aq.o;have db:az<wr.heap.size:=dc;have cv:q.cell? (ae wr.heap.size 1)=some (aa kl):=by simp[World.cell?,N]
    have cw:q.cell? (ae wr.heap.size 2)=some (aa kr):=by simp[World.cell?,N]
    have cV:=(z.cell (p:=(ae tb 4)) c9).trans F;have dE:=(z.cell (p:=(ae az (bP+j))) db).trans an;have cD:=(z.cell (p:=(ae y kl)) a3).trans y1;have cE:=(z.cell (p:=(ae y kr)) a3).trans y2;have dm:=ag cv;have dn:=ag cw;have bM:=ag cV;have dp:=ag dE;have bO:=ag cD;have dy:=ag cE;clear N z cv cw cD cE y1 y2 F an;refine ak (fun W=>∃p:aT q,W=p.W) [26,27] [(0,false),(1,false),(2,false),(3,true),(4,false),(5,false),(6,false),(7,true),(8,false),(9,false),(10,false),(11,false),(12,true),(13,false),(14,true),(15,false),(16,true),(17,false),(18,false),(19,false),(20,true),(21,false),(22,true),(23,false),(24,true)] ⟨⟨_,(aB _ _).drew⟩,rfl⟩ 3 ?_;simp only[bn,aX,aY,aW,aN,aM,aO]
    repeat(refine aD (fun K c=>?_);go_simp;first|(refine c _ ?_;clear c K)|(apply Exists.intro;refine⟨fun _=>?_,c _ ?_⟩;rfl;clear c K))
    refine aJ ?_;refine aA 25 rfl fun K c=>?_;refine bg Bc rfl _ _ rfl (vals:=#[ah tb,aa (nG cS),aa (nG cU)]) rfl (bX.o q.drew aq.o.drew) ?_;rintro e bi ⟨rfl,ca⟩;have bB:Below q.heap.size q bi:=((aB q.heap.size q).drew).trans ca;refine⟨_,rfl,c _ _ (fun _ _=>⟨⟨_,bB⟩,rfl⟩) ?_⟩;clear c K;refine aF [26,27] _ _ _ (by kernel_rfl) ?_;simp only[pick,aX,aY,aW,aN,aM];have ab:Below wr.heap.size wr bi:=aq.o.trans (bB.mono aq.o.size);have d6:=(ab.cell (p:=(ae y O)) a3).trans t;have d7:bi.frozen? (ae y O)=false:=by
     have H:=Q;simp only[World.frozen?]at H |-;rw[ab.block y a3];exact H
    have D:Hid (∀bj,bj=bi.setCell (ae y O) (.int .i64 (nG cx))->dJ bj lo hi tb fb R (yf (aU R.length) YS (dV YS x) P j) (cnt-1) V/\au (fun k=>lo<=k/\k<hi) w6 bj):=fun bj c1=>by
     subst c1;refine⟨((u.o.below ab u.o.fq.2.2.2.2).mW cG.o (by rw[<-bm.o];exact a5) cx).congr fun k _=>?_,(bl.o.below ab).set (a:=(ae y O)) _ (.inl ⟨a2,de⟩)⟩;rw[cI.o];exact(cP.o k).symm
    clear ab bB ca t Q dm dn bM dp bO dy bX;go_wp2;exact⟨⟨j,by first|rfl|omega,by omega,(D.o _ rfl).1,(D.o _ rfl).2⟩,by simp[intOf];omega⟩
   .obtain rfl:m=0:=by omega
    have d9:decide (0<=i)=false:=by simp;omega
    have bD:=u.o;rw[NW E.o]at bD;have D:Hid (IU w lo hi tb fb R YS cnt V x (.returned (.bool true)) wr):=.inr ⟨cR.o,rfl,bD,cH.o.trans bl.o⟩;clear bD;go_wp2;go_ret;exact D.o
 .rw[aI A]at t;simp only[nG]at t;have D:Hid (IU w lo hi tb fb R YS cnt V x (.returned (.bool false)) w4):=.inl ⟨A,rfl,b1.o⟩;clear A;go_wp2;go_ret;exact D.o
theorem IV (a:Option Addr) (c:Nat) (l:List Pt) (w:World) (s:cz dx 3 w a l) (O:l.length<=1000000) (x:Gz l):
  aH 102 #[.slice a l.length c] w (eY w (.bool (kQ l))):=by
 have B:=af s;have E:=af x;clear s x;have N:=@run_makeMap prog;go_enter func102,ntmps102;go_wp2
 go_loopw [9] (fun k wr=>∃i:Nat,k=.int .i64 i/\i<=l.length/\Below w.heap.size w wr/\Hid (∃(D:DataW Unit),wr.ownsMap prog 27 (plainElem prog 3) w.heap.size i D/\mR D l i)) (fun k _=>l.length-(intOf k).toNat)
 case atStart=>exact⟨0,rfl,bf _,(aB _ _).alloc (ay _) _,⟨.map [],wR _ _ _ _,[],IsM.empty _ _⟩⟩
 case round=>
  obtain⟨i,rfl,hi,e,HO⟩:=hrel;by_cases g:i<l.length
  .obtain⟨b,off,q,M,f⟩:=(B.o.below e).get (by omega);have K:=f i g 0 (by omega);have x1:=f i g 1 (by omega);have x2:=f i g 2 (by omega);simp only[dx,aM,aN,dM]at K x1 x2;have G:Hid (keyOf prog 27 (.int .u32 l[i].2.2)=some (.int .u32 l[i].2.2)):=xn underlying27 (E.o _ (bN _));obtain⟨D,t,d⟩:=HO.o;have n:=af (d.put g);have L:=e.size;have m:=af q;clear HO f d q;generalize l[i]=p at*;obtain⟨I,J,H⟩:=p;obtain rfl:=m.o;clear m;have h:=t.kept (qc wr (.cells #[aa I,aa J,ai H] 29) none) (by simp)
   go_wp2_with (at_mapUpdate;refine wN _ rfl _ _ _ 26 rfl 27 3 (int_keyed underlying27) underlying26 _ w.heap.size i _ rfl h (by unfold maxLen;omega) _ _ _ rfl rfl G.o _ [] (ui underlying3 (by simp[Lit.wf,IntKind.min,IntKind.max,IntKind.bits,IntKind.signed];omega)) ?_;intro w3 u r)
   have y:Below w.heap.size wr w3:=(((aB _ wr).alloc (by omega) _)).grown r (by simp;omega) (fun j F=>by cases F;omega);have A:Hid (∃(D:DataW Unit),w3.ownsMap prog 27 (plainElem prog 3) w.heap.size (i+1) D/\mR D l (i+1)):=⟨_,u,n.o⟩;have z:=e.trans y;clear u r h t n;go_wp2;go_roundw
   case rel=>exact⟨i+1,by go_num,by omega,z,A⟩
   case measure=>simp[intOf];omega
  .obtain rfl:i=l.length:=by omega
   obtain⟨D,h,d⟩:=HO.o;have v:=d.size;have C:=af v;clear v d HO
   go_wp2_with (at_len;refine wpList_len_own _ rfl _ 26 rfl 27 3 underlying26 _ w.heap.size _ _ rfl h ?_)
   go_ret;exact⟨by rw[C.o];rfl,e⟩
theorem dJ.grow {w:World} {lo hi a tb fb:Nat} {R:List Pt} {h:iy} {cnt:Int} {V:mr} (H:dJ w lo hi tb fb R h cnt V) (b:hi<=a) (c:a<=w.heap.size):dJ w lo a tb fb R h cnt V:=
 ⟨H.blk,⟨H.fq.1,by have:=H.fq.2.1;omega,H.fq.2.2.1,by have:=H.fq.2.2.2.1;omega,c⟩,H.row,H.xs,H.ig,H.iP,H.nE,fun v d g e=>bB (H.top v d g e) b⟩
theorem NY (n:Nat):GA (fun _=>some 0) n=List.replicate n (.int .i64 0):=by
 unfold GA;refine qI (by simp) fun i a b=>?_;simp[nG]
def JY (w:World) (R:List Pt) (e:Ending) (w':World):Prop:=
 ∃tb fb V,e=.returned (.tuple #[ah tb,aa 0])/\dJ w' w.heap.size w'.heap.size tb fb R (kz (aU R.length) (dO R)) R.length V/\Below w.heap.size w w'
structure RQ (w:World) (lo fb n:Nat) (rv nv fv:Value) (l:List Pt):Prop where
 row:w.ownsRow lo 29 3 rv n (l.flatMap dx)
 iP:w.ownsRow lo 163 7 nv (aU n).length ((aU n).flatMap nU)
 ig:mQ w lo fb n fv
 OT:lo<=fb
theorem RQ.kept {S:Nat->Prop} {w w':World} {lo fb n:Nat} {j i g:Value} {l:List Pt} (h:RQ w lo fb n j i g l) (K:au S w w') (hS:∀k,k<w.heap.size->S k->∃cs t fr,w.heap[k]? =some (.cells cs t fr)/\t≠29/\t≠163/\t≠236):RQ w' lo fb n j i g l:=by
 refine⟨og h.row K fun k f e=>?_,og h.iP K fun k f e=>?_,⟨bF K h.ig.blk fun e=>?_,og h.ig.row K fun k f e=>?_⟩,h.OT⟩
 .obtain⟨cs,t,fr,a,b,c,d⟩:=hS k f e;exact⟨cs,t,fr,a,b⟩
 .obtain⟨cs,t,fr,a,b,c,d⟩:=hS k f e;exact⟨cs,t,fr,a,c⟩
 .have m:=(aZ.1 h.ig.blk).1;have⟨cs,t,fr,a,b,c,d⟩:=hS fb m e;have:=a.symm.trans h.ig.blk;injection this with this;injection this with _ this _;exact d this
 .obtain⟨cs,t,fr,a,b,c,d⟩:=hS k f e;exact⟨cs,t,fr,a,c⟩
def wo (N:List Nd) (YS:List Nat) (i:Nat):iy:=fun k=>if k<i then kz N YS k else some 0
theorem Tq {n:Nat} {t:FT} {s:Nat} (b:FT.At (aU n) t s):t.wf/\t.hi<=n:=by
 have a:=ky b;have⟨w1,w2,w3⟩:=bO 0 n a;have c:=FT.at_mem (fG a▸b);have:=FT.rq (dK 0 n) 0 w1 _ c;exact⟨FT.pG _ 0 w1 _ c,by simp only at this;omega⟩
theorem Ls (a:Option Addr) (c:Nat) (l:List Pt) (w:World) (bq:cz dx 3 w a l) (ej:l.length<=20000) (dn:Gz l) (hu:kQ l=true):
  aH 38 #[.slice a l.length c] w (JY w (eO l)):=by
 have a8:=IV a c l w bq (by omega) dn;rw[hu]at a8;have ev:=af bq;obtain⟨n,br⟩:∃n,n=l.length:=⟨_,rfl⟩;have cA:=af (fun W (eg:Below w.heap.size w W)=>nW a l n c W br.symm (bq.below eg) (by omega));have cL:=af br;rw[<-br]at ej a8 |-;have cB:=af (fun W=>xE n (by omega) W);clear br bq;have d1:decide ((n:Int)>2147483648)=false:=by simp;omega
 have d2:decide ((2147483648:Int)<(n:Int))=false:=by simp;omega
 have d3:decide (2147483648<n)=false:=by simp;omega
 have da:(ids l).Nodup:=by unfold kQ at hu;simpa using hu
 have bI:=af da;clear da hu dn;go_enter func38,ntmps38
 go_wp2_with (go_at_call 102;refine a8.mono ?_;rintro e w1 ⟨rfl,bm⟩;clear a8)
 go_wp2_with fail
 refine(cB.o w1).mono ?_;rintro e w2 ⟨rfl,bd⟩;have aL:Hid (Below w.heap.size w w2):=by rw[bd];exact bm.alloc bm.size _
 have bE:Hid (w2.heap[w1.heap.size]? =some (kK 0 0 (aG) n)):=by rw[bd];exact di w1 _
 obtain⟨fb,b4⟩:∃fb,fb=w1.heap.size:=⟨_,rfl⟩;have bp:w.heap.size<=fb/\fb<w2.heap.size:=by rw[bd,b4];exact⟨bm.size,by simp⟩
 rw[<-b4]at bE |-;clear bd bm b4 cB
 go_wp2_with fail
 refine(cA.o w2 aL.o).mono ?_;rintro e w3 ⟨eW,rfl,ca,bX⟩;have b3:=(bX.block fb bp.2).trans bE.o;have bB:Hid (Below w.heap.size w w3):=aL.o.trans (bX.mono aL.o.size);have cM:=af (bL ca aL.o.size);have cD:=af (gy fb n (by omega) w3 b3);have cH:=af b3;obtain⟨y,x,rfl⟩:=fD ca;clear ca bX b3 cA bE aL
 go_wp2_with fail
 refine cD.o.mono ?_;rintro e w4 ⟨H,eq,rfl,iU,b8,c5,L⟩;have cb:=bB.o.size;have cQ:Hid (w4.ownsRow w.heap.size 29 3 (.slice y n x) n (l.flatMap dx)):=Ia cM.o (by decide) cH.o L;have bG:Hid (mQ w4 w.heap.size fb n H):=⟨c5,bL iU cb⟩;have cK:Hid (w4.ownsRow w.heap.size 163 7 eq (aU n).length ((aU n).flatMap nU)):=bL b8 cb;have Q:Hid (Below w.heap.size w w4):=bB.o.trans (L.toBelow cb (fun k h=>by have:=bp.1;omega));obtain⟨B,nc,rfl⟩:=fD b8;obtain⟨M,bk⟩:∃M,M=(aU n).length:=⟨_,rfl⟩;have bb:=af bk;have eB:M<=40000:=by rw[bk,dh];omega
 rw[<-bk];clear iU b8 c5 L cD bk cM cH bB
 go_upto_region 9 with fail
 obtain⟨wc,bj⟩:∃wc,wc=w4.alloc (.cells #[.slice y n x,aG,ah fb,.slice B M nc,aG,aa n] 161):=⟨_,rfl⟩;have bZ:Below w4.heap.size w4 wc:=by rw[bj];exact(aB _ _).alloc (ay _) _
 obtain⟨tb,bt⟩:∃tb,tb=w4.heap.size:=⟨_,rfl⟩;have cY:wc.heap[tb]? =some (Lj (.slice y n x) (aG) fb (.slice B M nc) (aG) n):=by rw[bj,bt];exact di w4 _
 rw[<-bj,<-bt];have aQ:Hid (RQ wc w.heap.size fb n (.slice y n x) (.slice B M nc) H l):=by
  have K:au (fun _=>False) w4 wc:=(au.refl _ w4).below bZ;exact⟨aS cQ.o K (fun _ _ h=>h),by rw[<-bb.o];have:=aS cK.o K (fun _ _ h=>h);rwa [<-bb.o]at this,⟨bF K bG.o.blk (fun h=>h),aS bG.o.row K (fun _ _ h=>h)⟩,bp.1⟩
 have aR:=af cY;have bA:Hid (Below w.heap.size w wc):=Q.o.trans (bZ.mono Q.o.size);have ek:w.heap.size<=tb:=by rw[bt];exact Q.o.size
 clear bj bZ cY cQ bG cK Q bt;have dl:=(aZ.1 aR.o).1;have cE:=af (xL cL.o.symm (by omega) aQ.o.row bI.o);have cZ:=aR.o;have bP:wc.cell? (ae tb 0)=some (.slice y n x):=by simp[World.cell?,cZ]
 clear cZ
 go_wp2_with fail
 refine cE.o.mono ?_;rintro e w4 ⟨rfl,de,L⟩;have cW:RQ w4 w.heap.size fb n (.slice y n x) (.slice B M nc) H (eO l):=by
  have h:=aQ.o;refine⟨de,og h.iP L fun k aw z=>?_,⟨bF L h.ig.blk fun z=>?_,og h.ig.row L fun k aw z=>?_⟩,h.OT⟩
  .obtain⟨cs,fr,e⟩:=Ba h.row z;exact⟨cs,_,fr,e,by decide⟩
  .exact bz h.row h.ig.blk (by decide) fb z rfl
  .obtain⟨cs,fr,e⟩:=Ba h.row z;exact⟨cs,_,fr,e,by decide⟩
 have aV:Hid (w4.heap[tb]? =some (Lj (.slice y n x) (aG) fb (.slice B M nc) (aG) n)):=bF L aR.o (fun h=>bz aQ.o.row aR.o (by decide) tb h rfl);have Q:Hid (Below w.heap.size w w4):=bA.o.trans (L.toBelow bA.o.size (fun k h=>(aQ.o.row.lt k h).1));have bK:=af cW;have X:(eO l).length=n:=by rw[(dL l).length_eq];exact cL.o.symm
 have cX:(ids (eO l)).Nodup:=((dL l).map _).nodup_iff.2 bI.o;have cP:Hid ((eO l).Pairwise jV/\(ids (eO l)).Nodup):=⟨fM bI.o,cX⟩;clear de L cW aQ aR bA cE cX bP dl;generalize ec:eO l=R at*;clear ec;have dl:=(aZ.1 aV.o).1;have dm:=aV.o;have bP:w4.cell? (ae tb 0)=some (.slice y n x):=by simp[World.cell?,dm]
 clear dm
 go_wp2_with fail
 go_loopg [44] n (fun ep es wr=>∃(i:Nat) (cx:Value),es=.int .i64 i/\i<=n/\n-i<=ep/\Hid (wr.heap[tb]? =some (Lj (.slice y n x) cx fb (.slice B M nc) (aG) n))/\Hid (wr.ownsRow w4.heap.size 2 1 cx i (((bU R).take i).map (Value.int .i64)))/\Hid (au (fun k=>k=tb) w4 wr))
 case atStart=>exact⟨0,_,rfl,bf _,by omega,aV,dz _ _ _ _,au.refl _ _⟩
 case round=>
  obtain⟨i,cx,rfl,hi,eM,ab,ar,Y⟩:=hrel;by_cases eJ:i<n
  .have dj:=aS bK.o.row Y.o (fun g h z=>bz bK.o.row aV.o (by decide) g h z.symm);obtain⟨_,_,d6,-,-,df⟩:=cz.aC bu (by decide) dj;injection d6 with dY d0 d4;subst dY;clear d0 d4;obtain⟨b,off,d5,eC,ap⟩:=df.get (by omega);have cw:=ap i (by omega) 0 (by omega);have x1:=ap i (by omega) 1 (by omega);have x2:=ap i (by omega) 2 (by omega);simp only[dx,aM,aN,dM]at cw x1 x2;have dq:(bU R).take (i+1)=(bU R).take i++[R[i].1]:=by
    have h:i<(bU R).length:=by unfold bU;simp;omega
    rw[dZ h];simp[bU]
   have cT:=af dq;subst d5;clear ap df dq dj;generalize R[i]=p at*;obtain⟨a7,dB,dy⟩:=p;simp only at cT cw x1 x2;have cf:=ab.o;have bv:=(aZ.1 cf).1;obtain⟨F,G,rfl⟩:=fD ar.o
   go_upto_region 13 with fail
   obtain⟨w6,be⟩:∃w6,w6=wr.alloc (.cells #[aa a7,aa dB,ai dy] 29):=⟨_,rfl⟩;have a4:Below wr.heap.size wr w6:=by rw[be];exact(aB _ _).alloc (ay _) _
   have dp:w6.heap[wr.heap.size]? =some (.cells #[aa a7,aa dB,ai dy] 29 (0,0)):=by rw[be];exact di wr _
   have cd:=(a4.block tb bv).trans cf;have eP:=Y.o.size;have eQ:=a4.size;have cg:∀g,(Value.slice F i G).ownBlock=some g->w4.heap.size<=g/\g<wr.heap.size:=fun g h=>ar.o.lt g h;have ea:=ag (w:=w6) (ad:=(ae tb 1)) (v:=.slice F i G) (by simp[World.cell?,cd]);have eb:=ag (w:=w6) (ad:=(ae wr.heap.size 0)) (v:=.int .i64 a7) (by simp[World.cell?,dp]);have cS:=af (ax ar.o a4);have cI:Hid (au (fun k=>k=tb) w4 w6):=Y.o.below a4;have cR:=af cd;rw[<-be];clear be a4 dp cd cf cw x1 x2;refine ak (fun W=>∃p:aT w6,W=p.W) [8,9,10,11] [(0,false),(1,false),(2,false),(3,false),(4,true),(5,false),(6,true)] ⟨⟨_,(aB _ _).drew⟩,rfl⟩ 5 ?_;simp only[bn,aX,aY,aW,aN,aM,aO]
   repeat(refine aD (fun K u=>?_);go_simp;first|(refine u _ ?_;clear u K)|(apply Exists.intro;refine⟨fun _=>?_,u _ ?_⟩;rfl;clear u K))
   refine aJ ?_;refine aA 7 rfl fun K u=>?_;go_simp;refine u _ _ (fun _ _=>⟨⟨_,((aB _ w6).alloc (ay _) _).drew⟩,rfl⟩) ?_;clear u K;refine aA 8 rfl fun K u=>?_;refine bH yT w4.heap.size (w:=(w6.alloc (.cells #[aa a7] 2)).drew) (ax cS.o ((aB _ w6).alloc (ay _) _|>.drew)) [.int .i64 a7] rfl (by simp[Value.oneCell']) rfl (.tmp 52) (.tmp 55) rfl rfl w6.heap.size rfl (kF _ _) (by unfold maxLen;omega) (by omega) (by simp;omega) ?_;intro am al f b9 c7 eD eN;have c6:w6.grownBy f (Value.slice F i G).ownBlock:=dN (bQ ((aB _ w6).alloc (ay _) _|>.drew)) c7;have bN:au (fun k=>(Value.slice F i G).ownBlock=some k) w6 f:=(au.refl _ w6).grown c6 (fun k az=>.inl az);refine u _ _ (fun _ h=>absurd (by simp) h) ?_;clear u K;refine aF [9,10,11] _ _ _ (by kernel_rfl) ?_;simp only[pick,aX,aY,aW,aN,aM];have bs:=bF bN cR.o (fun h=>by have:=(cg tb h).1;omega);have eV:f.cell? (ae tb 1)=some (.slice F i G):=by simp[World.cell?,bs]
   have f8:f.frozen? (ae tb 1)=false:=by simp[World.frozen?,bs]
   have dQ:Hid ((f.setCell (ae tb 1) (aj am (i+1) al)).heap[tb]? =some (Lj (.slice (some (ae b off)) n x) (aj am (i+1) al) fb (.slice B M nc) (aG) n)):=dA f tb 1 _ _ _ bs;have cU:au (fun k=>k=tb) f (f.setCell (ae tb 1) (aj am (i+1) al)):=(au.refl (fun k=>k=tb) f).set (a:=(ae tb 1)) (aj am (i+1) al) (.inl rfl);have dS:Hid ((f.setCell (ae tb 1) (aj am (i+1) al)).ownsRow w4.heap.size 2 1 (aj am (i+1) al) (i+1) (((bU R).take (i+1)).map (Value.int .i64))):=by
    have A:=aS (S:=fun k=>k=tb) b9 cU (fun g h z=>by have:=(b9.lt g h).1;omega);show World.ownsRow _ _ _ _ _ _ _;rw[cT.o,bS];exact A
   have dP:Hid (au (fun k=>k=tb) w4 (f.setCell (ae tb 1) (aj am (i+1) al))):=((cI.o.mono (S':=fun k=>k=tb\/w4.heap.size<=k) (fun k h=>.inl h)).trans (bN.mono (fun k h=>.inr (cg k h).1))).strip.set (a:=(ae tb 1)) _ (.inl rfl);clear bN c6 c7 b9 bs ea eb cS cR cI cg ar ab Y cU;go_wp2
   go_roundg (n-(i+1))
   case measure=>omega
   case rel=>exact⟨i+1,_,by go_num,by omega,ay _,dQ,dS,dP⟩
  .obtain rfl:i=n:=by omega
   have cN:Hid (RQ wr w.heap.size fb i (.slice y i x) (.slice B M nc) H R):=bK.o.kept Y.o (fun k aw z=>by subst z;exact⟨_,_,_,aV.o,by decide,by decide,by decide⟩);have bC:Hid (Below w.heap.size w wr):=Q.o.trans (Y.o.toBelow Q.o.size (fun k h=>by omega));have bl:=ar.o;rw[jQ (by unfold bU;simp;omega)]at bl;have bM:=af (bL bl Q.o.size);have a6:=ab.o;have dX:wr.cell? (ae tb 3)=some (.slice B M nc):=by simp[World.cell?,a6]
   have ac:wr.cell? (ae tb 4)=some (aG):=by simp[World.cell?,a6]
   have f4:wr.frozen? (ae tb 4)=false:=by simp[World.frozen?,a6]
   have bv:=(aZ.1 a6).1;obtain⟨F,G,rfl⟩:=fD bl;have ei:=JU M (by omega);clear bl a6 ar Y bP
   go_upto_region 16 with fail
   obtain⟨m,c8⟩:∃m,m=wr.heap.size:=⟨_,rfl⟩;obtain⟨C,a3⟩:∃C,C=(wr.setCell (ae tb 4) (aj wr.heap.size M M)).alloc (Obj.cells (madeCells #[aa 0] M) 3):=⟨_,rfl⟩;have bc:au (fun k=>k=tb) wr C:=by rw[a3];exact((au.refl (fun k=>k=tb) wr).set (a:=(ae tb 4)) _ (.inl rfl)).alloc _
   have cc:(wr.setCell (ae tb 4) (aj wr.heap.size M M)).heap.size=wr.heap.size:=by simp
   have b6:C.heap[wr.heap.size]? =some (.cells (List.replicate M (aa 0)).toArray 3 (0,0)):=by
    have A:=A9 (wr.setCell (ae tb 4) (aj wr.heap.size M M)) M;rw[cc]at A;rw[a3];exact A
   have eR:wr.heap.size<C.heap.size:=(aZ.1 b6).1;have ce:C.heap[tb]? =some (Lj (.slice y i x) (.slice F i G) fb (.slice B M nc) (aj wr.heap.size M M) i):=by
    rw[a3];exact(bY _ _ tb (by rw[cc];exact bv)).trans (dA wr tb 4 _ _ _ ab.o)
   have V:RQ C w.heap.size fb i (.slice y i x) (.slice B M nc) H R:=cN.o.kept bc (fun k aw z=>by subst z;exact⟨_,_,_,ab.o,by decide,by decide,by decide⟩);have bV:=aS bM.o bc (fun g h z=>bz bM.o ab.o (by decide) g h z.symm);have dk:=bC.o.size;have bT:=CE (w:=C) (base:=w.heap.size) (n:=M) (xs:=List.replicate M (aa 0)) b6 dk (by simp) (by unfold maxLen;omega);have cJ:Hid (dJ C w.heap.size C.heap.size tb fb R (fun _=>some 0) i ⟨.slice y i x,.slice F i G,.slice B M nc,aj wr.heap.size M M,H⟩):=by
    refine⟨ce,⟨ek,by omega,bp.1,(aZ.1 V.ig.blk).1,ay _⟩,by rw[X];exact V.row,by rw[X];exact bV,by rw[X];exact V.ig,by rw[X];exact V.iP,?_,?_⟩
    .rw[X,<-bb.o,NY];exact bT
    .rintro v (rfl|rfl|rfl|rfl|rfl) g e
     .exact(V.row.lt g e).2
     .exact(bV.lt g e).2
     .exact(V.iP.lt g e).2
     .exact(bT.lt g e).2
     .exact(V.ig.row.lt g e).2
   have dI:Hid (Below w.heap.size w C):=bC.o.trans (bc.toBelow dk (fun k h=>by omega));have a0:=af (pM cP.o.1 cP.o.2);rw[<-a3];have ew:C.cell? (ae tb 3)=some (.slice B M nc):=by simp[World.cell?,ce]
   have J:Hid (M=(aU R.length).length):=by show _=_;rw[X];exact bb.o
   have ed:R.length<=20000:=by omega
   have dT:Hid (∀a,a<R.length->a∈dO R):=fun a ef=>(a0.o.live a).2 (by rw[qB,aK ef]);rw[<-c8]at cJ;clear a3 c8 bc cc b6 ce V bV bT cN bM ab bC dX ac f4 ei bv;generalize c0:dO R=YS at*;have dU:=af c0;have cO:=af X;clear c0 X;go_wp2
   go_loopw [74] (fun ch wr=>∃j:Nat,ch=.int .i64 j/\j<=M/\Hid (dJ wr w.heap.size C.heap.size tb fb R (wo (aU R.length) YS j) i ⟨.slice y i x,.slice F i G,.slice B M nc,aj m M M,H⟩)/\Hid (Below w.heap.size w wr)) (fun ch _=>M-(intOf ch).toNat)
   case atStart=>exact⟨0,rfl,bf _,cJ,dI⟩
   case round=>
    obtain⟨j,rfl,eK,O,ba⟩:=hrel;by_cases a5:j<M
    .have eL:(j:Int)<(M:Int):=by omega
     obtain⟨t,s,bW,b2⟩:=rZ (show j<(aU R.length).length by rw[<-J.o];exact a5);obtain⟨bR,cr,cn,env,dC⟩:=O.o.nodes (by have:=dh R.length;rw[<-J.o]at this;omega);simp only at env;injection env with env a1 a2;clear a1 a2;obtain⟨ez,ex,T,eF,eG,eH,-,c9,ap,-⟩:=O.o.holds (by have:=dh R.length;rw[<-J.o]at this;omega);simp only at T;injection T with T a1 a2;injection T with T;injection T with T d7 d8;subst T;clear a1 a2;obtain⟨-,n0,ck,cl,cm,co,dr,cp⟩:=l9 dC bW.get;have b1:=O.o.blk;simp only at b1;have ac:wr.cell? (ae tb 4)=some (aj m M M):=by simp[World.cell?,b1]
     obtain⟨dD,dF⟩:=ap j (by rw[<-J.o];exact a5);have ee:=O.o.ED;rw[b2]at n0 ck cl cm co dr cp;subst env;obtain⟨d,hd⟩:∃d,d=t.top s:=⟨_,rfl⟩;rw[<-hd]at n0 ck cl cm co cp;obtain⟨f,bh⟩:∃f,f=wr.alloc (.cells #[.int .u8 d.kind,aa d.l,aa d.r,aa d.fr,aa d.Jk,aa 0,aa d.item] 163):=⟨_,rfl⟩;have an:Below wr.heap.size wr f:=by rw[bh];exact(aB _ _).alloc (ay _) _
     have P:f.heap[wr.heap.size]? =some (.cells #[.int .u8 d.kind,aa d.l,aa d.r,aa d.fr,aa d.Jk,aa 0,aa d.item] 163 (0,0)):=by rw[bh];exact di wr _
     have a9:=af an;have dR:=af P;have cF:=af bh;have aE:=af bW;have bD:=af b2;have aP:=af hd;clear bh an P b1 ap dC bW b2 hd
     go_upto_region 19 with fail
     rw[<-cF.o];clear cF n0 ck cl cm co dr cp;have P:=dR.o;have an:=a9.o;have cq:wr.heap.size<f.heap.size:=(aZ.1 P).1;have dt:f.cell? (ae wr.heap.size 0)=some (.int .u8 d.kind):=by simp[World.cell?,P]
     have du:f.cell? (ae wr.heap.size 1)=some (aa d.l):=by simp[World.cell?,P]
     have dv:f.cell? (ae wr.heap.size 2)=some (aa d.r):=by simp[World.cell?,P]
     have dw:f.cell? (ae wr.heap.size 3)=some (aa d.fr):=by simp[World.cell?,P]
     have cV:=(an.cell (p:=(ae tb 4)) ee).trans ac;have dE:=(an.cell (p:=(ae m j)) c9).trans dD;have dG:f.frozen? (ae m j)=false:=by
      have A:=dF;simp only[World.frozen?]at A |-;rw[an.block m c9];exact A
     have ci:=ag dw;have cj:=ag cV;clear P an ac dD dF;have b7:m≠wr.heap.size:=by omega
     have eE:m<f.heap.size:=by omega
     refine ak (fun W=>∃p:aT f,W=p.W) [7,8] [(0,false),(1,false),(2,false),(3,true),(4,false),(5,false),(6,true)] ⟨⟨_,(aB _ _).drew⟩,rfl⟩ 2 ?_;simp only[bn,aX,aY,aW,aN,aM,aO]
     repeat(refine aD (fun K u=>?_);go_simp;first|(refine u _ ?_;clear u K)|(apply Exists.intro;refine⟨fun _=>?_,u _ ?_⟩;rfl;clear u K))
     refine aJ ?_;refine aF [7,8] _ _ _ (by kernel_rfl) ?_;simp only[pick,aX,aY,aW,aN,aM];have et:f.drew.cell? (ae m j)=_:=dE;have eu:f.drew.frozen? (ae m j)=false:=dG;obtain⟨I,bi⟩:∃I,I=(f.setCell (ae m j) (.int .i64 d.fr)).drew:=⟨_,rfl⟩;have av:au (fun k=>k=m) f I:=by rw[bi];exact((au.refl (fun k=>k=m) f).set (a:=(ae m j)) _ (.inl rfl)).drew
     obtain⟨el,eI⟩:=Tq aE.o;obtain⟨f0,c4,eh⟩:∃f0:Nat,d.fr=(f0:Int)/\f0=t.lo:=by rw[aP.o];cases t<;>exact⟨_,rfl,rfl⟩
     have Z:Hid (dJ I w.heap.size C.heap.size tb fb R (fV (wo (aU R.length) YS j) j (some f0)) i ⟨.slice y i x,.slice F i G,.slice (some (ae bR cr)) M nc,aj m M M,H⟩):=by
      rw[bi,c4];exact((O.o.below a9.o O.o.fq.2.2.2.2).mW rfl (by rw[<-J.o];exact a5) (some f0)).below (aB _ _).drew (by have:=O.o.fq.2.2.2.2;have:=a9.o.size;simp;omega)
     have N:Hid (Below w.heap.size w I):=(ba.o.trans (a9.o.mono ba.o.size)).trans (av.toBelow (by have:=ba.o.size;omega) (fun k h=>by omega));have er:=((cu av cq (fun h=>b7 h.symm)).1 0).trans dt;have ct:=((cu av cq (fun h=>b7 h.symm)).1 1).trans du;have cv:=((cu av cq (fun h=>b7 h.symm)).1 2).trans dv;have eS:=av.size;have cG:=af bi;clear bi ci cj av dt du dv dw c4
     go_upto_region 20 with fail
     rw[<-cG.o];clear cG et eu dE dG cV;cases t with
     |leaf bO=>
      have az:(d.kind==(2:Int))=false:=by rw[aP.o];rfl
      have aq:Hid (dJ I w.heap.size C.heap.size tb fb R (wo (aU R.length) YS (j+1)) i ⟨.slice y i x,.slice F i G,.slice (some (ae bR cr)) M nc,aj m M M,H⟩):=by
       refine Z.o.congr fun k az=>?_;unfold wo;by_cases e:k=j
       .subst e;have aw:=AV a0.o aE.o;rw[aK (dT.o bO (by have:(FT.leaf bO).hi=bO+1:=rfl;omega))]at aw;have z:s=k:=by have:=bD.o;unfold FT.root at this;simpa[FT.size]using this
        rw[fO,aK (by omega),<-z,aw,eh];rfl
       .rw[gU e];by_cases A:k<j
        .rw[aK A,aK (by omega)]
        .rw[aI A,aI (by omega)]
      go_wp2;go_roundw
      case rel=>first|exact⟨j+1,by go_num,by omega,aq,N⟩|(refine⟨_,?_,rfl⟩;exact⟨j+1,by go_num,by omega,aq,N⟩)|(refine⟨_,_,?_,rfl,rfl⟩;exact⟨j+1,by go_num,by omega,aq,N⟩)|(refine⟨_,_,_,?_,rfl,rfl,rfl⟩;exact⟨j+1,by go_num,by omega,aq,N⟩)|(refine⟨_,_,_,_,?_,rfl,rfl,rfl,rfl⟩;exact⟨j+1,by go_num,by omega,aq,N⟩)|(refine⟨_,_,_,_,_,?_,rfl,rfl,rfl,rfl,rfl⟩;exact⟨j+1,by go_num,by omega,aq,N⟩)
      case measure=>simp[intOf];omega
     |node q E=>
      have az:(d.kind==(2:Int))=true:=by rw[aP.o];rfl
      have dc:=aE.o.left.lt;have dg:=aE.o.right.lt;have dd:q.root s<j/\E.root (s+q.size)<j:=by
       rw[<-bD.o];have:=q.size_pos;have:=E.size_pos;have eT:(FT.node q E).size=q.size+E.size+1:=rfl;unfold FT.root;omega
      have c2:d.l=((q.root s:Nat):Int):=by rw[aP.o];show((s+q.size:Nat):Int)-1=_;unfold FT.root;have:=q.size_pos;omega
      have c3:d.r=((E.root (s+q.size):Nat):Int):=by rw[aP.o];show((s+q.size+E.size:Nat):Int)-1=_;unfold FT.root;have:=E.size_pos;omega
      rw[c2]at ct;rw[c3]at cv;obtain⟨eA,ey,U,-,-,-,-,db,bo,-⟩:=Z.o.holds (by have:=dh R.length;rw[<-J.o]at this;omega);simp only at U;injection U with U a1 a2;injection U with U;injection U with U d7 d8;subst U;clear a1 a2;obtain⟨y1,-⟩:=bo _ dc;obtain⟨y2,-⟩:=bo _ dg;obtain⟨cy,dH⟩:=bo j (by rw[<-J.o];exact a5);rw[show fV (wo (aU R.length) YS j) j (some f0) (q.root s)=kz (aU R.length) YS (q.root s) by rw[gU (by omega)];exact aK dd.1]at y1;rw[show fV (wo (aU R.length) YS j) j (some f0) (E.root (s+q.size))=kz (aU R.length) YS (E.root (s+q.size)) by rw[gU (by omega)];exact aK dd.2]at y2;rw[fO]at cy;have b0:=Z.o.blk;simp only at b0;have ac:I.cell? (ae tb 4)=some (aj m M M):=by simp[World.cell?,b0]
      have cC:=af (yc (Z.o.P7.below (aB _ _).drew) ed (kz (aU R.length) YS (q.root s)) (kz (aU R.length) YS (E.root (s+q.size))) (fun i h=>AU a0.o h) (fun i h=>AU a0.o h));have dK:Hid (kz (aU R.length) YS j=lowO R (kz (aU R.length) YS (q.root s)) (kz (aU R.length) YS (E.root (s+q.size)))):=by
       show _=_;rw[<-FR a0.o aE.o el,bD.o]
      rw[<-J.o]at dc dg;have eU:=Z.o.ED;clear b0 bo c2 c3;generalize lowO R (kz (aU R.length) YS (q.root s)) (kz (aU R.length) YS (E.root (s+q.size)))=ds at*;generalize kz (aU R.length) YS (q.root s)=dV at*;generalize kz (aU R.length) YS (E.root (s+q.size))=dW at*;generalize q.root s=kl at*;generalize E.root (s+q.size)=kr at*;have em:=ag ct;have en:=ag cv;have ci:=ag ac;have cj:=ag y1;have eo:=ag y2
      go_upto_region 21 with fail
      refine ak (fun W=>∃p:aT I,W=p.W) [23,24] [(0,false),(1,false),(2,false),(3,true),(4,false),(5,false),(6,false),(7,false),(8,false),(9,true),(10,false),(11,true),(12,false),(13,true),(14,false),(15,false),(16,false),(17,true),(18,false),(19,true),(20,false),(21,true)] ⟨⟨_,(aB _ _).drew⟩,rfl⟩ 3 ?_;simp only[bn,aX,aY,aW,aN,aM,aO]
      repeat(refine aD (fun K u=>?_);go_simp;first|(refine u _ ?_;clear u K)|(apply Exists.intro;refine⟨fun _=>?_,u _ ?_⟩;rfl;clear u K))
      refine aJ ?_;refine aA 22 rfl fun K u=>?_;refine bg Bc rfl _ _ rfl (vals:=#[ah tb,aa (nG dV),aa (nG dW)]) rfl cC.o ?_;rintro e bw ⟨rfl,c1⟩;have ao:Below I.heap.size I bw:=((aB I.heap.size I).drew).trans c1;refine⟨_,rfl,u _ _ (fun _ _=>⟨⟨_,ao⟩,rfl⟩) ?_⟩;clear u K;refine aF [23,24] _ _ _ (by kernel_rfl) ?_;simp only[pick,aX,aY,aW,aN,aM];have eX:=(ao.cell (p:=(ae m j)) db).trans cy;have eY:bw.frozen? (ae m j)=false:=by
       have A:=dH;simp only[World.frozen?]at A |-;rw[ao.block m db];exact A
      have D:Hid (∀bx,bx=bw.setCell (ae m j) (.int .i64 (nG ds))->Hid (dJ bx w.heap.size C.heap.size tb fb R (wo (aU R.length) YS (j+1)) i ⟨.slice y i x,.slice F i G,.slice (some (ae bR cr)) M nc,aj m M M,H⟩)/\Hid (Below w.heap.size w bx)):=fun bx d9=>by
       subst d9;refine⟨((Z.o.below ao Z.o.fq.2.2.2.2).mW rfl (by rw[<-J.o];exact a5) ds).congr fun k _=>?_,?_⟩
       .unfold wo;by_cases e:k=j
        .subst e;rw[fO,aK (by omega),dK.o]
        .rw[gU e,gU e];by_cases A:k<j
         .rw[aK A,aK (by omega)]
         .rw[aI A,aI (by omega)]
       .exact(N.o.trans (ao.mono N.o.size)).trans (((au.refl (fun k=>k=m) bw).set (a:=(ae m j)) _ (.inl rfl)).toBelow (bJ N.o.size ao.size) (fun k h=>by omega))
      clear ao c1 cy dH y1 y2 ac er ct cv em en ci cj eo cC;go_wp2;go_roundw
      case rel=>first|exact⟨j+1,by go_num,by omega,(D.o _ rfl).1,(D.o _ rfl).2⟩|(refine⟨_,?_,rfl⟩;exact⟨j+1,by go_num,by omega,(D.o _ rfl).1,(D.o _ rfl).2⟩)|(refine⟨_,_,?_,rfl,rfl⟩;exact⟨j+1,by go_num,by omega,(D.o _ rfl).1,(D.o _ rfl).2⟩)|(refine⟨_,_,_,?_,rfl,rfl,rfl⟩;exact⟨j+1,by go_num,by omega,(D.o _ rfl).1,(D.o _ rfl).2⟩)|(refine⟨_,_,_,_,?_,rfl,rfl,rfl,rfl⟩;exact⟨j+1,by go_num,by omega,(D.o _ rfl).1,(D.o _ rfl).2⟩)|(refine⟨_,_,_,_,_,?_,rfl,rfl,rfl,rfl,rfl⟩;exact⟨j+1,by go_num,by omega,(D.o _ rfl).1,(D.o _ rfl).2⟩)
      case measure=>simp[intOf];omega
    .obtain rfl:j=M:=by omega
     have b5:dJ wr w.heap.size wr.heap.size tb fb R (kz (aU R.length) YS) i ⟨.slice y i x,.slice F i G,.slice B j nc,aj m j j,H⟩:=
      (O.o.congr fun k az=>by unfold wo;rw[aK (by rw[J.o];exact az)]).grow O.o.fq.2.2.2.2 (ay _)
     have D:Hid (JY w R (.returned (.tuple #[ah tb,aa 0])) wr):=by
      refine⟨tb,fb,⟨.slice y i x,.slice F i G,.slice B j nc,aj m j j,H⟩,rfl,?_,ba.o⟩;rw[dU.o,cO.o];rw[cO.o]at b5;exact b5
     clear b5;go_wp2;go_ret2;exact D.o
end
section
open Go.RowKit Go.Sort Go.Shelf Go.Lib Go.Maps
def sZ (w:World) (lo hi tb n0:Nat) (l:List Pt):Prop:=
 ∃fb R gone YS V,dJ w lo hi tb fb R (kz (aU R.length) YS) l.length V/\cB R gone YS/\ru R YS l/\R.length=n0/\n0<=20000
def tq (n:Nat):Nat:=6*Lib.bitLen n+1
theorem Lt {R:List Pt} (h:R.length<=100000) (x1 x2:Int):(nH R x1 x2).2<=tq R.length:=by
 unfold nH tq;by_cases b:R.length=0\/x2<x1
 .rw[aK b];exact bf _
 .rw[aI b];have e:0<R.length:=by omega
  have f:(bU R).length=R.length:=by simp[bU]
  have c:=ko (bU R) x1 (by omega);have d:=ku (bU R) x2 (by omega);rw[f]at c d;by_cases a:iU R x1<lD R x2
  .rw[aK a];have⟨w1,w2,w3⟩:=bO 0 R.length e;have i:=(bM R.length (by omega) (by omega)).2.2;have j:=uz 0 R.length (Lib.bitLen R.length) (by omega);have g:=FT.zQ (dK 0 R.length) w1 0 (iU R x1) (lD R x2);simp only;omega
  .rw[aI a];simp only;omega
section
variable {w w':World} {lo hi tb n0:Nat} {l:List Pt}
theorem sZ.kept {S:Nat->Prop} (h:sZ w lo hi tb n0 l) (K:au S w w') (hS:∀k,lo<=k->k<hi->¬S k):sZ w' lo hi tb n0 l:=by
 have⟨fb,R,gone,YS,V,a,b⟩:=h;exact⟨fb,R,gone,YS,V,a.kept K hS,b⟩
theorem sZ.En (h:sZ w lo hi tb n0 l):l.length<=n0/\n0<=20000:=by
 have⟨fb,R,gone,YS,V,c,a,b,d,e⟩:=h;have:=a.Pm;have:=b.len a;omega
theorem Lu {R:List Pt} {gone:List Bool} {YS:List Nat} (a:cB R gone YS) (c:ru R YS l) (x1 x2:Int):(rF R (aU R.length) YS (nH R x1 x2).1).map (bV R)=(Ml l x1 x2).head?:=by
 have d:∀h:(Ml l x1 x2)=[],(rF R (aU R.length) YS []).map (bV R)=(Ml l x1 x2).head?:=fun h=>by rw[h];rfl
 unfold nH;by_cases h0:R.length=0\/x2<x1
 .rw[aK h0];refine d ?_;rcases h0 with h0|h0
  .have b:=a.Pm;have f:=c.len a;have g:=PU l x1 x2;exact gJ (by omega)
  .exact NI l h0
 .rw[aI h0];have e:=PV a c x1 x2;by_cases b:iU R x1<lD R x2
  .rw[aK b];simp only;rw[Iz a (by omega),<-e,List.head?_map]
  .rw[aI b];refine d ?_;rw[<-e];have:RJ YS (iU R x1) (lD R x2)=[]:=wK.2 fun i _=>by simp;omega
   rw[this];rfl
theorem RS (a:Option Addr) (c:Nat) (l:List Pt) (w:World) (k:cz dx 3 w a l) (m:l.length<=20000) (o:Gz l) (hu:kQ l=true):
  aH 38 #[.slice a l.length c] w fun e w'=>∃tb,e=.returned (.tuple #[ah tb,aa 0])/\sZ w' w.heap.size w'.heap.size tb l.length l/\Below w.heap.size w w':=
 (Ls a c l w k m o hu).mono fun e w' ⟨tb,fb,V,j,d,h⟩=>by
  have b:(ids l).Nodup:=by unfold kQ at hu;simpa using hu
  have n:=fM b;have hid:(ids (eO l)).Nodup:=((dL l).map _).nodup_iff.2 b;have g:=pM n hid;have f:(eO l).length=l.length:=(dL l).length_eq;rw[show((eO l).length:Int)=(l.length:Int) by rw[f]]at d;refine⟨tb,j,⟨fb,_,_,_,V,d,g,yB b _ (fun i=>?_),f,by omega⟩,h⟩;rw[g.live,qB];split<;>simp_all
theorem Qb (h:sZ w lo hi tb n0 l) (x1 x2:Int):
  aH 42 #[ah tb,aa x1,aa x2] w fun e w'=>(∃p:Pt,p=(Ml l x1 x2).head?.getD (0,0,0)/\∃c:Nat,e=.returned (.tuple #[iD p.1 p.2.1 p.2.2,.bool (Ml l x1 x2).head?.isSome,aa c])/\c<=tq n0)/\Below w.heap.size w w':=by
 have⟨fb,R,gone,YS,V,d,a,f,g,k⟩:=h;refine(IQ d a (by omega) x1 x2).mono ?_;rintro e w' ⟨⟨p,hp,j⟩,i⟩;have b:=Lu a f x1 x2;refine⟨⟨p,by rw[hp,b],(nH R x1 x2).2,?_,by rw[<-g];exact Lt (by omega) x1 x2⟩,i⟩;rw[<-b,Option.isSome_map];exact j
end
end
end Go.Proofs.YtkjdbndekceffaaGreat
