/- Made small by a program. -/
import Derived.Test.YtkjdbndekceffaaGreatW12
set_option linter.unusedSimpArgs false
set_option linter.unusedVariables false
set_option maxRecDepth 100000
set_option maxHeartbeats 16000000
namespace Go.Proofs.YtkjdbndekceffaaGreat
open Tryz
section
open Go.RowKit Go.Sort Go.Shelf Go.Lib Go.Maps
attribute [local irreducible] wpQuiet
abbrev MG (rv xv:Value) (fb:Nat) (nv hv:Value) (n:Int):Obj:=.cells #[rv,xv,aj fb,nv,hv,ae n] 161 (0,0)
structure dO (w:World) (lo hi tb fb:Nat) (R:List Pt) (h:iI) (cnt:Int) (V:mh):Prop where
 blk:w.heap[tb]? =some (MG V.rv V.xv fb V.nv V.hv cnt)
 fA:lo<=tb/\tb<hi/\lo<=fb/\fb<hi/\hi<=w.heap.size
 row:w.ownsRow lo 29 3 V.rv R.length (R.flatMap dw)
 xs:w.ownsRow lo 2 1 V.xv R.length ((bT R).map (Value.int .i64))
 iH:nN w lo fb R.length V.fv
 je:w.ownsRow lo 163 7 V.nv (aW R.length).length ((aW R.length).flatMap oN)
 oo:w.ownsRow lo 3 1 V.hv (aW R.length).length (Im h (aW R.length).length)
 top:∀v,v=V.rv\/v=V.xv\/v=V.nv\/v=V.hv\/v=V.fv->∀g,v.ownBlock=some g->g<hi
section
variable {w w':World} {lo hi tb fb:Nat} {R:List Pt} {h:iI} {cnt:Int} {V:mh}
theorem dO.congr {h':iI} (H:dO w lo hi tb fb R h cnt V) (e:∀k,k<(aW R.length).length->h' k=h k):dO w lo hi tb fb R h' cnt V:=
 ⟨H.blk,H.fA,H.row,H.xs,H.iH,H.je,by rw[Ms e];exact H.oo,H.top⟩
theorem dO.kept {S:Nat->Prop} (H:dO w lo hi tb fb R h cnt V) (K:ay S w w') (hS:∀k,lo<=k->k<hi->¬S k):dO w' lo hi tb fb R h cnt V:=by
 have ht:=H.top;have a:∀{e:TypeId} {sz:Nat} {v:Value} {n:Nat} {xs:List Value},w.ownsRow lo e sz v n xs->(∀g,v.ownBlock=some g->g<hi)->w'.ownsRow lo e sz v n xs:=fun a b=>aR a K fun g e=>hS g (a.lt g e).1 (b g e);exact⟨bq K H.blk (hS tb H.fA.1 H.fA.2.1),⟨H.fA.1,H.fA.2.1,H.fA.2.2.1,H.fA.2.2.2.1,bB H.fA.2.2.2.2 K.size⟩,
  a H.row (ht _ aA),a H.xs (ht _ aA),
  ⟨bq K H.iH.blk (hS fb H.fA.2.2.1 H.fA.2.2.2.1),a H.iH.row (ht _ aA)⟩,a H.je (ht _ aA),a H.oo (ht _ aA),H.top⟩
theorem dO.below {B:Nat} (H:dO w lo hi tb fb R h cnt V) (a:Below B w w') (e:hi<=B):dO w' lo hi tb fb R h cnt V:=
 H.kept (S:=fun k=>hi<=k) ⟨a.os,a.tape,a.output,a.size,fun k f g=>a.block k aa⟩ fun k b c d=>aa
theorem dO.FV (H:dO w lo hi tb fb R h cnt V):tb<w.heap.size:=bX H.fA.2.1 H.fA.2.2.2.2
theorem dO.nodes (H:dO w lo hi tb fb R h cnt V) (l:0<R.length):∃g off c,V.nv=.slice (some (ag g off)) (aW R.length).length c/\bW oN 7 w (some (ag g off)) (aW R.length):=by
 have m:=dh R.length;have⟨g,c,e,_⟩:=aU H.je aa;obtain⟨a,i,b,-,-,d⟩:=bW.aD jr ai H.je;rw[e]at b;injection b with f j k;rw[<-f]at d;exact⟨g,0,c,e,d⟩
theorem dO.holds (H:dO w lo hi tb fb R h cnt V) (r:0<R.length):∃g c,V.hv=az g (aW R.length).length c/\lo<=g/\g<hi/\g≠tb/\g≠fb/\g<w.heap.size/\(∀k,k<(aW R.length).length->w.cell? (ag g k)=some (ae (oq (h k)))/\w.frozen? (ag g k)=false)/\
  (∀a,V.rv.ownBlock=some a->a≠g)/\(∀a,V.xv.ownBlock=some a->a≠g)/\(∀a,V.nv.ownBlock=some a->a≠g)/\∀a,V.fv.ownBlock=some a->a≠g:=by
 have x:=dh R.length;have⟨g,c,e,y,u,s,t⟩:=aU H.oo aa;have b:=H.oo;rw[e]at b;have p:(az g (aW R.length).length c).ownBlock=some g:=rfl;have f:∀{j:TypeId} {sz n:Nat} {v:Value} {xs:List Value},w.ownsRow lo j sz v n xs->j≠3->∀a,v.ownBlock=some a->a≠g:=fun q o a d l=>bA q b o a d (l▸p);refine⟨g,c,e,(b.lt g rfl).1,H.top V.hv aA g (by rw[e];rfl),fun i=>bn b H.blk ai g rfl i.symm,fun i=>bn b H.iH.blk ai g rfl i.symm,(b.lt g rfl).2,fun k m=>⟨?_,b.frozenAt k⟩,f H.row ai,f H.xs ai,f H.je ai,f H.iH.row ai⟩;have d:=b.cellAt k aa;rw[KQ h m]at d;exact d
theorem dO.nQ (H:dO w lo hi tb fb R h cnt V) {g n c:Nat} (i:V.hv=az g n c) {k:Nat} (j:k<(aW R.length).length) (v:Option Nat):
  dO (w.setCell (ag g k) (.int .i64 (oq v))) lo hi tb fb R (gB h k v) cnt V:=by
 have K:ay (fun k=>k=g) w (w.setCell (ag g k) (.int .i64 (oq v))):=(ay.refl (fun k=>k=g) w).set (a:=(ag g k)) _ (.inl rfl);have e:=H.oo;rw[i]at e;have l:n=(aW R.length).length:=by
  rcases e.2 with⟨d,-⟩|⟨p,m,o,d,-⟩
  .cases d
  .injection d with _ d _
 subst l;have⟨cs,fr,b⟩:=qH e;have f:=(e.stored k (.int .i64 (oq v))).1;rw[KR h j v]at f;refine⟨Fj H.blk K b ai,aQ H.fA,fo H.row K b ai,fo H.xs K b ai,yQ H.iH K b ai ai,fo H.je K b ai,?_,H.top⟩;rw[i];exact f
theorem dO.BR (H:dO w lo hi tb fb R h cnt V) (m:Int):dO (w.setCell (ag tb 5) (.int .i64 m)) lo hi tb fb R h m V:=by
 have K:ay (fun k=>k=tb) w (w.setCell (ag tb 5) (.int .i64 m)):=(ay.refl (fun k=>k=tb) w).set (a:=(ag tb 5)) _ (.inl rfl);have b:=H.blk;exact⟨di w tb 5 _ _ _ H.blk,aQ H.fA,fo H.row K b ai,fo H.xs K b ai,yQ H.iH K b ai ai,fo H.je K b ai,fo H.oo K b ai,H.top⟩
end
end
section
open Go.RowKit Go.Sort Go.Shelf Go.Lib Go.Maps
attribute [local irreducible] wpQuiet
attribute [local go_sem] Oper.fw
structure Ph (w:World) (tb:Nat) (R:List Pt):Prop where
 lt:tb<w.heap.size
 row:∃ra rc,w.cell? (ag tb 0)=some (.slice ra R.length rc)/\bW dw 3 w ra R
theorem Ph.below {w w':World} {tb:Nat} {R:List Pt} (H:Ph w tb R) (a:Below w.heap.size w w'):Ph w' tb R:=by
 have⟨d,e,b,c⟩:=H.row;exact⟨bX H.lt a.size,d,e,(a.cell (p:=(ag tb 0)) H.lt).trans b,c.below a⟩
theorem dO.Rp {w:World} {lo hi tb fb:Nat} {cnt:Int} {R:List Pt} {h:iI} {V:mh} (H:dO w lo hi tb fb R h cnt V):Ph w tb R:=by
 obtain⟨c,d,b,-,-,e⟩:=bW.aD bg ai H.row;have a:=H.blk;rw[b]at a;exact⟨H.FV,c,d,aF a,e⟩
theorem y9 {w:World} {tb:Nat} {R:List Pt} (H:Ph w tb R) (P:R.length<=20000) (g d:Option Nat) (B:∀i,g=some i->i<R.length) (C:∀i,d=some i->i<R.length):
  aK 103 #[aj tb,ae (oq g),ae (oq d)] w (gm w (ae (oq (lowO R g d)))):=by
 obtain⟨ao,ap,ar,J,K⟩:=H;have N:=af K;have y:Hid (∀n,Below w.heap.size w (w.drewN n)):=fun n=>Below.bu _ n;clear K;cases g with
 |none=>
  have v:lowO R none d=d:=rfl;rw[v];generalize oq d=k at*;show Calls _ _ #[_,ae (-1),_] _ _;go_enter func103,ntmps103
  go_upto_region 1 with fail
  go_quiet (fail)
  go_wp2;go_ret;exact⟨rfl,y.o _⟩
 |some i=>
  have hi:=B i rfl;have al:((i:Int)==-1)=false:=by first|(simp;done)|(simp;omega)
  have am:decide ((i:Int)=-1)=false:=by first|(simp;done)|(simp;omega)
  cases d with
  |none=>
   have v:lowO R (some i) none=some i:=rfl;rw[v];show Calls _ _ #[_,ae (i:Int),ae (-1)] _ fun e w'=>e=.returned (ae (i:Int))/\_;go_enter func103,ntmps103
   go_upto_region 1 with fail
   go_quiet (fail)
   go_wp2;go_ret;exact⟨rfl,y.o _⟩
  |some j=>
   have f:=C j rfl;have f1:((j:Int)==-1)=false:=by first|(simp;done)|(simp;omega)
   have f2:decide ((j:Int)=-1)=false:=by first|(simp;done)|(simp;omega)
   have f3:((j:Int)!=-1)=true:=by first|(simp;done)|(simp;omega)
   have a:lowO R (some i) (some j)=if De R j i then some j else some i:=rfl;obtain⟨aq,au,O,an,c⟩:=N.o.get aa;have m:=c i hi 0 aa;have r:=c i hi 1 aa;have s:=c i hi 2 aa;have t:=c j f 0 aa;have v1:=c j f 1 aa;have u:=c j f 2 aa;simp only[dw,fI,dz,dI]at m r s t v1 u;rw[<-dE hi]at m r s;rw[<-dE f]at t v1 u;subst O;have z:Hid (De R j i=decide (og (bS R j) (bS R i)<0)):=by
    show _=_;unfold De;rw[mP,qC]
   rw[z.o]at a;have A:=af a;obtain⟨I,F⟩:∃I,I=R.length:=⟨_,rfl⟩;rw[<-F]at J P hi f;clear c z B C F a;generalize bS R i=p at*;generalize bS R j=q at*;have L:=af (fun W=>O6 q p W);generalize og q p=l at*;obtain⟨ab,ac,Z⟩:=p;obtain⟨ag,ak,ad⟩:=q;simp only at m r s t v1 u;have M:Hid (∀b:aS w,aK 71 #[iZ ag ak ad,iZ ab ac Z] b.W fun e w'=>e=.returned (ae l)/\Below b.W.heap.size b.W w'):=fun b=>L.o b.W;generalize lowO R (some i) (some j)=res at*;simp only[oq];have Q:=ah J;have S:=ah m;have T:=ah r;have U:=ah s;have V:=ah t;have X:=ah v1;have Y:=ah u;go_enter func103,ntmps103
   go_upto_region 1 with fail
   refine bH aM aM ?_
   repeat(quiet_step ((go_at_call 71;exact dM (M.o _))))
   refine jN ?_;intro w4 G;have D:Below w.heap.size w w4:=by obtain⟨b,rfl⟩:=G;exact b.h
   have x:=af D;clear G D Q S T U V X Y;by_cases E:l<0
   .have d1:decide (l<0)=true:=by simp[E]
    have a:=A.o;rw[d1,aO rfl]at a;subst a;go_wp2;go_ret;exact⟨rfl,x.o⟩
   .have d1:decide (l<0)=false:=by simp[E]
    have a:=A.o;rw[d1,aN ai]at a;subst a;go_wp2;go_ret;exact⟨rfl,x.o⟩
def ou (R:List Pt) (x1 x2:Int):List Nat×Nat:=
 if R.length=0\/x2<x1 then([],0)
 else if ji R x1<l7 R x2 then(((dP 0 R.length).canon 0 (ji R x1) (l7 R x2)).1,(aV (bT R) x1).2+(aT (bT R) x2).2+((dP 0 R.length).canon 0 (ji R x1) (l7 R x2)).2)
 else([],(aV (bT R) x1).2+(aT (bT R) x2).2)
theorem Rq {R:List Pt} {x1 x2:Int} (a:R.length=0\/x2<x1):ou R x1 x2=([],0):=by unfold ou;rw[aO a]
def Rs (w:World) (r:List Nat×Nat) (e:Ending) (w':World):Prop:=
 ∃v,e=.returned (.tuple #[v,ae (r.2:Nat)])/\w'.ownsRow w.heap.size 3 1 v r.1.length (r.1.map fE)/\Below w.heap.size w w'
theorem MH {W:World} {lo hi tb fb:Nat} {cnt:Int} {R:List Pt} {h:iI} {V:mh} (b:dO W lo hi tb fb R h cnt V) (ap:R.length<=20000) (x1 x2:Int):
  aK 110 #[aj tb,ae x1,ae x2] W (Rs W (ou R x1 x2)):=by
 have L:=b.FV;have d:=b.blk;obtain⟨ai,ak,A⟩:=fH b.row;obtain⟨D,E,B,-,-,s⟩:=Rd.aD b.xs;rw[A,B]at d;have j:(bT R).length=R.length:=by unfold bT;rw[bU]
 rw[j]at d;have Q:W.cell? (ag tb 0)=some (.slice ai R.length ak):=aF d;have y:W.cell? (ag tb 1)=some (.slice D R.length E):=aF d;have z:W.cell? (ag tb 2)=some (aj fb):=aF d;by_cases q:R.length=0\/x2<x1
 .rw[Rq q];have G:Hid (Rs W ([],0) (.returned (.tuple #[aL,ae 0])) W):=⟨_,rfl,dA _ _ _ _,aJ _ _⟩;clear b d s A B y z;generalize R.length=n at*;by_cases a:n=0
  .have d0:((n:Int)==0)=true:=by simp[a]
   have d1:(n==0)=true:=by simp[a]
   have d2:decide (n=0)=true:=by simp[a]
   clear a q j;go_enter func110,ntmps110;go_wp2;go_ret2;exact G.o
  .have d0:((n:Int)==0)=false:=by simp[a]
   have d1:(n==0)=false:=by simp[a]
   have d2:decide (n=0)=false:=by simp[a]
   have f1:decide (x1>x2)=true:=aG;have f2:decide (x2<x1)=true:=aG;clear a q j;go_enter func110,ntmps110;go_wp2;go_ret2;exact G.o
 .have a:0<R.length:=aa;have t:=af (fun W' (m:Below W.heap.size W W')=>EX D (bT R) E x1 W' (s.below m) aa);have u:=af (fun W' (m:Below W.heap.size W W')=>EY D (bT R) E x2 W' (s.below m) aa);have ad:=gy (fun i=>decide (x1<=(bT R).getD i 0)) (bT R).length;have ah:=gy (fun i=>decide (x2<(bT R).getD i 0)) (bT R).length;have aq:(aV (bT R) x1).2<=20000:=by unfold aV;omega
  have ar:(aT (bT R) x2).2<=20000:=by unfold aT;omega
  obtain⟨al,am,an⟩:=bJ 0 R.length a;have X:=fu 0 R.length a;have Y:=(FT.qL (ji R x1) (l7 R x2) (dP 0 R.length) 0).1;have M:=Ra R x2;have k:Hid (ji R x1<l7 R x2->∀W',Below W.heap.size W W'->aK 175 #[aj fb,ae (ji R x1),ae (l7 R x2)] W' (Rb W' R.length (ji R x1) (l7 R x2))):=fun f W' m=>
   GX lo fb R.length (ji R x1) (l7 R x2) V.fv aa f M W' (b.below m b.fA.2.2.2.2).iH
  have l:Hid (ou R x1 x2=if ji R x1<l7 R x2 then(((dP 0 R.length).canon 0 (ji R x1) (l7 R x2)).1,(aV (bT R) x1).2+(aT (bT R) x2).2+((dP 0 R.length).canon 0 (ji R x1) (l7 R x2)).2)else([],(aV (bT R) x1).2+(aT (bT R) x2).2)):=by
   show ou R x1 x2=_
   conv=>lhs;unfold ou
   rw[aN q]
  have x:Hid (ji R x1=(aV (bT R) x1).1/\l7 R x2=(aT (bT R) x2).1):=⟨rfl,rfl⟩;rw[<-x.o.1,j]at t;rw[<-x.o.2,j]at u;have f1:decide (x1>x2)=false:=aG;have f2:decide (x2<x1)=false:=aG;unfold Rb at k;have Z:((dP 0 R.length).canon 0 (ji R x1) (l7 R x2)).2<=40000:=aa;obtain⟨dg,J⟩:∃dg,dg=(dP 0 R.length).canon 0 (ji R x1) (l7 R x2):=⟨_,rfl⟩;rw[<-J]at k l Z;clear b d s A B q ad ah al am an X j J Y M;generalize ji R x1=fr at*;generalize l7 R x2=tu at*;generalize ab:(aV (bT R) x1).2=N at*;generalize ac:(aT (bT R) x2).2=O at*;generalize ou R x1 x2=ask at*;clear ab ac x;generalize R.length=n at*;have d0:((n:Int)==0)=false:=aG;have d1:(n==0)=false:=aG;have d2:decide (n=0)=false:=aG;go_enter func110,ntmps110
  go_wp2_with fail
  refine(t.o W (aJ _ _)).mono ?_;rintro e w1 ⟨rfl,C⟩;have S:=(C.cell (p:=(ag tb 1)) L).trans y;have r:=af C;clear C
  go_wp2_with fail
  refine(u.o w1 r.o).mono ?_;rintro e w2 ⟨rfl,H⟩;have g:Hid (Below W.heap.size W w2):=r.o.trans (H.mono r.o.size);have ao:=(g.o.cell (p:=(ag tb 2)) L).trans z;clear H S t u r Q y z;by_cases f:fr<tu
  .have T:decide ((tu:Int)<=(fr:Int))=false:=aG;have U:decide (tu<=fr)=false:=aG;have c:=l.o;rw[aO f]at c;have P:=af c;have F:=af (k.o f w2 g.o);clear c f k l
   go_wp2_with fail
   refine F.o.mono ?_;rintro e w3 ⟨v,rfl,K,I⟩;have w:Hid (Rs W ask (.returned (.tuple #[v,ae ((N+O+dg.2:Nat):Int)])) w3):=by
    rw[P.o];exact⟨v,rfl,bI K g.o.size,g.o.trans (I.mono g.o.size)⟩
   clear K I F;go_wp2;go_ret2;exact w.o
  .have T:decide ((tu:Int)<=(fr:Int))=true:=aG;have U:decide (tu<=fr)=true:=aG;have c:=l.o;rw[aN f]at c;have w:Hid (Rs W ask (.returned (.tuple #[aL,ae ((N+O:Nat):Int)])) w2):=by
    rw[c];exact⟨_,rfl,dA _ _ _ _,g.o⟩
   clear c f k l;go_wp2;go_ret2;exact w.o
theorem Rt {R:List Pt} {x1 x2:Int}:∀k∈(ou R x1 x2).1,k<(aW R.length).length:=fun k a=>by
 unfold ou at a;by_cases b:R.length=0\/x2<x1
 .rw[aO b]at a;exact absurd a iC
 .rw[aN b]at a;by_cases c:ji R x1<l7 R x2
  .rw[aO c]at a;exact FT.OY _ 0 (jU R.length aa) k a
  .rw[aN c]at a;exact absurd a iC
theorem MI {R:List Pt} (d:R.length<=20000) (x1 x2:Int):(ou R x1 x2).1.length<=40000/\(ou R x1 x2).2<=100000:=by
 unfold ou;by_cases a:R.length=0\/x2<x1
 .rw[aO a];simp
 .rw[aN a];have f:=gy (fun i=>decide (x1<=(bT R).getD i 0)) (bT R).length;have h:=gy (fun i=>decide (x2<(bT R).getD i 0)) (bT R).length;have k:(bT R).length=R.length:=by unfold bT;rw[bU]
  have g:(aV (bT R) x1).2<=20000:=by unfold aV;omega
  have j:(aT (bT R) x2).2<=20000:=by unfold aT;omega
  have e:=fu 0 R.length aa;have c:=FT.qL (ji R x1) (l7 R x2) (dP 0 R.length) 0;by_cases b:ji R x1<l7 R x2
  .rw[aO b];exact⟨bB c.2 aa,by have:=c.1;simp only;omega⟩
  .rw[aN b];exact⟨aA,by show _+_<=_;omega⟩
theorem KU {R:List Pt} {gone:List Bool} {YS:List Nat} {N:List Nd} (b:cB R gone YS) (c:List Nat):∀i,sK R N YS c=some i->i<R.length:=by
 intro i h;have a:=G7 (N:=N) b c none (fun _=>False) (fun _ h=>h.elim) (fun _ h=>h);unfold sK at h;rw[h]at a;rcases a.1 with h2|h2
 .exact h2.elim
 .obtain⟨k,-,d⟩:=xY.1 h2;exact DY b d
theorem ow {P:Program} {fn:Func} {p q r:Tmp} {ty:TypeId} (h:fn.results=#[.cell p ty,.tmp q,.tmp r]) (a:Array Value) (w:World) (g:Nat) (t:TypeId) (cs:Array Value) (fr:Nat×Nat) (d:TypeDesc) (b c:Value)
  (hp:a.getD p undef=aj g) (e:a.getD q undef=b) (i:a.getD r undef=c) (k:w.heap[g]? =some (.cells cs t fr))
  (hu:P.underlying ty=some d) (hd:(match d with|.struct _|.array _ _=>true|_=>false)=true) (hi:(P.info? ty).map (·.size)=some cs.size):
  (results fn a).run P w=.ok (.tuple #[.agg cs,b,c]) w:=by
 have l:a[p]?.getD undef=aj g:=aQ hp;have f:a[q]?.getD undef=b:=aQ e;have j:a[r]?.getD undef=c:=aQ i;simp[results,h,l,f,j,asAddr,run_loadVar_row w g t ty cs fr d k hu hd hi]
theorem JM {w:World} {lo hi tb fb:Nat} {cnt:Int} {R:List Pt} {gone:List Bool} {YS:List Nat} {V:mh} (f:dO w lo hi tb fb R (kV (aW R.length) YS) cnt V) (ah:cB R gone YS) (I:R.length<=20000) (x1 x2:Int):
  aK 42 #[aj tb,ae x1,ae x2] w fun e w'=>(∃p:Pt,p=((sK R (aW R.length) YS (ou R x1 x2).1).map (bS R)).getD (0,0,0)/\e=.returned (.tuple #[iZ p.1 p.2.1 p.2.2,.bool (sK R (aW R.length) YS (ou R x1 x2).1).isSome,ae ((ou R x1 x2).2:Nat)]))/\Below w.heap.size w w':=by
 obtain⟨aw,ax⟩:=MI I x1 x2;have F:=af (Rt (R:=R) (x1:=x1) (x2:=x2));have C:=af (fun W (aQ:Below w.heap.size w W)=>MH (f.below aQ f.fA.2.2.2.2) I x1 x2);obtain⟨ask,ai⟩:∃ask,ask=ou R x1 x2:=⟨_,rfl⟩;rw[<-ai]at C F aw ax |-;clear ai;obtain⟨a,fD⟩:=ask;simp only at aw ax F |-;have g:=af f;have G:=af ah;have a6:=f.FV;obtain⟨w1,q⟩:∃w1,w1=w.alloc (.cells #[ae 0,ae 0,au 0] 29):=⟨_,rfl⟩;have ak:Below w.heap.size w w1:=by rw[q];exact(aJ _ _).alloc (aB _) _
 have ay:w1.heap[w.heap.size]? =some (yR (0,0,0)):=by rw[q];exact bV w _
 have l:=af ak;have H:=af ay;have S:=af q;clear q ak ay f ah;go_enter func42,ntmps42
 go_upto_region 1 with fail
 rw[<-S.o];clear S
 go_wp2_with fail
 refine(C.o w1 l.o).mono ?_;rintro e w2 ⟨v,rfl,av,K⟩;have m:=af (l.o.trans (K.mono l.o.size));have aS:w.heap.size<w1.heap.size:=(aZ.1 H.o).1;have Z:=af ((K.block w.heap.size aS).trans H.o);have aT:w.heap.size<w2.heap.size:=(aZ.1 Z.o).1;obtain⟨a7,a8,rfl,-,-,ap⟩:=Rd.aD (enc:=fE) av;have aE:=af ap;clear av ap K C l H;go_wp2
 go_loopw [11,23] (fun bv O wr=>∃j:Nat,O=.int .i64 j/\j<=a.length/\bv=.int .i64 (oq (sK R (aW R.length) YS (a.take j)))/\Hid (Below w2.heap.size w2 wr)) (fun _ O _=>a.length-(intOf O).toNat)
 case atStart=>exact⟨0,rfl,aY _,rfl,af (aJ _ _)⟩
 case round=>
  obtain⟨j,rfl,a2,rfl,c⟩:=hrel;by_cases L:j<a.length
  .have a3:(j:Int)<(a.length:Int):=aa;have ao:=F.o a[j] (bF L);have aP:0<R.length:=by have:=dh R.length;omega
   have aC:=af (m.o.trans (c.o.mono (by have:=m.o.size;omega)));have r:=g.o.below aC.o (by have:=g.o.fA;omega);obtain⟨aO,ch,ac,-,-,-,-,a1,am,-⟩:=r.holds aP;have J:=r.blk;rw[ac]at J;have aH:wr.cell? (ag tb 4)=some (az aO (aW R.length).length ch):=aF J;have aI:=(am a[j] ao).1;have P:=af (y9 r.Rp I (sK R (aW R.length) YS (a.take j)) (kV (aW R.length) YS a[j]) (KU G.o _) (fun i h=>Cg G.o h));have aG:Hid (sK R (aW R.length) YS (a.take (j+1))=lowO R (sK R (aW R.length) YS (a.take j)) (kV (aW R.length) YS a[j])):=by
    show _=_;rw[ik L,Mr]
   obtain⟨b,off,ab,a0,an⟩:=(aE.o.below c.o).get aa;have aU:=an j L;simp only[fE]at aU;have Q:=af ab;have aR:(aW R.length).length<=40000:=by rw[dh];omega
   obtain⟨M,ad⟩:∃M,M=(aW R.length).length:=⟨_,rfl⟩;rw[<-ad]at aH ao aR;clear am an J ac r ab ad;generalize lowO R (sK R (aW R.length) YS (a.take j)) (kV (aW R.length) YS a[j])=a9 at*;generalize kV (aW R.length) YS a[j]=bk at*;generalize sK R (aW R.length) YS (a.take j)=aV at*;generalize a[j]=k at*;obtain rfl:=Q.o;clear Q
   go_wp2_with fail
   refine P.o.mono ?_;rintro e w3 ⟨rfl,al⟩;have d:=af (c.o.trans (al.mono c.o.size));clear al P;go_wp2;go_roundw
   case rel=>exact⟨j+1,by go_num,aa,by rw[aG.o],d⟩
   case measure=>exact eO
  .obtain rfl:j=a.length:=aa;rw[jL]at*;have ar:=KU (N:=aW R.length) G.o a;generalize aq:sK R (aW R.length) YS a=o at*;have HO:=af aq;clear aq;have d:=af (m.o.trans (c.o.mono (by have:=m.o.size;omega)));have n:=af ((c.o.block w.heap.size aT).trans Z.o);obtain⟨w3,aN⟩:∃w3:World,w3=wr:=⟨_,rfl⟩;subst aN;cases o with
   |none=>
    simp only[oq,lK,mR,Option.isSome_none];have T:=qb w3 w.heap.size _ #[ae 0,ae 0,au 0] _ _ n.o;have U:=yo d.o (aB w.heap.size) #[ae 0,ae 0,au 0];have D:=af T;have E:=af U;clear T U
    go_wp2_with (refine rD rfl 29 (.tmp 6) (.tmp 40) rfl rfl w.heap.size #[ae 0,ae 0,au 0] rfl rfl _ _ n.o aM rfl (by simp[Value.oneCell']) ?_)
    refine jM (ow rfl _ _ w.heap.size _ _ _ _ (.bool false) (.int .i64 (fD:Nat)) rfl rfl rfl D.o underlying29 rfl aM) rfl ?_;exact⟨⟨(0,0,0),by first|rfl|(rw[HO.o];rfl),by first|rfl|(rw[HO.o];rfl)⟩,E.o⟩
   |some i=>
    have s:=ar i rfl;have aI:((i:Int)==-1)=false:=by first|(simp;done)|(simp;omega)
    have aX:decide ((i:Int)=-1)=false:=by first|(simp;done)|(simp;omega)
    obtain⟨a4,bb,bd,ba,aA⟩:=(g.o.below d.o (by have:=g.o.fA;omega)).Rp;obtain⟨bc,be,aL,a5,t⟩:=aA.get aa;have z:=t i s 0 aa;have A:=t i s 1 aa;have B:=t i s 2 aa;simp only[dw,fI,dz,dI]at z A B;rw[<-dE s]at z A B;subst aL;simp only[oq,fQ,gI,Option.isSome_some];have X:Hid (∃p,p=bS R i):=⟨_,rfl⟩;obtain⟨p,hp⟩:=X.o;have Y:=af hp;rw[<-hp]at z A B;clear hp X;obtain⟨u,x,y⟩:=p;simp only at z A B;clear t aA ar;have D:=af (qb w3 w.heap.size _ #[ae u,ae x,au y] _ _ n.o);have E:=af (yo d.o (aB w.heap.size) #[ae u,ae x,au y])
    go_wp2_with (refine rD rfl 29 (.tmp 6) (.tmp 48) rfl rfl w.heap.size #[ae u,ae x,au y] rfl rfl _ _ n.o aM rfl (by simp[Value.oneCell']) ?_)
    refine jM (ow rfl _ _ w.heap.size _ _ _ _ (.bool true) (.int .i64 (fD:Nat)) rfl rfl rfl D.o underlying29 rfl aM) rfl ?_;exact⟨⟨(u,x,y),by first|exact Y.o|(rw[HO.o];exact Y.o),by first|rfl|(rw[HO.o];rfl)⟩,E.o⟩
end
section
open Go Go.RowKit
namespace FT
theorem vU:∀(t:FT) (s x:Nat),t.wf->t.lo<=x->x<t.hi->
  (∀i k,(t.path s x)[i]? =some k->i+1<(t.path s x).length->∃l r b,(node l r,b)∈t.subs s/\(node l r).root b=k)/\
  ∃L k,t.path s x=L++[k]/\(leaf x,k)∈t.subs s
 |leaf a,s,x,h,g,j=>by
  have o:a=x:=by simp only[lo,hi]at g j;omega
  subst o;refine⟨fun i k hi c=>?_,[],s,by rw[path];rfl,by simp[subs]⟩;rw[path]at c;simp at c
 |node l r,s,x,h,g,j=>by
  have w:=h.2.2;have key:∀(t:FT) (b:Nat),(∀p∈t.subs b,p∈(node l r).subs s)->(node l r).path s x=(node l r).root s::t.path b x->
    ((∀i k,(t.path b x)[i]? =some k->i+1<(t.path b x).length->∃l r f,(node l r,f)∈t.subs b/\(node l r).root f=k)/\∃L k,t.path b x=L++[k]/\(leaf x,k)∈t.subs b)->
    (∀i k,((node l r).path s x)[i]? =some k->i+1<((node l r).path s x).length->∃l' d b,(node l' d,b)∈(node l r).subs s/\(node l' d).root b=k)/\∃L k,(node l r).path s x=L++[k]/\(leaf x,k)∈(node l r).subs s:=fun t b n e ⟨q,L,k,u,v⟩=>by
   rw[e];refine⟨fun i k hi c=>?_,(node l r).root s::L,k,by rw[u];rfl,n _ v⟩
   match i with
   |0=>
    simp only[fI]at hi;injection hi with hi;exact⟨l,r,s,by simp[subs],hi⟩
   |i+1=>
    simp only[dz]at hi;have⟨l',d,f,m1,m2⟩:=q i k hi (aQ c);exact⟨l',d,f,n _ m1,m2⟩
  by_cases m:x<l.hi
  .exact key l s (fun p hp=>by simp[subs,hp]) (by rw[path,aO m]) (vU l s x h.1 g m)
  .exact key r (s+l.size) (fun p hp=>by simp[subs,hp]) (by rw[path,aN m]) (vU r _ x h.2.1 aa j)
end FT
def za (N:List Nd) (YS Ws:List Nat) (P:List Nat) (m:Nat):iI:=fun k=>if k∈P.take m then kV N YS k else kV N Ws k
section
variable {R:List Pt} {gone Si:List Bool} {YS:List Nat} {x:Nat}
theorem MJ (g:x<R.length) {k:Nat} (c:k<(aW R.length).length) (hP:k∉(dP 0 R.length).path 0 x):kV (aW R.length) (dX YS x) k=kV (aW R.length) YS k:=by
 have b:0<R.length:=aa;have⟨t,s,a,e⟩:=tO c;subst e;have⟨w1,w2,w3⟩:=bJ 0 R.length b;have d:=FT.at_mem (fK b▸a);have f:¬(t.lo<=x/\x<t.hi):=fun h=>hP (FT.wQ _ 0 x w1 (t,s) d h.1 h.2);unfold kV;rw[Cf a,Cf a];congr 1;unfold nl dX;rw[rC];apply mJ;intro i _;by_cases e:i=x
 .subst e;simp[f]
 .simp[e]
structure Pj (R:List Pt) (YS:List Nat) (x:Nat) (P:List Nat):Prop where
 lt:∀k∈P,k<(aW R.length).length
 down:P.Pairwise (·>·)
 aside:∀k,k<(aW R.length).length->k∉P->kV (aW R.length) (dX YS x) k=kV (aW R.length) YS k
 inner:∀i (h:i+1<P.length),∃l r s,FT.At (aW R.length) (.node l r) s/\(FT.node l r).wf/\(FT.node l r).root s=P[i]'(rE h)
 last:∃h:P.length-1<P.length,FT.At (aW R.length) (.leaf x) P[P.length-1]
theorem TG (YS:List Nat) (m:x<R.length):Pj R YS x ((dP 0 R.length).path 0 x):=by
 have a:0<R.length:=aa;have⟨w1,w2,w3⟩:=bJ 0 R.length a;have g:=jU R.length a;have d:=g;rw[fK a]at d;have c:∀p∈(dP 0 R.length).subs 0,FT.At (aW R.length) p.1 p.2:=fun p hp=>by rw[fK a];exact FT.kR _ 0 d _ hp
 have⟨n,L,k,f,o⟩:=FT.vU (dP 0 R.length) 0 x w1 aa aa;refine⟨fun k b=>?_,FT.tK _ 0 x w1 aa aa,fun k b hP=>MJ m b hP,fun i h=>?_,?_⟩
 .obtain⟨p,hp,e,-⟩:=FT.ng _ 0 x w1 aa aa k b;rw[<-e];exact(c p hp).lt
 .obtain⟨l,r,s,m1,m2⟩:=n i _ (bZ (rE h)) h;exact⟨l,r,s,c _ m1,FT.qz _ 0 w1 _ m1,m2⟩
 .have j:((dP 0 R.length).path 0 x).length-1<((dP 0 R.length).path 0 x).length:=by rw[f];simp
  refine⟨j,?_⟩;have e:((dP 0 R.length).path 0 x)[((dP 0 R.length).path 0 x).length-1]=k:=by simp[f]
  rw[e];exact c _ o
variable {P:List Nat} (hP:Pj R YS x P)
include hP
theorem Pj.sorted {i j:Nat} (a:i<j) (b:j<P.length):P[j]<P[i]:=gU.1 hP.down i j aa b a
theorem Pj.Cs {m k:Nat} (b:m<P.length) (d:k<=P[m]) (h:k∈P.take m):False:=by
 have⟨i,hi,e⟩:=jk h;have a:i<m:=by simp at hi;omega
 have c:P[i]'aa=k:=by rw[<-e];simp
 have:=hP.sorted a b;omega
theorem MK (c:cB R Si (dX YS x)) (k:Nat) (g:k<(aW R.length).length):gB (kV (aW R.length) YS) (P[P.length-1]'hP.last.1) none k=za (aW R.length) YS (dX YS x) P (P.length-1) k:=by
 have⟨j,d⟩:=hP.last;unfold za;by_cases e:k=P[P.length-1]
 .subst e;rw[fZ,aN (fun h=>hP.Cs j (aB _) h),Ch c d,aN (by simp[dX])]
 .rw[iw e];by_cases h:k∈P.take (P.length-1)
  .rw[aO h]
  .rw[aN h];refine(hP.aside k g fun b=>?_).symm;have⟨i,hi,a⟩:=jk b;by_cases f:i=P.length-1
   .subst f;exact e a.symm
   .exact h (by rw[<-a];exact List.mem_take_iff_getElem.2 ⟨i,aa,rfl⟩)
theorem Pk (g:cB R Si (dX YS x)) {m:Nat} (a:m+1<P.length):∃l r s,FT.At (aW R.length) (.node l r) s/\(FT.node l r).root s=P[m]'(rE a)/\
  za (aW R.length) YS (dX YS x) P (m+1) (l.root s)=kV (aW R.length) (dX YS x) (l.root s)/\za (aW R.length) YS (dX YS x) P (m+1) (r.root (s+l.size))=kV (aW R.length) (dX YS x) (r.root (s+l.size))/\
  ∀k,gB (za (aW R.length) YS (dX YS x) P (m+1)) (P[m]'(rE a)) (lowO R (kV (aW R.length) (dX YS x) (l.root s)) (kV (aW R.length) (dX YS x) (r.root (s+l.size)))) k=za (aW R.length) YS (dX YS x) P m k:=by
 have⟨l,r,s,c,i,e⟩:=hP.inner m a;have d:l.root s<(FT.node l r).root s/\r.root (s+l.size)<(FT.node l r).root s:=by
  have:=l.size_pos;have:=r.size_pos;have j:(FT.node l r).size=l.size+r.size+1:=rfl;unfold FT.root;omega
 have f:∀k,k<(FT.node l r).root s->k∉P.take (m+1):=fun k b h=>by
  rw[e]at b;rw[ik (rE a),bP,lY]at h;rcases h with h|h
  .exact hP.Cs (rE a) (vv b) h
  .omega
 refine⟨l,r,s,c,e,aN (f _ d.1),aN (f _ d.2),fun k=>?_⟩;by_cases b:k=P[m]
 .subst b;rw[fZ];unfold za;rw[aN (fun h=>hP.Cs (rE a) (aB _) h),<-e,G6 g c i]
 .rw[iw b];unfold za;have:k∈P.take (m+1)↔k∈P.take m:=by
   rw[ik (rE a),bP,lY];exact⟨fun h=>h.resolve_right b,.inl⟩
  simp only[this]
theorem Pm:za (aW R.length) YS (dX YS x) P 0=kV (aW R.length) (dX YS x):=by
 have _:=hP;funext k;unfold za;rw[lL,aN iC]
end
end
section
open Go.RowKit Go.Sort Go.Shelf Go.Lib Go.Maps
attribute [local irreducible] wpQuiet
attribute [local go_sem] Oper.fw
theorem Ct:fV 103:=bY func103 aM rfl
def JN (w:World) (lo hi tb fb:Nat) (R:List Pt) (YS:List Nat) (cnt:Int) (V:mh) (x:Nat) (e:Ending) (w':World):Prop:=
 (x∉YS/\e=.returned (.bool false)/\Below w.heap.size w w')\/(x∈YS/\e=.returned (.bool true)/\dO w' lo hi tb fb R (kV (aW R.length) (dX YS x)) (cnt-1) V/\ay (fun k=>lo<=k/\k<hi) w w')
theorem Hl {w:World} {lo hi tb fb:Nat} {R:List Pt} {gone:List Bool} {YS:List Nat} {cnt:Int} {V:mh} (H:dO w lo hi tb fb R (kV (aW R.length) YS) cnt V) (aT:cB R gone YS) (c5:R.length<=20000) (dJ:0<=cnt) (dK:cnt<=20000) {x:Nat} (J:x<R.length) (p:Pt) (hp:R[x]=p):
  aK 127 #[aj tb,iZ p.1 p.2.1 p.2.2] w (JN w lo hi tb fb R YS cnt V x):=by
 have A:=H.blk;have df:=H.FV;have B:=H.fA;obtain⟨bP,bQ,b4,-,-,bG⟩:=bW.aD bg ai H.row;rw[b4]at A;have CB:=af (fun W (A:Below w.heap.size w W)=>OG bP R R.length bQ p W rfl aa (bG.below A) aT.Bj);have aX:=Fq aT.Bj J;rw[hp]at aX;rw[aX.1,aX.2]at CB;have cL:=af bG;have co:bS R x=p:=by rw[dE J];exact hp
 have cK:=af co;have aw:=af J;obtain⟨bc,bd,bb⟩:=p;obtain⟨w1,aE⟩:∃w1,w1=w.alloc (.cells #[ae bc,ae bd,au bb] 29):=⟨_,rfl⟩;have bt:Below w.heap.size w w1:=by rw[aE];exact(aJ _ _).alloc (aB _) _
 have ac:w1.heap[w.heap.size]? =some (.cells #[ae bc,ae bd,au bb] 29 (0,0)):=by rw[aE];exact bV w _
 have bE:w.heap.size<w1.heap.size:=(aZ.1 ac).1;have aY:=(bt.block tb df).trans A;have T:w1.cell? (ag tb 0)=some (.slice bP R.length bQ):=aF aY;have a8:w1.cell? (ag w.heap.size 0)=some (ae bc):=aF ac;have a9:w1.cell? (ag w.heap.size 1)=some (ae bd):=aF ac;have ba:w1.cell? (ag w.heap.size 2)=some (au bb):=aF ac;have de:0<R.length:=aa;have cs:=J;obtain⟨n,bD⟩:∃n,n=R.length:=⟨_,rfl⟩;rw[<-bD]at c5 T CB de cs;have u:=af bD;have an:=af bt;have bY:=af H;have bm:=af aT;have b2:=af (TG YS J);have dg:tb<w1.heap.size:=aa;clear H bG A b4 bD bt ac aY aX hp J aT co;have d0:((n:Int)==0)=false:=aG;have d1:(n==0)=false:=aG;have d2:decide (n=0)=false:=aG;go_enter func127,ntmps127
 go_upto_region 1 with fail
 rw[<-aE];clear aE
 go_upto_region 3 with fail
 have b0:Hid (∀b:aS w1,aK 191 #[.slice bP n bQ,iZ bc bd bb,.func (.func 94) #[] #[]] b.W fun e w'=>e=.returned (.tuple #[ae (x:Nat),.bool true])/\Below b.W.heap.size b.W w'):=fun b=>CB.o b.W (an.o.trans (b.h.mono an.o.size));clear CB;have cZ:=ah T;have c0:=ah a8;have c1:=ah a9;have c2:=ah ba;refine bH aM aM ?_
 repeat(quiet_step ((go_at_call 191;exact dM (b0.o _))))
 refine jN ?_;intro wc cr;have I:Below w1.heap.size w1 wc:=by obtain⟨b,rfl⟩:=cr;exact b.h
 have T:=(I.cell (p:=(ag tb 0)) dg).trans T;have a8:=(I.cell (p:=(ag w.heap.size 0)) bE).trans a8;have a9:=(I.cell (p:=(ag w.heap.size 1)) bE).trans a9;have ba:=(I.cell (p:=(ag w.heap.size 2)) bE).trans ba;have Q:Hid (Below w.heap.size w wc):=an.o.trans (I.mono an.o.size);clear cr I cZ c0 c1 c2 b0;have ar:Hid (dO wc lo hi tb fb R (kV (aW R.length) YS) cnt V):=bY.o.below Q.o B.2.2.2.2;have cg:=ar.o.blk;have bn:wc.cell? (ag tb 2)=some (aj fb):=aF cg;obtain⟨b,off,cW,c7,c⟩:=(cL.o.below Q.o).get (by have:=u.o;omega);have bM:=c x aw.o 0 aa;have bN:=c x aw.o 1 aa;have bO:=c x aw.o 2 aa;rw[<-dE aw.o,cK.o]at bM bN bO;simp only[dw,fI,dz,dI]at bM bN bO;subst cW;clear c cg bY
 go_upto_region 4 with fail
 go_quiet (fail)
 obtain⟨w3,aL⟩:∃w3,w3=wc.drewN nq:=⟨_,rfl⟩;have bv:Below wc.heap.size wc w3:=by rw[aL];exact Below.bu _ _
 have bn:w3.cell? (ag tb 2)=some (aj fb):=by rw[aL];exact bn
 have aq:Hid (dO w3 lo hi tb fb R (kV (aW R.length) YS) cnt V):=ar.o.below bv ar.o.fA.2.2.2.2;have ao:Hid (Below w.heap.size w w3):=Q.o.trans (bv.mono Q.o.size);have bU:=af (vI lo fb n x V.fv aa cs w3 (by rw[u.o];exact aq.o.iH))
 go_upto_region 6 with fail
 rw[<-aL];clear aL bv ar Q bM bN bO a8 a9 ba T c7
 go_wp2_with fail
 refine bU.o.mono ?_;rintro e w4 ⟨pv,rfl,a3,bw⟩;have S:Hid (dO w4 lo hi tb fb R (kV (aW R.length) YS) cnt V):=aq.o.below bw aq.o.fA.2.2.2.2;have bZ:Hid (Below w.heap.size w w4):=ao.o.trans (bw.mono ao.o.size);have dY:w.heap.size<=w3.heap.size:=ao.o.size;obtain⟨P,aQ⟩:∃P,P=(dP 0 n).path 0 x:=⟨_,rfl⟩;have dG:P.length<=n+1:=by
  have b5:=FT.oI (dP 0 n) 0 x;have dF:=vE 0 n n (vv (Es));rw[aQ];omega
 rw[<-aQ]at a3;have D:Hid (Pj R YS x P):=by rw[aQ,u.o];exact b2.o
 clear aQ;obtain⟨dy,cw,rfl,-,-,ad⟩:=Rd.aD (enc:=fE) a3;have bl:Hid (w4.ownsRow w3.heap.size 3 1 (.slice dy P.length cw) P.length (P.map fE)):=a3;obtain⟨cl,b7⟩:=D.o.last;have a1:=D.o.lt _ (bF cl);obtain⟨aA,bL,cX,dH,b9⟩:=ad.get aa;have bi:=b9 (P.length-1) cl;simp only[fE]at bi;obtain⟨F,ch,bq,ci,cj,da,-,dL,c,-⟩:=S.o.holds (by have:=u.o;omega);obtain⟨q,O⟩:=c _ a1;rw[show kV (aW R.length) YS P[P.length-1]=if x∈YS then some x else none from Ch bm.o b7]at q;have Z:=S.o.blk;rw[bq]at Z;have E:w4.cell? (ag tb 4)=some (az F (aW R.length).length ch):=aF Z;have cT:w4.cell? (ag tb 5)=some (ae cnt):=aF Z;have dB:w4.frozen? (ag tb 5)=false:=aF Z;have cC:=af bq;have cH:Hid (P[P.length-1]=P[P.length-1]):=rfl;have c4:(aW R.length).length<=40000:=by have:=u.o;rw[dh];omega
 have cV:((P.length-1:Nat):Int)=(P.length:Int)-1:=aa;have dZ:=S.o.FV;have dN:F≠tb:=da;obtain⟨lf,bB⟩:∃lf,lf=P[P.length-1]:=⟨_,rfl⟩;obtain⟨M,bs⟩:∃M,M=(aW R.length).length:=⟨_,rfl⟩;rw[<-bB]at bi q O a1;rw[<-bs]at E a1 c4;have cG:=af bB;have bk:=af bs;obtain⟨m1,bC⟩:∃m1,m1=P.length-1:=⟨_,rfl⟩;rw[<-bC]at bi;have dT:(P.length:Int)-1=(m1:Int):=aa;have dU:(m1:Int)<(P.length:Int):=aa;have dV:m1<P.length:=aa;have cI:=af bC;clear bC;subst cX;clear Z bq c a3 ad bw bU aq ao bn b9 bB bs b7 cV cH;by_cases z:x∈YS
 .rw[aO z]at q;simp only[oq]at q;have b6:=bm.o.drop ((bm.o.live x).1 z);have av:=af b6;have dC:((x:Int)==-1)=false:=by first|(simp;done)|(simp;omega)
  have dD:decide ((x:Int)=-1)=false:=by first|(simp;done)|(simp;omega)
  have cO:=af z;obtain⟨bR,U⟩:∃bR,bR=w4.setCell (ag F lf) (.int .i64 (-1)):=⟨_,rfl⟩;obtain⟨w6,X⟩:∃w6,w6=bR.setCell (ag tb 5) (.int .i64 (cnt-1)):=⟨_,rfl⟩;have cJ:Hid (dO w6 lo hi tb fb R (za (aW R.length) YS (dX YS x) P m1) (cnt-1) V):=by
   rw[X,U];have b5:=((S.o.nQ cC.o (by rw[<-bk.o];exact a1) none).BR (cnt-1));refine b5.congr fun k dd=>?_;rw[cG.o,cI.o];exact(MK D.o av.o k dd).symm
  have cE:Hid (ay (fun k=>lo<=k/\k<hi) w w6):=by
   rw[X,U];exact((((ay.refl _ w).below bZ.o).set (a:=(ag F lf)) _ (.inl ⟨ci,cj⟩)).set (a:=(ag tb 5)) _ (.inl ⟨B.1,B.2.1⟩))
  have b3:Hid (w6.ownsRow w3.heap.size 3 1 (.slice (some (ag aA bL)) P.length cw) P.length (P.map fE)):=by
   have bK:ay (fun k=>lo<=k/\k<hi) w4 w6:=by rw[X,U];exact(((ay.refl _ w4).set (a:=(ag F lf)) _ (.inl ⟨ci,cj⟩)).set (a:=(ag tb 5)) _ (.inl ⟨B.1,B.2.1⟩))
   exact aR bl.o bK (fun g e G=>by have:=(bl.o.lt g e).1;have:=G.2;have:=B.2.2.2.2;omega)
  have b1:Hid (w6=(w4.setCell (ag F lf) (.int .i64 (-1))).setCell (ag tb 5) (.int .i64 (cnt-1))):=by rw[X,U];rfl
  clear U X b6 z S bl b2
  go_upto_region 12 with fail
  rw[<-b1.o];clear b1 E cT dB q O bi;go_wp2
  go_loopw [10] (fun bI wr=>∃(m:Nat) (i:Int),bI=.int .i64 i/\i=(m:Int)-1/\m<=m1/\Hid (dO wr lo hi tb fb R (za (aW R.length) YS (dX YS x) P m) (cnt-1) V)/\Hid (ay (fun k=>lo<=k/\k<hi) w6 wr)) (fun bI _=>(intOf bI+1).toNat)
  case atStart=>exact⟨m1,_,rfl,aa,aB _,cJ,af (ay.refl _ _)⟩
  case round=>
   obtain⟨m,i,rfl,dc,dW,t,bj⟩:=hrel;by_cases dS:0<m
   .obtain⟨j,rfl⟩:∃j,m=j+1:=⟨m-1,aa⟩;obtain rfl:i=(j:Int):=aa;clear dc;obtain⟨l,r,s,aU,cf,cd,ce,cq⟩:=Pk D.o av.o (m:=j) aa;have ck:j<P.length:=aa;have dR:(j:Int)<(P.length:Int):=aa;have cy:=aR b3.o bj.o (fun g e G=>by have:=(b3.o.lt g e).1;have:=G.2;have:=B.2.2.2.2;omega);obtain⟨_,_,aC,-,-,ad⟩:=Rd.aD (enc:=fE) cy;injection aC with aC _ _;obtain⟨cQ,dx,bp,c9,ca⟩:=ad.get aa;obtain⟨rfl,rfl⟩:aA=cQ/\bL=dx:=by rw[<-aC]at bp;simpa using bp
    have am:=ca j ck;simp only[fE]at am;obtain⟨c3,dv,cn,env,cx⟩:=t.o.nodes (by have:=u.o;omega);obtain⟨v,cU,br,aY,db,dQ,-,a0,c,-⟩:=t.o.holds (by have:=u.o;omega);obtain⟨-,n0,ak,al,a4,a5,a6,a7⟩:=mX cx aU.get;have a2:=D.o.lt _ (bF ck);have cm:=aU.left.lt;have cp:=aU.right.lt;obtain⟨q,O⟩:=c _ a2;obtain⟨y1,-⟩:=c _ cm;obtain⟨y2,-⟩:=c _ cp;rw[cd]at y1;rw[ce]at y2;have aV:=t.o.blk;rw[env,br]at aV;have bo:wr.cell? (ag tb 3)=some (.slice (some (ag c3 dv)) (aW R.length).length cn):=aF aV;have E:wr.cell? (ag tb 4)=some (az v (aW R.length).length cU):=aF aV;have cb:((FT.node l r).top s).l=((l.root s:Nat):Int):=by show((s+l.size:Nat):Int)-1=_;unfold FT.root;have:=l.size_pos;omega
    have cc:((FT.node l r).top s).r=((r.root (s+l.size):Nat):Int):=by show((s+l.size+r.size:Nat):Int)-1=_;unfold FT.root;have:=r.size_pos;omega
    rw[cb]at ak;rw[cc]at al;have c6:=t.o.FV;have bT:=af (fun W (A:Below wr.heap.size wr W)=>y9 (t.o.Rp.below A) (by have:=u.o;omega) (kV (aW R.length) (dX YS x) (l.root s)) (kV (aW R.length) (dX YS x) (r.root (s+l.size))) (fun i h=>Cg av.o h) (fun i h=>Cg av.o h));have cM:=af cq;have cD:=af br;rw[cf]at n0 ak al a4 a5 a6 a7;rw[<-bk.o]at bo E a2 cm cp;obtain⟨N,bA⟩:∃N,N=P[j]:=⟨_,rfl⟩;have cF:=af bA;rw[<-bA]at am n0 ak al a4 a5 a6 a7 q O a2;clear bA cf cq cd ce aV env br c cx ca cy ad aC bp cb cc aU;generalize lowO R (kV (aW R.length) (dX YS x) (l.root s)) (kV (aW R.length) (dX YS x) (r.root (s+l.size)))=cv at*;generalize kV (aW R.length) (dX YS x) (l.root s)=cP at*;generalize kV (aW R.length) (dX YS x) (r.root (s+l.size))=cR at*;generalize l.root s=kl at*;generalize r.root (s+l.size)=kr at*;generalize(FT.node l r).top s=d at*;obtain⟨f,aP⟩:∃f,f=(wr.alloc (.cells #[.int .u8 d.kind,ae kl,ae kr,ae d.fr,ae d.Kj,ae 0,ae d.item] 163)).drew:=⟨_,rfl⟩;have y:Below wr.heap.size wr f:=by rw[aP];exact((aJ _ _).alloc (aB _) _).drew
    have L:f.heap[wr.heap.size]? =some (.cells #[.int .u8 d.kind,ae kl,ae kr,ae d.fr,ae d.Kj,ae 0,ae d.item] 163 (0,0)):=by rw[aP];exact bV wr _
    have ap:=af y;have cN:=af L;have bX:=af aP;clear aP y L;have bJ:=ah bo;have du:=ah am;have dl:=ah n0;have dm:=ah ak;have dn:=ah al;have dp:=ah a4;have dq:=ah a5;have dr:=ah a6;have ds:=ah a7
    go_upto_region 15 with fail
    refine ax (fun W=>∃p:aS wr,W=p.W) [11] [(0,false),(1,false),(2,false),(3,true),(4,false),(5,false),(6,false),(7,true),(8,false),(9,true)] ⟨⟨_,(aJ _ _).drew⟩,rfl⟩ 2 ?_;refine aH 10 rfl fun K Y=>?_;go_simp;refine Y _ _ (fun _ _=>⟨⟨_,((aJ _ _).drew).alloc (aB _) _⟩,rfl⟩) ?_;clear Y K;refine aI [11] ?_;clear bJ du dl dm dn dp dq dr ds n0 ak al a4 a5 a6 a7 bo
    go_upto_region 16 with fail
    rw[<-bX.o];clear bX;have L:=cN.o;have y:=ap.o;have c8:aA<wr.heap.size:=c9;have ct:f.cell? (ag wr.heap.size 1)=some (ae kl):=aF L;have cu:f.cell? (ag wr.heap.size 2)=some (ae kr):=aF L;have cS:=(y.cell (p:=(ag tb 4)) c6).trans E;have dA:=(y.cell (p:=(ag aA (bL+j))) c8).trans am;have cz:=(y.cell (p:=(ag v kl)) a0).trans y1;have cA:=(y.cell (p:=(ag v kr)) a0).trans y2;have di:=ah ct;have dj:=ah cu;have bJ:=ah cS;have dk:=ah dA;have bK:=ah cz;have dt:=ah cA;clear L y ct cu cz cA y1 y2 E am;refine ax (fun W=>∃p:aS f,W=p.W) [26,27] [(0,false),(1,false),(2,false),(3,true),(4,false),(5,false),(6,false),(7,true),(8,false),(9,false),(10,false),(11,false),(12,true),(13,false),(14,true),(15,false),(16,true),(17,false),(18,false),(19,false),(20,true),(21,false),(22,true),(23,false),(24,true)] ⟨⟨_,(aJ _ _).drew⟩,rfl⟩ 3 ?_;refine aH 25 rfl fun K Y=>?_;refine bf Ct rfl _ _ rfl (vals:=#[aj tb,ae (oq cP),ae (oq cR)]) rfl (bT.o f.drew ap.o.drew) ?_;rintro e be ⟨rfl,b8⟩;have bx:Below f.heap.size f be:=((aJ f.heap.size f).drew).trans b8;refine⟨_,rfl,Y _ _ (fun _ _=>⟨⟨_,bx⟩,rfl⟩) ?_⟩;clear Y K;refine aI [26,27] ?_;have ab:Below wr.heap.size wr be:=ap.o.trans (bx.mono ap.o.size);have d3:=(ab.cell (p:=(ag v N)) a0).trans q;have d4:be.frozen? (ag v N)=false:=by
     have G:=O;simp only[World.frozen?]at G |-;rw[ab.block v a0];exact G
    have C:Hid (∀bh,bh=be.setCell (ag v N) (.int .i64 (oq cv))->dO bh lo hi tb fb R (za (aW R.length) YS (dX YS x) P j) (cnt-1) V/\ay (fun k=>lo<=k/\k<hi) w6 bh):=fun bh cY=>by
     subst cY;refine⟨((t.o.below ab t.o.fA.2.2.2.2).nQ cD.o (by rw[<-bk.o];exact a2) cv).congr fun k _=>?_,(bj.o.below ab).set (a:=(ag v N)) _ (.inl ⟨aY,db⟩)⟩;rw[cF.o];exact(cM.o k).symm
    clear ab bx b8 q O di dj bJ dk bK dt bT;go_wp2;exact⟨⟨j,by first|rfl|omega,aa,(C.o _ rfl).1,(C.o _ rfl).2⟩,by simp[intOf];omega⟩
   .obtain rfl:m=0:=aa;have d9:decide (0<=i)=false:=aG;have bz:=t.o;rw[Pm D.o]at bz;have C:Hid (JN w lo hi tb fb R YS cnt V x (.returned (.bool true)) wr):=.inr ⟨cO.o,rfl,bz,cE.o.trans bj.o⟩;clear bz;go_wp2;go_ret;exact C.o
 .rw[aN z]at q;simp only[oq]at q;have C:Hid (JN w lo hi tb fb R YS cnt V x (.returned (.bool false)) w4):=.inl ⟨z,rfl,bZ.o⟩;clear z;go_wp2;go_ret;exact C.o
theorem JO (a:Option Addr) (c:Nat) (l:List Pt) (w:World) (s:bW dw 3 w a l) (O:l.length<=1000000) (x:Il l):
  aK 102 #[.slice a l.length c] w (gm w (.bool (lF l))):=by
 have B:=af s;have E:=af x;clear s x;have N:=@run_makeMap prog;go_enter func102,ntmps102;go_wp2
 go_loopw [9] (fun k wr=>∃i:Nat,k=.int .i64 i/\i<=l.length/\Below w.heap.size w wr/\Hid (∃(D:DataW Unit),wr.ownsMap prog 27 (plainElem prog 3) w.heap.size i D/\nO D l i)) (fun k _=>l.length-(intOf k).toNat)
 case atStart=>exact⟨0,rfl,aY _,(aJ _ _).alloc (aB _) _,⟨.map [],xU _ _ _ _,[],IsM.empty _ _⟩⟩
 case round=>
  obtain⟨i,rfl,hi,e,HO⟩:=hrel;by_cases g:i<l.length
  .obtain⟨b,off,q,M,f⟩:=(B.o.below e).get aa;have K:=f i g 0 aa;have x1:=f i g 1 aa;have x2:=f i g 2 aa;simp only[dw,fI,dz,dI]at K x1 x2;have G:Hid (keyOf prog 27 (.int .u32 l[i].2.2)=some (.int .u32 l[i].2.2)):=yn underlying27 (E.o _ (bF _));obtain⟨D,t,d⟩:=HO.o;have n:=af (d.put g);have L:=e.size;have m:=af q;clear HO f d q;generalize l[i]=p at*;obtain⟨I,J,H⟩:=p;obtain rfl:=m.o;clear m;have h:=t.kept (qR wr (.cells #[ae I,ae J,au H] 29) none) aA
   go_wp2_with (at_mapUpdate;refine xO _ rfl _ _ _ 26 rfl 27 3 (int_keyed underlying27) underlying26 _ w.heap.size i _ rfl h dJ _ _ _ rfl rfl G.o _ [] (ve underlying3 (by simp[Lit.wf,IntKind.min,IntKind.max,IntKind.bits,IntKind.signed];omega)) ?_;intro w3 u r)
   have y:Below w.heap.size wr w3:=(((aJ _ wr).alloc aa _)).grown r aG (fun j F=>by cases F;omega);have A:Hid (∃(D:DataW Unit),w3.ownsMap prog 27 (plainElem prog 3) w.heap.size (i+1) D/\nO D l (i+1)):=⟨_,u,n.o⟩;have z:=e.trans y;clear u r h t n;go_wp2;go_roundw
   case rel=>exact⟨i+1,by go_num,aa,z,A⟩
   case measure=>exact eO
  .obtain rfl:i=l.length:=aa;obtain⟨D,h,d⟩:=HO.o;have v:=d.size;have C:=af v;clear v d HO
   go_wp2_with (at_len;refine wpList_len_own _ rfl _ 26 rfl 27 3 underlying26 _ w.heap.size _ _ rfl h ?_)
   go_ret;exact⟨by rw[C.o];rfl,e⟩
theorem dO.grow {w:World} {lo hi a tb fb:Nat} {R:List Pt} {h:iI} {cnt:Int} {V:mh} (H:dO w lo hi tb fb R h cnt V) (b:hi<=a) (c:a<=w.heap.size):dO w lo a tb fb R h cnt V:=
 ⟨H.blk,⟨H.fA.1,by have:=H.fA.2.1;omega,H.fA.2.2.1,by have:=H.fA.2.2.2.1;omega,c⟩,H.row,H.xs,H.iH,H.je,H.oo,fun v d g e=>bX (H.top v d g e) b⟩
theorem Pn (n:Nat):Im (fun _=>some 0) n=List.replicate n (.int .i64 0):=by
 unfold Im;refine rG aA fun i a b=>?_;simp[oq]
def KV (w:World) (R:List Pt) (e:Ending) (w':World):Prop:=
 ∃tb fb V,e=.returned (.tuple #[aj tb,ae 0])/\dO w' w.heap.size w'.heap.size tb fb R (kV (aW R.length) (dS R)) R.length V/\Below w.heap.size w w'
structure TH (w:World) (lo fb n:Nat) (rv nv fv:Value) (l:List Pt):Prop where
 row:w.ownsRow lo 29 3 rv n (l.flatMap dw)
 je:w.ownsRow lo 163 7 nv (aW n).length ((aW n).flatMap oN)
 iH:nN w lo fb n fv
 Qp:lo<=fb
theorem TH.kept {S:Nat->Prop} {w w':World} {lo fb n:Nat} {j i g:Value} {l:List Pt} (h:TH w lo fb n j i g l) (K:ay S w w') (hS:∀k,k<w.heap.size->S k->∃cs t fr,w.heap[k]? =some (.cells cs t fr)/\t≠29/\t≠163/\t≠236):TH w' lo fb n j i g l:=by
 refine⟨oZ h.row K fun k f e=>?_,oZ h.je K fun k f e=>?_,⟨bq K h.iH.blk fun e=>?_,oZ h.iH.row K fun k f e=>?_⟩,h.Qp⟩
 .obtain⟨cs,t,fr,a,b,c,d⟩:=hS k f e;exact⟨cs,t,fr,a,b⟩
 .obtain⟨cs,t,fr,a,b,c,d⟩:=hS k f e;exact⟨cs,t,fr,a,c⟩
 .have m:=(aZ.1 h.iH.blk).1;have⟨cs,t,fr,a,b,c,d⟩:=hS fb m e;have:=a.symm.trans h.iH.blk;injection this with this;injection this with _ this _;exact d this
 .obtain⟨cs,t,fr,a,b,c,d⟩:=hS k f e;exact⟨cs,t,fr,a,c⟩
def xx (N:List Nd) (YS:List Nat) (i:Nat):iI:=fun k=>if k<i then kV N YS k else some 0
theorem UU {n:Nat} {t:FT} {s:Nat} (b:FT.At (aW n) t s):t.wf/\t.hi<=n:=by
 have a:=kU b;have⟨w1,w2,w3⟩:=bJ 0 n a;have c:=FT.at_mem (fK a▸b);have:=FT.sw (dP 0 n) 0 w1 _ c;exact⟨FT.qz _ 0 w1 _ c,by simp only at this;omega⟩
theorem ML (a:Option Addr) (c:Nat) (l:List Pt) (w:World) (bo:bW dw 3 w a l) (eg:l.length<=20000) (dk:Il l) (hu:lF l=true):
  aK 38 #[.slice a l.length c] w (KV w (eX l)):=by
 have a6:=JO a c l w bo aa dk;rw[hu]at a6;have es:=af bo;obtain⟨n,bp⟩:∃n,n=l.length:=⟨_,rfl⟩;have cw:=af (fun W (ed:Below w.heap.size w W)=>oQ a l n c W bp.symm (bo.below ed) aa);have cI:=af bp;rw[<-bp]at eg a6 |-;have cx:=af (fun W=>yE n aa W);clear bp bo;have d1:decide ((n:Int)>2147483648)=false:=aG;have d2:decide ((2147483648:Int)<(n:Int))=false:=aG;have d3:decide (2147483648<n)=false:=aG;have c7:(ids l).Nodup:=by unfold lF at hu;simpa using hu
 have bF:=af c7;clear c7 hu dk;go_enter func38,ntmps38
 go_wp2_with (go_at_call 102;refine a6.mono ?_;rintro e w1 ⟨rfl,bk⟩;clear a6)
 go_wp2_with fail
 refine(cx.o w1).mono ?_;rintro e w2 ⟨rfl,bb⟩;have aM:Hid (Below w.heap.size w w2):=by rw[bb];exact bk.alloc bk.size _
 have bC:Hid (w2.heap[w1.heap.size]? =some (lq 0 0 (aL) n)):=by rw[bb];exact bV w1 _
 obtain⟨fb,b2⟩:∃fb,fb=w1.heap.size:=⟨_,rfl⟩;have bm:w.heap.size<=fb/\fb<w2.heap.size:=by rw[bb,b2];exact⟨bk.size,aA⟩
 rw[<-b2]at bC |-;clear bb bk b2 cx
 go_wp2_with fail
 refine(cw.o w2 aM.o).mono ?_;rintro e w3 ⟨eT,rfl,b8,bU⟩;have b1:=(bU.block fb bm.2).trans bC.o;have bx:Hid (Below w.heap.size w w3):=aM.o.trans (bU.mono aM.o.size);have cJ:=af (bI b8 aM.o.size);have cA:=af (gK fb n aa w3 b1);have cE:=af b1;obtain⟨x,u,rfl⟩:=fH b8;clear b8 bU b1 cw bC aM
 go_wp2_with fail
 refine cA.o.mono ?_;rintro e w4 ⟨G,en,rfl,ji,b6,c2,J⟩;have b9:=bx.o.size;have cN:Hid (w4.ownsRow w.heap.size 29 3 (.slice x n u) n (l.flatMap dw)):=Jk cJ.o ai cE.o J;have bE:Hid (nN w4 w.heap.size fb n G):=⟨c2,bI ji b9⟩;have cH:Hid (w4.ownsRow w.heap.size 163 7 en (aW n).length ((aW n).flatMap oN)):=bI b6 b9;have P:Hid (Below w.heap.size w w4):=bx.o.trans (J.toBelow b9 (fun k h=>by have:=bm.1;omega));obtain⟨A,nc,rfl⟩:=fH b6;obtain⟨M,bi⟩:∃M,M=(aW n).length:=⟨_,rfl⟩;have a9:=af bi;have ey:M<=40000:=by rw[bi,dh];omega
 rw[<-bi];clear ji b6 c2 J cA bi cJ cE bx
 go_upto_region 9 with fail
 obtain⟨wc,bh⟩:∃wc,wc=w4.alloc (.cells #[.slice x n u,aL,aj fb,.slice A M nc,aL,ae n] 161):=⟨_,rfl⟩;have bX:Below w4.heap.size w4 wc:=by rw[bh];exact(aJ _ _).alloc (aB _) _
 obtain⟨tb,bs⟩:∃tb,tb=w4.heap.size:=⟨_,rfl⟩;have cV:wc.heap[tb]? =some (MG (.slice x n u) (aL) fb (.slice A M nc) (aL) n):=by rw[bh,bs];exact bV w4 _
 rw[<-bh,<-bs];have aQ:Hid (TH wc w.heap.size fb n (.slice x n u) (.slice A M nc) G l):=by
  have K:ay (fun _=>False) w4 wc:=(ay.refl _ w4).below bX;exact⟨aR cN.o K (fun _ _ h=>h),by rw[<-a9.o];have:=aR cH.o K (fun _ _ h=>h);rwa [<-a9.o]at this,⟨bq K bE.o.blk (fun h=>h),aR bE.o.row K (fun _ _ h=>h)⟩,bm.1⟩
 have aT:=af cV;have bw:Hid (Below w.heap.size w wc):=P.o.trans (bX.mono P.o.size);have eh:w.heap.size<=tb:=by rw[bs];exact P.o.size
 clear bh bX cV cN bE cH P bs;have dg:=(aZ.1 aT.o).1;have cB:=af (yK cI.o.symm aa aQ.o.row bF.o);have cW:=aT.o;have bN:wc.cell? (ag tb 0)=some (.slice x n u):=aF cW;clear cW
 go_wp2_with fail
 refine cB.o.mono ?_;rintro e w4 ⟨rfl,db,J⟩;have cT:TH w4 w.heap.size fb n (.slice x n u) (.slice A M nc) G (eX l):=by
  have h:=aQ.o;refine⟨db,oZ h.je J fun k aw y=>?_,⟨bq J h.iH.blk fun y=>?_,oZ h.iH.row J fun k aw y=>?_⟩,h.Qp⟩
  .obtain⟨cs,fr,e⟩:=Cr h.row y;exact⟨cs,_,fr,e,ai⟩
  .exact bn h.row h.iH.blk ai fb y rfl
  .obtain⟨cs,fr,e⟩:=Cr h.row y;exact⟨cs,_,fr,e,ai⟩
 have aU:Hid (w4.heap[tb]? =some (MG (.slice x n u) (aL) fb (.slice A M nc) (aL) n)):=bq J aT.o (fun h=>bn aQ.o.row aT.o ai tb h rfl);have P:Hid (Below w.heap.size w w4):=bw.o.trans (J.toBelow bw.o.size (fun k h=>(aQ.o.row.lt k h).1));have bG:=af cT;have X:(eX l).length=n:=by rw[(dQ l).length_eq];exact cI.o.symm
 have cU:(ids (eX l)).Nodup:=((dQ l).map _).nodup_iff.2 bF.o;have cM:Hid ((eX l).Pairwise kG/\(ids (eX l)).Nodup):=⟨fT bF.o,cU⟩;clear db J cT aQ aT bw cB cU bN dg;generalize d9:eX l=R at*;clear d9;have dg:=(aZ.1 aU.o).1;have dj:=aU.o;have bN:w4.cell? (ag tb 0)=some (.slice x n u):=aF dj;clear dj
 go_wp2_with fail
 go_loopg [44] n (fun em ep wr=>∃(i:Nat) (cu:Value),ep=.int .i64 i/\i<=n/\n-i<=em/\Hid (wr.heap[tb]? =some (MG (.slice x n u) cu fb (.slice A M nc) (aL) n))/\Hid (wr.ownsRow w4.heap.size 2 1 cu i (((bT R).take i).map (Value.int .i64)))/\Hid (ay (fun k=>k=tb) w4 wr))
 case atStart=>exact⟨0,_,rfl,aY _,aa,aU,dA _ _ _ _,ay.refl _ _⟩
 case round=>
  obtain⟨i,cu,rfl,hi,eJ,ab,ar,Y⟩:=hrel;by_cases eG:i<n
  .have de:=aR bG.o.row Y.o (fun g h y=>bn bG.o.row aU.o ai g h y.symm);obtain⟨_,_,d0,-,-,dc⟩:=bW.aD bg ai de;injection d0 with dW dX dY;subst dW;clear dX dY;obtain⟨b,off,dZ,ez,ap⟩:=dc.get aa;have ct:=ap i aa 0 aa;have x1:=ap i aa 1 aa;have x2:=ap i aa 2 aa;simp only[dw,fI,dz,dI]at ct x1 x2;have dm:(bT R).take (i+1)=(bT R).take i++[R[i].1]:=by
    have h:i<(bT R).length:=by unfold bT;simp;omega
    rw[ik h];simp[bT]
   have cQ:=af dm;subst dZ;clear ap dc dm de;generalize R[i]=p at*;obtain⟨a5,dv,du⟩:=p;simp only at cQ ct x1 x2;have cd:=ab.o;have bt:=(aZ.1 cd).1;obtain⟨E,F,rfl⟩:=fH ar.o
   go_upto_region 13 with fail
   obtain⟨w6,bc⟩:∃w6,w6=wr.alloc (.cells #[ae a5,ae dv,au du] 29):=⟨_,rfl⟩;have a2:Below wr.heap.size wr w6:=by rw[bc];exact(aJ _ _).alloc (aB _) _
   have dl:w6.heap[wr.heap.size]? =some (.cells #[ae a5,ae dv,au du] 29 (0,0)):=by rw[bc];exact bV wr _
   have cb:=(a2.block tb bt).trans cd;have eL:=Y.o.size;have eM:=a2.size;have ce:∀g,(Value.slice E i F).ownBlock=some g->w4.heap.size<=g/\g<wr.heap.size:=fun g h=>ar.o.lt g h;have d7:=ah (w:=w6) (ad:=(ag tb 1)) (v:=.slice E i F) (aF cb);have d8:=ah (w:=w6) (ad:=(ag wr.heap.size 0)) (v:=.int .i64 a5) (aF dl);have cP:=af (ak ar.o a2);have cF:Hid (ay (fun k=>k=tb) w4 w6):=Y.o.below a2;have cO:=af cb;rw[<-bc];clear bc a2 dl cb cd ct x1 x2;refine ax (fun W=>∃p:aS w6,W=p.W) [8,9,10,11] [(0,false),(1,false),(2,false),(3,false),(4,true),(5,false),(6,true)] ⟨⟨_,(aJ _ _).drew⟩,rfl⟩ 5 ?_;refine aH 7 rfl fun K U=>?_;go_simp;refine U _ _ (fun _ _=>⟨⟨_,((aJ _ w6).alloc (aB _) _).drew⟩,rfl⟩) ?_;clear U K;refine aH 8 rfl fun K U=>?_;refine bD zV w4.heap.size (w:=(w6.alloc (.cells #[ae a5] 2)).drew) (ak cP.o ((aJ _ w6).alloc (aB _) _|>.drew)) [.int .i64 a5] rfl (by simp[Value.oneCell']) rfl (.tmp 52) (.tmp 55) rfl rfl w6.heap.size rfl (kY _ _) dJ aa aG ?_;intro am al f b7 c4 eA eK;have c3:w6.grownBy f (Value.slice E i F).ownBlock:=dR (bM ((aJ _ w6).alloc (aB _) _|>.drew)) c4;have bJ:ay (fun k=>(Value.slice E i F).ownBlock=some k) w6 f:=(ay.refl _ w6).grown c3 (fun k aC=>.inl aC);refine U _ _ (fun _ h=>absurd aA h) ?_;clear U K;refine aI [9,10,11] ?_;have br:=bq bJ cO.o (fun h=>by have:=(ce tb h).1;omega);have eS:f.cell? (ag tb 1)=some (.slice E i F):=aF br;have f8:f.frozen? (ag tb 1)=false:=aF br;have dK:Hid ((f.setCell (ag tb 1) (az am (i+1) al)).heap[tb]? =some (MG (.slice (some (ag b off)) n u) (az am (i+1) al) fb (.slice A M nc) (aL) n)):=di f tb 1 _ _ _ br;have cR:ay (fun k=>k=tb) f (f.setCell (ag tb 1) (az am (i+1) al)):=(ay.refl (fun k=>k=tb) f).set (a:=(ag tb 1)) (az am (i+1) al) (.inl rfl);have dM:Hid ((f.setCell (ag tb 1) (az am (i+1) al)).ownsRow w4.heap.size 2 1 (az am (i+1) al) (i+1) (((bT R).take (i+1)).map (Value.int .i64))):=by
    have z:=aR (S:=fun k=>k=tb) b7 cR (fun g h y=>by have:=(b7.lt g h).1;omega);show World.ownsRow _ _ _ _ _ _ _;rw[cQ.o,bL];exact z
   have dH:Hid (ay (fun k=>k=tb) w4 (f.setCell (ag tb 1) (az am (i+1) al))):=((cF.o.mono (S':=fun k=>k=tb\/w4.heap.size<=k) (fun k h=>.inl h)).trans (bJ.mono (fun k h=>.inr (ce k h).1))).strip.set (a:=(ag tb 1)) _ (.inl rfl);clear bJ c3 c4 b7 br d7 d8 cP cO cF ce ar ab Y cR;go_wp2
   go_roundg (n-(i+1))
   case measure=>omega
   case rel=>exact⟨i+1,_,by go_num,aa,aB _,dK,dM,dH⟩
  .obtain rfl:i=n:=aa;have cK:Hid (TH wr w.heap.size fb i (.slice x i u) (.slice A M nc) G R):=bG.o.kept Y.o (fun k aw y=>by subst y;exact⟨_,_,_,aU.o,ai,ai,ai⟩);have bz:Hid (Below w.heap.size w wr):=P.o.trans (Y.o.toBelow P.o.size (fun k h=>aa));have bj:=ar.o;rw[jK (by unfold bT;simp;omega)]at bj;have bH:=af (bI bj P.o.size);have a4:=ab.o;have dV:wr.cell? (ag tb 3)=some (.slice A M nc):=aF a4;have ac:wr.cell? (ag tb 4)=some (aL):=aF a4;have f4:wr.frozen? (ag tb 4)=false:=aF a4;have bt:=(aZ.1 a4).1;obtain⟨E,F,rfl⟩:=fH bj;have ef:=KS M aa;clear bj a4 ar Y bN
   go_upto_region 16 with fail
   obtain⟨m,c5⟩:∃m,m=wr.heap.size:=⟨_,rfl⟩;obtain⟨B,a1⟩:∃B,B=(wr.setCell (ag tb 4) (az wr.heap.size M M)).alloc (Obj.cells (madeCells #[ae 0] M) 3):=⟨_,rfl⟩;have ba:ay (fun k=>k=tb) wr B:=by rw[a1];exact((ay.refl (fun k=>k=tb) wr).set (a:=(ag tb 4)) _ (.inl rfl)).alloc _
   have ca:(wr.setCell (ag tb 4) (az wr.heap.size M M)).heap.size=wr.heap.size:=aA;have b4:B.heap[wr.heap.size]? =some (.cells (List.replicate M (ae 0)).toArray 3 (0,0)):=by
    have z:=Cq (wr.setCell (ag tb 4) (az wr.heap.size M M)) M;rw[ca]at z;rw[a1];exact z
   have eN:wr.heap.size<B.heap.size:=(aZ.1 b4).1;have cc:B.heap[tb]? =some (MG (.slice x i u) (.slice E i F) fb (.slice A M nc) (az wr.heap.size M M) i):=by
    rw[a1];exact(bR _ _ tb (by rw[ca];exact bt)).trans (di wr tb 4 _ _ _ ab.o)
   have V:TH B w.heap.size fb i (.slice x i u) (.slice A M nc) G R:=cK.o.kept ba (fun k aw y=>by subst y;exact⟨_,_,_,ab.o,ai,ai,ai⟩);have bQ:=aR bH.o ba (fun g h y=>bn bH.o ab.o ai g h y.symm);have df:=bz.o.size;have bP:=DZ (w:=B) (base:=w.heap.size) (n:=M) (xs:=List.replicate M (ae 0)) b4 df aA dJ;have cG:Hid (dO B w.heap.size B.heap.size tb fb R (fun _=>some 0) i ⟨.slice x i u,.slice E i F,.slice A M nc,az wr.heap.size M M,G⟩):=by
    refine⟨cc,⟨eh,aa,bm.1,(aZ.1 V.iH.blk).1,aB _⟩,by rw[X];exact V.row,by rw[X];exact bQ,by rw[X];exact V.iH,by rw[X];exact V.je,?_,?_⟩
    .rw[X,<-a9.o,Pn];exact bP
    .rintro v (rfl|rfl|rfl|rfl|rfl) g e
     .exact(V.row.lt g e).2
     .exact(bQ.lt g e).2
     .exact(V.je.lt g e).2
     .exact(bP.lt g e).2
     .exact(V.iH.row.lt g e).2
   have dF:Hid (Below w.heap.size w B):=bz.o.trans (ba.toBelow df (fun k h=>aa));have aV:=af (qD cM.o.1 cM.o.2);rw[<-a1];have et:B.cell? (ag tb 3)=some (.slice A M nc):=aF cc;have I:Hid (M=(aW R.length).length):=by show _=_;rw[X];exact a9.o
   have ea:R.length<=20000:=aa;have dN:Hid (∀a,a<R.length->a∈dS R):=fun a ec=>(aV.o.live a).2 (by rw[rz,aO ec]);rw[<-c5]at cG;clear a1 c5 ba ca b4 cc V bQ bP cK bH ab bz dV ac f4 ef bt;generalize cX:dS R=YS at*;have dP:=af cX;have cL:=af X;clear cX X;go_wp2
   go_loopw [74] (fun cf wr=>∃j:Nat,cf=.int .i64 j/\j<=M/\Hid (dO wr w.heap.size B.heap.size tb fb R (xx (aW R.length) YS j) i ⟨.slice x i u,.slice E i F,.slice A M nc,az m M M,G⟩)/\Hid (Below w.heap.size w wr)) (fun cf _=>M-(intOf cf).toNat)
   case atStart=>exact⟨0,rfl,aY _,cG,dF⟩
   case round=>
    obtain⟨j,rfl,eH,N,a8⟩:=hrel;by_cases a3:j<M
    .have eI:(j:Int)<(M:Int):=aa;obtain⟨t,s,bS,b0⟩:=tO (show j<(aW R.length).length by rw[<-I.o];exact a3);obtain⟨bO,cp,cn,env,dx⟩:=N.o.nodes (by have:=dh R.length;rw[<-I.o]at this;omega);simp only at env;injection env with env aX a0;clear aX a0;obtain⟨ew,eu,Q,eC,eD,eE,-,c6,ap,-⟩:=N.o.holds (by have:=dh R.length;rw[<-I.o]at this;omega);simp only at Q;injection Q with Q aX a0;injection Q with Q;injection Q with Q d4 d5;subst Q;clear aX a0;obtain⟨-,n0,ci,cj,ck,cl,dn,cm⟩:=mX dx bS.get;have bZ:=N.o.blk;simp only at bZ;have ac:wr.cell? (ag tb 4)=some (az m M M):=aF bZ;obtain⟨dy,dC⟩:=ap j (by rw[<-I.o];exact a3);have eb:=N.o.FV;rw[b0]at n0 ci cj ck cl dn cm;subst env;obtain⟨d,hd⟩:∃d,d=t.top s:=⟨_,rfl⟩;rw[<-hd]at n0 ci cj ck cl cm;obtain⟨f,bd⟩:∃f,f=wr.alloc (.cells #[.int .u8 d.kind,ae d.l,ae d.r,ae d.fr,ae d.Kj,ae 0,ae d.item] 163):=⟨_,rfl⟩;have an:Below wr.heap.size wr f:=by rw[bd];exact(aJ _ _).alloc (aB _) _
     have O:f.heap[wr.heap.size]? =some (.cells #[.int .u8 d.kind,ae d.l,ae d.r,ae d.fr,ae d.Kj,ae 0,ae d.item] 163 (0,0)):=by rw[bd];exact bV wr _
     have a7:=af an;have dL:=af O;have cC:=af bd;have aE:=af bS;have bA:=af b0;have aP:=af hd;clear bd an O bZ ap dx bS b0 hd
     go_upto_region 19 with fail
     rw[<-cC.o];clear cC n0 ci cj ck cl dn cm;have O:=dL.o;have an:=a7.o;have co:wr.heap.size<f.heap.size:=(aZ.1 O).1;have dq:f.cell? (ag wr.heap.size 0)=some (.int .u8 d.kind):=aF O;have dr:f.cell? (ag wr.heap.size 1)=some (ae d.l):=aF O;have ds:f.cell? (ag wr.heap.size 2)=some (ae d.r):=aF O;have dt:f.cell? (ag wr.heap.size 3)=some (ae d.fr):=aF O;have cS:=(an.cell (p:=(ag tb 4)) eb).trans ac;have dB:=(an.cell (p:=(ag m j)) c6).trans dy;have dD:f.frozen? (ag m j)=false:=by
      have z:=dC;simp only[World.frozen?]at z |-;rw[an.block m c6];exact z
     have cg:=ah dt;have ch:=ah cS;clear O an ac dy dC;have b5:m≠wr.heap.size:=aa;have eB:m<f.heap.size:=aa;refine ax (fun W=>∃p:aS f,W=p.W) [7,8] [(0,false),(1,false),(2,false),(3,true),(4,false),(5,false),(6,true)] ⟨⟨_,(aJ _ _).drew⟩,rfl⟩ 2 ?_;refine aI [7,8] ?_;have eq:f.drew.cell? (ag m j)=_:=dB;have er:f.drew.frozen? (ag m j)=false:=dD;obtain⟨H,be⟩:∃H,H=(f.setCell (ag m j) (.int .i64 d.fr)).drew:=⟨_,rfl⟩;have av:ay (fun k=>k=m) f H:=by rw[be];exact((ay.refl (fun k=>k=m) f).set (a:=(ag m j)) _ (.inl rfl)).drew
     obtain⟨ei,eF⟩:=UU aE.o;obtain⟨f0,c1,ee⟩:∃f0:Nat,d.fr=(f0:Int)/\f0=t.lo:=by rw[aP.o];cases t<;>exact⟨_,rfl,rfl⟩
     have Z:Hid (dO H w.heap.size B.heap.size tb fb R (gB (xx (aW R.length) YS j) j (some f0)) i ⟨.slice x i u,.slice E i F,.slice (some (ag bO cp)) M nc,az m M M,G⟩):=by
      rw[be,c1];exact((N.o.below a7.o N.o.fA.2.2.2.2).nQ rfl (by rw[<-I.o];exact a3) (some f0)).below (aJ _ _).drew (by have:=N.o.fA.2.2.2.2;have:=a7.o.size;simp;omega)
     have L:Hid (Below w.heap.size w H):=(a8.o.trans (a7.o.mono a8.o.size)).trans (av.toBelow (by have:=a8.o.size;omega) (fun k h=>aa));have eo:=((cz av co (fun h=>b5 h.symm)).1 0).trans dq;have cq:=((cz av co (fun h=>b5 h.symm)).1 1).trans dr;have cr:=((cz av co (fun h=>b5 h.symm)).1 2).trans ds;have eP:=av.size;have cD:=af be;clear be cg ch av dq dr ds dt c1
     go_upto_region 20 with fail
     rw[<-cD.o];clear cD eq er dB dD cS;cases t with
     |leaf bK=>
      have aC:(d.kind==(2:Int))=false:=by rw[aP.o];rfl
      have aq:Hid (dO H w.heap.size B.heap.size tb fb R (xx (aW R.length) YS (j+1)) i ⟨.slice x i u,.slice E i F,.slice (some (ag bO cp)) M nc,az m M M,G⟩):=by
       refine Z.o.congr fun k aC=>?_;unfold xx;by_cases e:k=j
       .subst e;have aw:=Ch aV.o aE.o;rw[aO (dN.o bK (by have:(FT.leaf bK).hi=bK+1:=rfl;omega))]at aw;have y:s=k:=by have:=bA.o;unfold FT.root at this;simpa[FT.size]using this
        rw[fZ,aO aa,<-y,aw,ee];rfl
       .rw[iw e];by_cases z:k<j
        .rw[aO z,aO aa]
        .rw[aN z,aN aa]
      go_wp2;go_roundw
      case rel=>first|exact⟨j+1,by go_num,aa,aq,L⟩|(refine⟨_,?_,rfl⟩;exact⟨j+1,by go_num,aa,aq,L⟩)|(refine⟨_,_,?_,rfl,rfl⟩;exact⟨j+1,by go_num,aa,aq,L⟩)|(refine⟨_,_,_,?_,rfl,rfl,rfl⟩;exact⟨j+1,by go_num,aa,aq,L⟩)|(refine⟨_,_,_,_,?_,rfl,rfl,rfl,rfl⟩;exact⟨j+1,by go_num,aa,aq,L⟩)|(refine⟨_,_,_,_,_,?_,rfl,rfl,rfl,rfl,rfl⟩;exact⟨j+1,by go_num,aa,aq,L⟩)
      case measure=>exact eO
     |node q D=>
      have aC:(d.kind==(2:Int))=true:=by rw[aP.o];rfl
      have c9:=aE.o.left.lt;have dd:=aE.o.right.lt;have da:q.root s<j/\D.root (s+q.size)<j:=by
       rw[<-bA.o];have:=q.size_pos;have:=D.size_pos;have eQ:(FT.node q D).size=q.size+D.size+1:=rfl;unfold FT.root;omega
      have cZ:d.l=((q.root s:Nat):Int):=by rw[aP.o];show((s+q.size:Nat):Int)-1=_;unfold FT.root;have:=q.size_pos;omega
      have c0:d.r=((D.root (s+q.size):Nat):Int):=by rw[aP.o];show((s+q.size+D.size:Nat):Int)-1=_;unfold FT.root;have:=D.size_pos;omega
      rw[cZ]at cq;rw[c0]at cr;obtain⟨ex,ev,T,-,-,-,-,c8,bl,-⟩:=Z.o.holds (by have:=dh R.length;rw[<-I.o]at this;omega);simp only at T;injection T with T aX a0;injection T with T;injection T with T d4 d5;subst T;clear aX a0;obtain⟨y1,-⟩:=bl _ c9;obtain⟨y2,-⟩:=bl _ dd;obtain⟨cv,dE⟩:=bl j (by rw[<-I.o];exact a3);rw[show gB (xx (aW R.length) YS j) j (some f0) (q.root s)=kV (aW R.length) YS (q.root s) by rw[iw aa];exact aO da.1]at y1;rw[show gB (xx (aW R.length) YS j) j (some f0) (D.root (s+q.size))=kV (aW R.length) YS (D.root (s+q.size)) by rw[iw aa];exact aO da.2]at y2;rw[fZ]at cv;have bY:=Z.o.blk;simp only at bY;have ac:H.cell? (ag tb 4)=some (az m M M):=aF bY;have cy:=af (y9 (Z.o.Rp.below (aJ _ _).drew) ea (kV (aW R.length) YS (q.root s)) (kV (aW R.length) YS (D.root (s+q.size))) (fun i h=>Cg aV.o h) (fun i h=>Cg aV.o h));have dG:Hid (kV (aW R.length) YS j=lowO R (kV (aW R.length) YS (q.root s)) (kV (aW R.length) YS (D.root (s+q.size)))):=by
       show _=_;rw[<-G6 aV.o aE.o ei,bA.o]
      rw[<-I.o]at c9 dd;have eR:=Z.o.FV;clear bY bl cZ c0;generalize lowO R (kV (aW R.length) YS (q.root s)) (kV (aW R.length) YS (D.root (s+q.size)))=dp at*;generalize kV (aW R.length) YS (q.root s)=dT at*;generalize kV (aW R.length) YS (D.root (s+q.size))=dU at*;generalize q.root s=kl at*;generalize D.root (s+q.size)=kr at*;have ej:=ah cq;have ek:=ah cr;have cg:=ah ac;have ch:=ah y1;have el:=ah y2
      go_upto_region 21 with fail
      refine ax (fun W=>∃p:aS H,W=p.W) [23,24] [(0,false),(1,false),(2,false),(3,true),(4,false),(5,false),(6,false),(7,false),(8,false),(9,true),(10,false),(11,true),(12,false),(13,true),(14,false),(15,false),(16,false),(17,true),(18,false),(19,true),(20,false),(21,true)] ⟨⟨_,(aJ _ _).drew⟩,rfl⟩ 3 ?_;refine aH 22 rfl fun K U=>?_;refine bf Ct rfl _ _ rfl (vals:=#[aj tb,ae (oq dT),ae (oq dU)]) rfl cy.o ?_;rintro e bu ⟨rfl,cY⟩;have ao:Below H.heap.size H bu:=((aJ H.heap.size H).drew).trans cY;refine⟨_,rfl,U _ _ (fun _ _=>⟨⟨_,ao⟩,rfl⟩) ?_⟩;clear U K;refine aI [23,24] ?_;have eU:=(ao.cell (p:=(ag m j)) c8).trans cv;have eV:bu.frozen? (ag m j)=false:=by
       have z:=dE;simp only[World.frozen?]at z |-;rw[ao.block m c8];exact z
      have C:Hid (∀bv,bv=bu.setCell (ag m j) (.int .i64 (oq dp))->Hid (dO bv w.heap.size B.heap.size tb fb R (xx (aW R.length) YS (j+1)) i ⟨.slice x i u,.slice E i F,.slice (some (ag bO cp)) M nc,az m M M,G⟩)/\Hid (Below w.heap.size w bv)):=fun bv d6=>by
       subst d6;refine⟨((Z.o.below ao Z.o.fA.2.2.2.2).nQ rfl (by rw[<-I.o];exact a3) dp).congr fun k _=>?_,?_⟩
       .unfold xx;by_cases e:k=j
        .subst e;rw[fZ,aO aa,dG.o]
        .rw[iw e,iw e];by_cases z:k<j
         .rw[aO z,aO aa]
         .rw[aN z,aN aa]
       .exact(L.o.trans (ao.mono L.o.size)).trans (((ay.refl (fun k=>k=m) bu).set (a:=(ag m j)) _ (.inl rfl)).toBelow (bB L.o.size ao.size) (fun k h=>aa))
      clear ao cY cv dE y1 y2 ac eo cq cr ej ek cg ch el cy;go_wp2;go_roundw
      case rel=>first|exact⟨j+1,by go_num,aa,(C.o _ rfl).1,(C.o _ rfl).2⟩|(refine⟨_,?_,rfl⟩;exact⟨j+1,by go_num,aa,(C.o _ rfl).1,(C.o _ rfl).2⟩)|(refine⟨_,_,?_,rfl,rfl⟩;exact⟨j+1,by go_num,aa,(C.o _ rfl).1,(C.o _ rfl).2⟩)|(refine⟨_,_,_,?_,rfl,rfl,rfl⟩;exact⟨j+1,by go_num,aa,(C.o _ rfl).1,(C.o _ rfl).2⟩)|(refine⟨_,_,_,_,?_,rfl,rfl,rfl,rfl⟩;exact⟨j+1,by go_num,aa,(C.o _ rfl).1,(C.o _ rfl).2⟩)|(refine⟨_,_,_,_,_,?_,rfl,rfl,rfl,rfl,rfl⟩;exact⟨j+1,by go_num,aa,(C.o _ rfl).1,(C.o _ rfl).2⟩)
      case measure=>exact eO
    .obtain rfl:j=M:=aa;have b3:dO wr w.heap.size wr.heap.size tb fb R (kV (aW R.length) YS) i ⟨.slice x i u,.slice E i F,.slice A j nc,az m j j,G⟩:=
      (N.o.congr fun k aC=>by unfold xx;rw[aO (by rw[I.o];exact aC)]).grow N.o.fA.2.2.2.2 (aB _)
     have C:Hid (KV w R (.returned (.tuple #[aj tb,ae 0])) wr):=by
      refine⟨tb,fb,⟨.slice x i u,.slice E i F,.slice A j nc,az m j j,G⟩,rfl,?_,a8.o⟩;rw[dP.o,cL.o];rw[cL.o]at b3;exact b3
     clear b3;go_wp2;go_ret2;exact C.o
end
section
open Go.RowKit Go.Sort Go.Shelf Go.Lib Go.Maps
def uC (w:World) (lo hi tb n0:Nat) (l:List Pt):Prop:=
 ∃fb R gone YS V,dO w lo hi tb fb R (kV (aW R.length) YS) l.length V/\cB R gone YS/\sD R YS l/\R.length=n0/\n0<=20000
def uD (n:Nat):Nat:=6*Lib.bitLen n+1
theorem MM {R:List Pt} (h:R.length<=100000) (x1 x2:Int):(ou R x1 x2).2<=uD R.length:=by
 unfold ou uD;by_cases b:R.length=0\/x2<x1
 .rw[aO b];exact aY _
 .rw[aN b];have e:0<R.length:=aa;have f:(bT R).length=R.length:=by simp[bT]
  have c:=kS (bT R) x1 aa;have d:=kT (bT R) x2 aa;rw[f]at c d;by_cases a:ji R x1<l7 R x2
  .rw[aO a];have⟨w1,w2,w3⟩:=bJ 0 R.length e;have i:=(bC R.length aa aa).2.2;have j:=vE 0 R.length (Lib.bitLen R.length) aa;have g:=FT.Bg (dP 0 R.length) w1 0 (ji R x1) (l7 R x2);simp only;omega
  .rw[aN a];simp only;omega
section
variable {w w':World} {lo hi tb n0:Nat} {l:List Pt}
theorem uC.kept {S:Nat->Prop} (h:uC w lo hi tb n0 l) (K:ay S w w') (hS:∀k,lo<=k->k<hi->¬S k):uC w' lo hi tb n0 l:=by
 have⟨fb,R,gone,YS,V,a,b⟩:=h;exact⟨fb,R,gone,YS,V,a.kept K hS,b⟩
theorem uC.Fx (h:uC w lo hi tb n0 l):l.length<=n0/\n0<=20000:=by
 have⟨fb,R,gone,YS,V,c,a,b,d,e⟩:=h;have:=a.QN;have:=b.len a;omega
theorem MN {R:List Pt} {gone:List Bool} {YS:List Nat} (a:cB R gone YS) (c:sD R YS l) (x1 x2:Int):(sK R (aW R.length) YS (ou R x1 x2).1).map (bS R)=(NA l x1 x2).head?:=by
 have d:∀h:(NA l x1 x2)=[],(sK R (aW R.length) YS []).map (bS R)=(NA l x1 x2).head?:=fun h=>by rw[h];rfl
 unfold ou;by_cases h0:R.length=0\/x2<x1
 .rw[aO h0];refine d ?_;rcases h0 with h0|h0
  .have b:=a.QN;have f:=c.len a;have g:=Ri l x1 x2;exact gV aa
  .exact OZ l h0
 .rw[aN h0];have e:=Rj a c x1 x2;by_cases b:ji R x1<l7 R x2
  .rw[aO b];simp only;rw[JB a aa,<-e,List.head?_map]
  .rw[aN b];refine d ?_;rw[<-e];have:TC YS (ji R x1) (l7 R x2)=[]:=uG.2 fun i _=>aG;rw[this];rfl
theorem TI (a:Option Addr) (c:Nat) (l:List Pt) (w:World) (k:bW dw 3 w a l) (m:l.length<=20000) (o:Il l) (hu:lF l=true):
  aK 38 #[.slice a l.length c] w fun e w'=>∃tb,e=.returned (.tuple #[aj tb,ae 0])/\uC w' w.heap.size w'.heap.size tb l.length l/\Below w.heap.size w w':=
 (ML a c l w k m o hu).mono fun e w' ⟨tb,fb,V,j,d,h⟩=>by
  have b:(ids l).Nodup:=by unfold lF at hu;simpa using hu
  have n:=fT b;have hid:(ids (eX l)).Nodup:=((dQ l).map _).nodup_iff.2 b;have g:=qD n hid;have f:(eX l).length=l.length:=(dQ l).length_eq;rw[show((eX l).length:Int)=(l.length:Int) by rw[f]]at d;refine⟨tb,j,⟨fb,_,_,_,V,d,g,zy b _ (fun i=>?_),f,aa⟩,h⟩;rw[g.live,rz];split<;>simp_all
theorem Ru (h:uC w lo hi tb n0 l) (x1 x2:Int):
  aK 42 #[aj tb,ae x1,ae x2] w fun e w'=>(∃p:Pt,p=(NA l x1 x2).head?.getD (0,0,0)/\∃c:Nat,e=.returned (.tuple #[iZ p.1 p.2.1 p.2.2,.bool (NA l x1 x2).head?.isSome,ae c])/\c<=uD n0)/\Below w.heap.size w w':=by
 have⟨fb,R,gone,YS,V,d,a,f,g,k⟩:=h;refine(JM d a aa x1 x2).mono ?_;rintro e w' ⟨⟨p,hp,j⟩,i⟩;have b:=MN a f x1 x2;refine⟨⟨p,by rw[hp,b],(ou R x1 x2).2,?_,by rw[<-g];exact MM aa x1 x2⟩,i⟩;rw[<-b,Option.isSome_map];exact j
end
end
end Go.Proofs.YtkjdbndekceffaaGreat
