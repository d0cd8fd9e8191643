/- Made small by a program. -/
import Derived.Test.YtkjdbndekceffaaGreatX12
set_option linter.unusedSimpArgs false
set_option linter.unusedVariables false
set_option maxRecDepth 100000
set_option maxHeartbeats 16000000
namespace Go.Proofs.YtkjdbndekceffaaGreat
open Tryz
section
open Go.RowKit Go.Sort Go.Shelf Go.Lib Go.Maps
attribute [local irreducible] wpQuiet
abbrev MQ (rv xv:Value) (fb:Nat) (nv hv:Value) (n:Int):Obj:=.cells #[rv,xv,aj fb,nv,hv,ae n] 161 (0,0)
structure dM (w:World) (lo hi tb fb:Nat) (R:List Pt) (h:iI) (cnt:Int) (V:mq):Prop where
 blk:w.heap[tb]? =some (MQ V.rv V.xv fb V.nv V.hv cnt)
 fC:lo<=tb/\tb<hi/\lo<=fb/\fb<hi/\hi<=w.heap.size
 row:w.ownsRow lo 29 3 V.rv R.length (R.flatMap dw)
 xs:w.ownsRow lo 2 1 V.xv R.length ((bV R).map (Value.int .i64))
 iH:nL w lo fb R.length V.fv
 jg:w.ownsRow lo 163 7 V.nv (aX R.length).length ((aX R.length).flatMap oM)
 oo:w.ownsRow lo 3 1 V.hv (aX R.length).length (IB h (aX R.length).length)
 top:∀v,v=V.rv\/v=V.xv\/v=V.nv\/v=V.hv\/v=V.fv->∀g,v.ownBlock=some g->g<hi
section
variable {w w':World} {lo hi tb fb:Nat} {R:List Pt} {h:iI} {cnt:Int} {V:mq}
theorem dM.congr {h':iI} (H:dM w lo hi tb fb R h cnt V) (e:∀k,k<(aX R.length).length->h' k=h k):dM w lo hi tb fb R h' cnt V:=
 ⟨H.blk,H.fC,H.row,H.xs,H.iH,H.jg,by rw[MH e];exact H.oo,H.top⟩
theorem dM.kept {S:Nat->Prop} (H:dM w lo hi tb fb R h cnt V) (K:ax S w w') (hS:∀k,lo<=k->k<hi->¬S k):dM w' lo hi tb fb R h cnt V:=by
 have ht:=H.top;have a:∀{e:TypeId} {sz:Nat} {v:Value} {n:Nat} {xs:List Value},w.ownsRow lo e sz v n xs->(∀g,v.ownBlock=some g->g<hi)->w'.ownsRow lo e sz v n xs:=fun a b=>aR a K fun g e=>hS g (a.lt g e).1 (b g e);exact⟨bq K H.blk (hS tb H.fC.1 H.fC.2.1),⟨H.fC.1,H.fC.2.1,H.fC.2.2.1,H.fC.2.2.2.1,bA H.fC.2.2.2.2 K.size⟩,
  a H.row (ht _ ay),a H.xs (ht _ ay),
  ⟨bq K H.iH.blk (hS fb H.fC.2.2.1 H.fC.2.2.2.1),a H.iH.row (ht _ ay)⟩,a H.jg (ht _ ay),a H.oo (ht _ ay),H.top⟩
theorem dM.below {B:Nat} (H:dM w lo hi tb fb R h cnt V) (a:Below B w w') (e:hi<=B):dM w' lo hi tb fb R h cnt V:=
 H.kept (S:=fun k=>hi<=k) ⟨a.os,a.tape,a.output,a.size,fun k f g=>a.block k aa⟩ fun k b c d=>aa
theorem dM.FY (H:dM w lo hi tb fb R h cnt V):tb<w.heap.size:=bX H.fC.2.1 H.fC.2.2.2.2
theorem dM.nodes (H:dM w lo hi tb fb R h cnt V) (l:0<R.length):∃g off c,V.nv=.slice (some (af g off)) (aX R.length).length c/\bY oM 7 w (some (af g off)) (aX R.length):=by
 have m:=dh R.length;have⟨g,c,e,_⟩:=aV H.jg aa;obtain⟨a,i,b,-,-,d⟩:=bY.aJ jA ai H.jg;rw[e]at b;injection b with f j k;rw[<-f]at d;exact⟨g,0,c,e,d⟩
theorem dM.holds (H:dM w lo hi tb fb R h cnt V) (r:0<R.length):∃g c,V.hv=aA g (aX R.length).length c/\lo<=g/\g<hi/\g≠tb/\g≠fb/\g<w.heap.size/\(∀k,k<(aX R.length).length->w.cell? (af g k)=some (ae (oq (h k)))/\w.frozen? (af g k)=false)/\
  (∀a,V.rv.ownBlock=some a->a≠g)/\(∀a,V.xv.ownBlock=some a->a≠g)/\(∀a,V.nv.ownBlock=some a->a≠g)/\∀a,V.fv.ownBlock=some a->a≠g:=by
 have x:=dh R.length;have⟨g,c,e,y,u,s,t⟩:=aV H.oo aa;have b:=H.oo;rw[e]at b;have p:(aA g (aX R.length).length c).ownBlock=some g:=rfl;have f:∀{j:TypeId} {sz n:Nat} {v:Value} {xs:List Value},w.ownsRow lo j sz v n xs->j≠3->∀a,v.ownBlock=some a->a≠g:=fun q o a d l=>bB q b o a d (l▸p);refine⟨g,c,e,(b.lt g rfl).1,H.top V.hv ay g (by rw[e];rfl),fun i=>bn b H.blk ai g rfl i.symm,fun i=>bn b H.iH.blk ai g rfl i.symm,(b.lt g rfl).2,fun k m=>⟨?_,b.frozenAt k⟩,f H.row ai,f H.xs ai,f H.jg ai,f H.iH.row ai⟩;have d:=b.cellAt k aa;rw[K8 h m]at d;exact d
theorem dM.nP (H:dM w lo hi tb fb R h cnt V) {g n c:Nat} (i:V.hv=aA g n c) {k:Nat} (j:k<(aX R.length).length) (v:Option Nat):
  dM (w.setCell (af g k) (.int .i64 (oq v))) lo hi tb fb R (gB h k v) cnt V:=by
 have K:ax (fun k=>k=g) w (w.setCell (af g k) (.int .i64 (oq v))):=(ax.refl (fun k=>k=g) w).set (a:=(af g k)) _ (.inl rfl);have e:=H.oo;rw[i]at e;have l:n=(aX R.length).length:=by
  rcases e.2 with⟨d,-⟩|⟨p,m,o,d,-⟩
  .cases d
  .injection d with _ d _
 subst l;have⟨cs,fr,b⟩:=qE e;have f:=(e.stored k (.int .i64 (oq v))).1;rw[K9 h j v]at f;refine⟨Fj H.blk K b ai,aQ H.fC,fu H.row K b ai,fu H.xs K b ai,yQ H.iH K b ai ai,fu H.jg K b ai,?_,H.top⟩;rw[i];exact f
theorem dM.BV (H:dM w lo hi tb fb R h cnt V) (m:Int):dM (w.setCell (af tb 5) (.int .i64 m)) lo hi tb fb R h m V:=by
 have K:ax (fun k=>k=tb) w (w.setCell (af tb 5) (.int .i64 m)):=(ax.refl (fun k=>k=tb) w).set (a:=(af tb 5)) _ (.inl rfl);have b:=H.blk;exact⟨di w tb 5 _ _ _ H.blk,aQ H.fC,fu H.row K b ai,fu H.xs K b ai,yQ H.iH K b ai ai,fu H.jg K b ai,fu H.oo K b ai,H.top⟩
end
end
section
open Go.RowKit Go.Sort Go.Shelf Go.Lib Go.Maps
attribute [local irreducible] wpQuiet
attribute [local go_sem] Oper.fB
structure Pv (w:World) (tb:Nat) (R:List Pt):Prop where
 lt:tb<w.heap.size
 row:∃ra rc,w.cell? (af tb 0)=some (.slice ra R.length rc)/\bY dw 3 w ra R
theorem Pv.below {w w':World} {tb:Nat} {R:List Pt} (H:Pv w tb R) (a:Below w.heap.size w w'):Pv w' tb R:=by
 have⟨d,e,b,c⟩:=H.row;exact⟨bX H.lt a.size,d,e,(a.cell (p:=(af tb 0)) H.lt).trans b,c.below a⟩
theorem dM.Rx {w:World} {lo hi tb fb:Nat} {cnt:Int} {R:List Pt} {h:iI} {V:mq} (H:dM w lo hi tb fb R h cnt V):Pv w tb R:=by
 obtain⟨c,d,b,-,-,e⟩:=bY.aJ bg ai H.row;have a:=H.blk;rw[b]at a;exact⟨H.FY,c,d,aD a,e⟩
theorem y9 {w:World} {tb:Nat} {R:List Pt} (H:Pv w tb R) (P:R.length<=20000) (g d:Option Nat) (B:∀i,g=some i->i<R.length) (C:∀i,d=some i->i<R.length):
  aK 103 #[aj tb,ae (oq g),ae (oq d)] w (fw w (ae (oq (lowO R g d)))):=by
 obtain⟨ao,ap,ar,J,K⟩:=H;have N:=ag K;have y:Hid (∀n,Below w.heap.size w (w.drewN n)):=fun n=>Below.bu _ n;clear K;cases g with
 |none=>
  have v:lowO R none d=d:=rfl;rw[v];generalize oq d=k at*;show Calls _ _ #[_,ae (-1),_] _ _;go_enter func103,ntmps103
  go_upto_region 1 with fail
  go_quiet (fail)
  go_wp2;go_ret;exact⟨rfl,y.o _⟩
 |some i=>
  have hi:=B i rfl;have al:((i:Int)==-1)=false:=by first|(simp;done)|(simp;omega)
  have am:decide ((i:Int)=-1)=false:=by first|(simp;done)|(simp;omega)
  cases d with
  |none=>
   have v:lowO R (some i) none=some i:=rfl;rw[v];show Calls _ _ #[_,ae (i:Int),ae (-1)] _ fun e w'=>e=.returned (ae (i:Int))/\_;go_enter func103,ntmps103
   go_upto_region 1 with fail
   go_quiet (fail)
   go_wp2;go_ret;exact⟨rfl,y.o _⟩
  |some j=>
   have f:=C j rfl;have f1:((j:Int)==-1)=false:=by first|(simp;done)|(simp;omega)
   have f2:decide ((j:Int)=-1)=false:=by first|(simp;done)|(simp;omega)
   have f3:((j:Int)!=-1)=true:=by first|(simp;done)|(simp;omega)
   have a:lowO R (some i) (some j)=if Dh R j i then some j else some i:=rfl;obtain⟨aq,au,O,an,c⟩:=N.o.get aa;have m:=c i hi 0 aa;have r:=c i hi 1 aa;have s:=c i hi 2 aa;have t:=c j f 0 aa;have v1:=c j f 1 aa;have u:=c j f 2 aa;simp only[dw,fZ,dC,dK]at m r s t v1 u;rw[<-dF hi]at m r s;rw[<-dF f]at t v1 u;subst O;have z:Hid (Dh R j i=decide (og (bU R j) (bU R i)<0)):=by
    show _=_;unfold Dh;rw[mQ,qz]
   rw[z.o]at a;have A:=ag a;obtain⟨I,F⟩:∃I,I=R.length:=⟨_,rfl⟩;rw[<-F]at J P hi f;clear c z B C F a;generalize bU R i=p at*;generalize bU R j=q at*;have L:=ag (fun W=>Pj q p W);generalize og q p=l at*;obtain⟨ab,ac,Z⟩:=p;obtain⟨af,ak,ad⟩:=q;simp only at m r s t v1 u;have M:Hid (∀b:aS w,aK 71 #[jc af ak ad,jc ab ac Z] b.W fun e w'=>e=.returned (ae l)/\Below b.W.heap.size b.W w'):=fun b=>L.o b.W;generalize lowO R (some i) (some j)=res at*;simp only[oq];have Q:=ah J;have S:=ah m;have T:=ah r;have U:=ah s;have V:=ah t;have X:=ah v1;have Y:=ah u;go_enter func103,ntmps103
   go_upto_region 1 with fail
   refine bH aM aM ?_
   repeat(quiet_step ((go_at_call 71;exact dL (M.o _))))
   refine jP ?_;intro w4 G;have D:Below w.heap.size w w4:=by obtain⟨b,rfl⟩:=G;exact b.h
   have x:=ag D;clear G D Q S T U V X Y;by_cases E:l<0
   .have d1:decide (l<0)=true:=by simp[E]
    have a:=A.o;rw[d1,aO rfl]at a;subst a;go_wp2;go_ret;exact⟨rfl,x.o⟩
   .have d1:decide (l<0)=false:=by simp[E]
    have a:=A.o;rw[d1,aN ai]at a;subst a;go_wp2;go_ret;exact⟨rfl,x.o⟩
def ou (R:List Pt) (x1 x2:Int):List Nat×Nat:=
 if R.length=0\/x2<x1 then([],0)
 else if jm R x1<l9 R x2 then(((dP 0 R.length).canon 0 (jm R x1) (l9 R x2)).1,(aW (bV R) x1).2+(aU (bV R) x2).2+((dP 0 R.length).canon 0 (jm R x1) (l9 R x2)).2)
 else([],(aW (bV R) x1).2+(aU (bV R) x2).2)
theorem Ry {R:List Pt} {x1 x2:Int} (a:R.length=0\/x2<x1):ou R x1 x2=([],0):=by unfold ou;rw[aO a]
def Rz (w:World) (r:List Nat×Nat) (e:Ending) (w':World):Prop:=
 ∃v,e=.returned (.tuple #[v,ae (r.2:Nat)])/\w'.ownsRow w.heap.size 3 1 v r.1.length (r.1.map fE)/\Below w.heap.size w w'
theorem MR {W:World} {lo hi tb fb:Nat} {cnt:Int} {R:List Pt} {h:iI} {V:mq} (b:dM W lo hi tb fb R h cnt V) (ap:R.length<=20000) (x1 x2:Int):
  aK 110 #[aj tb,ae x1,ae x2] W (Rz W (ou R x1 x2)):=by
 have L:=b.FY;have d:=b.blk;obtain⟨ai,ak,A⟩:=fI b.row;obtain⟨D,E,B,-,-,s⟩:=Rd.aJ b.xs;rw[A,B]at d;have j:(bV R).length=R.length:=by unfold bV;rw[bR]
 rw[j]at d;have Q:W.cell? (af tb 0)=some (.slice ai R.length ak):=aD d;have y:W.cell? (af tb 1)=some (.slice D R.length E):=aD d;have z:W.cell? (af tb 2)=some (aj fb):=aD d;by_cases q:R.length=0\/x2<x1
 .rw[Ry q];have G:Hid (Rz W ([],0) (.returned (.tuple #[aL,ae 0])) W):=⟨_,rfl,dx _ _ _ _,aI _ _⟩;clear b d s A B y z;generalize R.length=n at*;by_cases a:n=0
  .have d0:((n:Int)==0)=true:=by simp[a]
   have d1:(n==0)=true:=by simp[a]
   have d2:decide (n=0)=true:=by simp[a]
   clear a q j;go_enter func110,ntmps110;go_wp2;go_ret2;exact G.o
  .have d0:((n:Int)==0)=false:=by simp[a]
   have d1:(n==0)=false:=by simp[a]
   have d2:decide (n=0)=false:=by simp[a]
   have f1:decide (x1>x2)=true:=aH;have f2:decide (x2<x1)=true:=aH;clear a q j;go_enter func110,ntmps110;go_wp2;go_ret2;exact G.o
 .have a:0<R.length:=aa;have t:=ag (fun W' (m:Below W.heap.size W W')=>EX D (bV R) E x1 W' (s.below m) aa);have u:=ag (fun W' (m:Below W.heap.size W W')=>EY D (bV R) E x2 W' (s.below m) aa);have ad:=gy (fun i=>decide (x1<=(bV R).getD i 0)) (bV R).length;have ah:=gy (fun i=>decide (x2<(bV R).getD i 0)) (bV R).length;have aq:(aW (bV R) x1).2<=20000:=by unfold aW;omega
  have ar:(aU (bV R) x2).2<=20000:=by unfold aU;omega
  obtain⟨al,am,an⟩:=bJ 0 R.length a;have X:=fA 0 R.length a;have Y:=(FT.qH (jm R x1) (l9 R x2) (dP 0 R.length) 0).1;have M:=Rj R x2;have k:Hid (jm R x1<l9 R x2->∀W',Below W.heap.size W W'->aK 175 #[aj fb,ae (jm R x1),ae (l9 R x2)] W' (Rk W' R.length (jm R x1) (l9 R x2))):=fun f W' m=>
   G9 lo fb R.length (jm R x1) (l9 R x2) V.fv aa f M W' (b.below m b.fC.2.2.2.2).iH
  have l:Hid (ou R x1 x2=if jm R x1<l9 R x2 then(((dP 0 R.length).canon 0 (jm R x1) (l9 R x2)).1,(aW (bV R) x1).2+(aU (bV R) x2).2+((dP 0 R.length).canon 0 (jm R x1) (l9 R x2)).2)else([],(aW (bV R) x1).2+(aU (bV R) x2).2)):=by
   show ou R x1 x2=_
   conv=>lhs;unfold ou
   rw[aN q]
  have x:Hid (jm R x1=(aW (bV R) x1).1/\l9 R x2=(aU (bV R) x2).1):=⟨rfl,rfl⟩;rw[<-x.o.1,j]at t;rw[<-x.o.2,j]at u;have f1:decide (x1>x2)=false:=aH;have f2:decide (x2<x1)=false:=aH;unfold Rk at k;have Z:((dP 0 R.length).canon 0 (jm R x1) (l9 R x2)).2<=40000:=aa;obtain⟨dg,J⟩:∃dg,dg=(dP 0 R.length).canon 0 (jm R x1) (l9 R x2):=⟨_,rfl⟩;rw[<-J]at k l Z;clear b d s A B q ad ah al am an X j J Y M;generalize jm R x1=fr at*;generalize l9 R x2=tu at*;generalize ab:(aW (bV R) x1).2=N at*;generalize ac:(aU (bV R) x2).2=O at*;generalize ou R x1 x2=ask at*;clear ab ac x;generalize R.length=n at*;have d0:((n:Int)==0)=false:=aH;have d1:(n==0)=false:=aH;have d2:decide (n=0)=false:=aH;go_enter func110,ntmps110
  go_wp2_with fail
  refine(t.o W (aI _ _)).mono ?_;rintro e w1 ⟨rfl,C⟩;have S:=(C.cell (p:=(af tb 1)) L).trans y;have r:=ag C;clear C
  go_wp2_with fail
  refine(u.o w1 r.o).mono ?_;rintro e w2 ⟨rfl,H⟩;have g:Hid (Below W.heap.size W w2):=r.o.trans (H.mono r.o.size);have ao:=(g.o.cell (p:=(af tb 2)) L).trans z;clear H S t u r Q y z;by_cases f:fr<tu
  .have T:decide ((tu:Int)<=(fr:Int))=false:=aH;have U:decide (tu<=fr)=false:=aH;have c:=l.o;rw[aO f]at c;have P:=ag c;have F:=ag (k.o f w2 g.o);clear c f k l
   go_wp2_with fail
   refine F.o.mono ?_;rintro e w3 ⟨v,rfl,K,I⟩;have w:Hid (Rz W ask (.returned (.tuple #[v,ae ((N+O+dg.2:Nat):Int)])) w3):=by
    rw[P.o];exact⟨v,rfl,bI K g.o.size,g.o.trans (I.mono g.o.size)⟩
   clear K I F;go_wp2;go_ret2;exact w.o
  .have T:decide ((tu:Int)<=(fr:Int))=true:=aH;have U:decide (tu<=fr)=true:=aH;have c:=l.o;rw[aN f]at c;have w:Hid (Rz W ask (.returned (.tuple #[aL,ae ((N+O:Nat):Int)])) w2):=by
    rw[c];exact⟨_,rfl,dx _ _ _ _,g.o⟩
   clear c f k l;go_wp2;go_ret2;exact w.o
theorem RA {R:List Pt} {x1 x2:Int}:∀k∈(ou R x1 x2).1,k<(aX R.length).length:=fun k a=>by
 unfold ou at a;by_cases b:R.length=0\/x2<x1
 .rw[aO b]at a;exact absurd a iC
 .rw[aN b]at a;by_cases c:jm R x1<l9 R x2
  .rw[aO c]at a;exact FT.O8 _ 0 (jU R.length aa) k a
  .rw[aN c]at a;exact absurd a iC
theorem MS {R:List Pt} (d:R.length<=20000) (x1 x2:Int):(ou R x1 x2).1.length<=40000/\(ou R x1 x2).2<=100000:=by
 unfold ou;by_cases a:R.length=0\/x2<x1
 .rw[aO a];simp
 .rw[aN a];have f:=gy (fun i=>decide (x1<=(bV R).getD i 0)) (bV R).length;have h:=gy (fun i=>decide (x2<(bV R).getD i 0)) (bV R).length;have k:(bV R).length=R.length:=by unfold bV;rw[bR]
  have g:(aW (bV R) x1).2<=20000:=by unfold aW;omega
  have j:(aU (bV R) x2).2<=20000:=by unfold aU;omega
  have e:=fA 0 R.length aa;have c:=FT.qH (jm R x1) (l9 R x2) (dP 0 R.length) 0;by_cases b:jm R x1<l9 R x2
  .rw[aO b];exact⟨bA c.2 aa,by have:=c.1;simp only;omega⟩
  .rw[aN b];exact⟨ay,by show _+_<=_;omega⟩
theorem Lc {R:List Pt} {gone:List Bool} {YS:List Nat} {N:List Nd} (b:cz R gone YS) (c:List Nat):∀i,sO R N YS c=some i->i<R.length:=by
 intro i h;have a:=Hg (N:=N) b c none (fun _=>False) (fun _ h=>h.elim) (fun _ h=>h);unfold sO at h;rw[h]at a;rcases a.1 with h2|h2
 .exact h2.elim
 .obtain⟨k,-,d⟩:=x9.1 h2;exact DY b d
theorem ow {P:Program} {fn:Func} {p q r:Tmp} {ty:TypeId} (h:fn.results=#[.cell p ty,.tmp q,.tmp r]) (a:Array Value) (w:World) (g:Nat) (t:TypeId) (cs:Array Value) (fr:Nat×Nat) (d:TypeDesc) (b c:Value)
  (hp:a.getD p undef=aj g) (e:a.getD q undef=b) (i:a.getD r undef=c) (k:w.heap[g]? =some (.cells cs t fr))
  (hu:P.underlying ty=some d) (hd:(match d with|.struct _|.array _ _=>true|_=>false)=true) (hi:(P.info? ty).map (·.size)=some cs.size):
  (results fn a).run P w=.ok (.tuple #[.agg cs,b,c]) w:=by
 have l:a[p]?.getD undef=aj g:=aQ hp;have f:a[q]?.getD undef=b:=aQ e;have j:a[r]?.getD undef=c:=aQ i;simp[results,h,l,f,j,asAddr,run_loadVar_row w g t ty cs fr d k hu hd hi]
theorem JZ {w:World} {lo hi tb fb:Nat} {cnt:Int} {R:List Pt} {gone:List Bool} {YS:List Nat} {V:mq} (f:dM w lo hi tb fb R (lg (aX R.length) YS) cnt V) (ah:cz R gone YS) (I:R.length<=20000) (x1 x2:Int):
  aK 42 #[aj tb,ae x1,ae x2] w fun e w'=>(∃p:Pt,p=((sO R (aX R.length) YS (ou R x1 x2).1).map (bU R)).getD (0,0,0)/\e=.returned (.tuple #[jc p.1 p.2.1 p.2.2,.bool (sO R (aX R.length) YS (ou R x1 x2).1).isSome,ae ((ou R x1 x2).2:Nat)]))/\Below w.heap.size w w':=by
 obtain⟨aw,ax⟩:=MS I x1 x2;have F:=ag (RA (R:=R) (x1:=x1) (x2:=x2));have C:=ag (fun W (aQ:Below w.heap.size w W)=>MR (f.below aQ f.fC.2.2.2.2) I x1 x2);obtain⟨ask,ai⟩:∃ask,ask=ou R x1 x2:=⟨_,rfl⟩;rw[<-ai]at C F aw ax |-;clear ai;obtain⟨a,eB⟩:=ask;simp only at aw ax F |-;have g:=ag f;have G:=ag ah;have a5:=f.FY;obtain⟨w1,q⟩:∃w1,w1=w.alloc (.cells #[ae 0,ae 0,ak 0] 29):=⟨_,rfl⟩;have al:Below w.heap.size w w1:=by rw[q];exact(aI _ _).alloc (aB _) _
 have ay:w1.heap[w.heap.size]? =some (Ai (0,0,0)):=by rw[q];exact bW w _
 have l:=ag al;have H:=ag ay;have S:=ag q;clear q al ay f ah;go_enter func42,ntmps42
 go_upto_region 1 with fail
 rw[<-S.o];clear S
 go_wp2_with fail
 refine(C.o w1 l.o).mono ?_;rintro e w2 ⟨v,rfl,av,K⟩;have m:=ag (l.o.trans (K.mono l.o.size));have aS:w.heap.size<w1.heap.size:=(aY.1 H.o).1;have Z:=ag ((K.block w.heap.size aS).trans H.o);have aT:w.heap.size<w2.heap.size:=(aY.1 Z.o).1;obtain⟨a6,a7,rfl,-,-,aq⟩:=Rd.aJ (enc:=fE) av;have aE:=ag aq;clear av aq K C l H;go_wp2
 go_loopw [11,23] (fun bv O wr=>∃j:Nat,O=.int .i64 j/\j<=a.length/\bv=.int .i64 (oq (sO R (aX R.length) YS (a.take j)))/\Hid (Below w2.heap.size w2 wr)) (fun _ O _=>a.length-(intOf O).toNat)
 case atStart=>exact⟨0,rfl,bD _,rfl,ag (aI _ _)⟩
 case round=>
  obtain⟨j,rfl,a1,rfl,c⟩:=hrel;by_cases L:j<a.length
  .have a2:(j:Int)<(a.length:Int):=aa;have ap:=F.o a[j] (bF L);have aP:0<R.length:=by have:=dh R.length;omega
   have aC:=ag (m.o.trans (c.o.mono (by have:=m.o.size;omega)));have r:=g.o.below aC.o (by have:=g.o.fC;omega);obtain⟨aO,ch,ac,-,-,-,-,a0,an,-⟩:=r.holds aP;have J:=r.blk;rw[ac]at J;have aG:wr.cell? (af tb 4)=some (aA aO (aX R.length).length ch):=aD J;have aH:=(an a[j] ap).1;have P:=ag (y9 r.Rx I (sO R (aX R.length) YS (a.take j)) (lg (aX R.length) YS a[j]) (Lc G.o _) (fun i h=>Ch G.o h));have aF:Hid (sO R (aX R.length) YS (a.take (j+1))=lowO R (sO R (aX R.length) YS (a.take j)) (lg (aX R.length) YS a[j])):=by
    show _=_;rw[ic L,MG]
   obtain⟨b,off,ab,aZ,ao⟩:=(aE.o.below c.o).get aa;have aU:=ao j L;simp only[fE]at aU;have Q:=ag ab;have aR:(aX R.length).length<=40000:=by rw[dh];omega
   obtain⟨M,ad⟩:∃M,M=(aX R.length).length:=⟨_,rfl⟩;rw[<-ad]at aG ap aR;clear an ao J ac r ab ad;generalize lowO R (sO R (aX R.length) YS (a.take j)) (lg (aX R.length) YS a[j])=a8 at*;generalize lg (aX R.length) YS a[j]=bk at*;generalize sO R (aX R.length) YS (a.take j)=aV at*;generalize a[j]=k at*;obtain rfl:=Q.o;clear Q
   go_wp2_with fail
   refine P.o.mono ?_;rintro e w3 ⟨rfl,am⟩;have d:=ag (c.o.trans (am.mono c.o.size));clear am P;go_wp2;go_roundw
   case rel=>exact⟨j+1,by go_num,aa,by rw[aF.o],d⟩
   case measure=>exact eT
  .obtain rfl:j=a.length:=aa;rw[jO]at*;have au:=Lc (N:=aX R.length) G.o a;generalize ar:sO R (aX R.length) YS a=o at*;have HO:=ag ar;clear ar;have d:=ag (m.o.trans (c.o.mono (by have:=m.o.size;omega)));have n:=ag ((c.o.block w.heap.size aT).trans Z.o);obtain⟨w3,aN⟩:∃w3:World,w3=wr:=⟨_,rfl⟩;subst aN;cases o with
   |none=>
    simp only[oq,lN,mR,Option.isSome_none];have T:=p8 w3 w.heap.size _ #[ae 0,ae 0,ak 0] _ _ n.o;have U:=yu d.o (aB w.heap.size) #[ae 0,ae 0,ak 0];have D:=ag T;have E:=ag U;clear T U
    go_wp2_with (refine rE rfl 29 (.tmp 6) (.tmp 40) rfl rfl w.heap.size #[ae 0,ae 0,ak 0] rfl rfl _ _ n.o aM rfl (by simp[Value.oneCell']) ?_)
    refine lq (ow rfl _ _ w.heap.size _ _ _ _ (.bool false) (.int .i64 (eB:Nat)) rfl rfl rfl D.o underlying29 rfl aM) rfl ?_;exact⟨⟨(0,0,0),by first|rfl|(rw[HO.o];rfl),by first|rfl|(rw[HO.o];rfl)⟩,E.o⟩
   |some i=>
    have s:=au i rfl;have aH:((i:Int)==-1)=false:=by first|(simp;done)|(simp;omega)
    have aW:decide ((i:Int)=-1)=false:=by first|(simp;done)|(simp;omega)
    obtain⟨a3,ba,bc,a9,az⟩:=(g.o.below d.o (by have:=g.o.fC;omega)).Rx;obtain⟨bb,bd,aL,a4,t⟩:=az.get aa;have z:=t i s 0 aa;have A:=t i s 1 aa;have B:=t i s 2 aa;simp only[dw,fZ,dC,dK]at z A B;rw[<-dF s]at z A B;subst aL;simp only[oq,fT,gH,Option.isSome_some];have X:Hid (∃p,p=bU R i):=⟨_,rfl⟩;obtain⟨p,hp⟩:=X.o;have Y:=ag hp;rw[<-hp]at z A B;clear hp X;obtain⟨u,x,y⟩:=p;simp only at z A B;clear t az au;have D:=ag (p8 w3 w.heap.size _ #[ae u,ae x,ak y] _ _ n.o);have E:=ag (yu d.o (aB w.heap.size) #[ae u,ae x,ak y])
    go_wp2_with (refine rE rfl 29 (.tmp 6) (.tmp 48) rfl rfl w.heap.size #[ae u,ae x,ak y] rfl rfl _ _ n.o aM rfl (by simp[Value.oneCell']) ?_)
    refine lq (ow rfl _ _ w.heap.size _ _ _ _ (.bool true) (.int .i64 (eB:Nat)) rfl rfl rfl D.o underlying29 rfl aM) rfl ?_;exact⟨⟨(u,x,y),by first|exact Y.o|(rw[HO.o];exact Y.o),by first|rfl|(rw[HO.o];rfl)⟩,E.o⟩
end
section
open Go Go.RowKit
namespace FT
theorem vU:∀(t:FT) (s x:Nat),t.wf->t.lo<=x->x<t.hi->
  (∀i k,(t.path s x)[i]? =some k->i+1<(t.path s x).length->∃l r b,(node l r,b)∈t.subs s/\(node l r).root b=k)/\
  ∃L k,t.path s x=L++[k]/\(leaf x,k)∈t.subs s
 |leaf a,s,x,h,g,j=>by
  have o:a=x:=by simp only[lo,hi]at g j;omega
  subst o;refine⟨fun i k hi c=>?_,[],s,by rw[path];rfl,by simp[subs]⟩;rw[path]at c;simp at c
 |node l r,s,x,h,g,j=>by
  have w:=h.2.2;have key:∀(t:FT) (b:Nat),(∀p∈t.subs b,p∈(node l r).subs s)->(node l r).path s x=(node l r).root s::t.path b x->
    ((∀i k,(t.path b x)[i]? =some k->i+1<(t.path b x).length->∃l r f,(node l r,f)∈t.subs b/\(node l r).root f=k)/\∃L k,t.path b x=L++[k]/\(leaf x,k)∈t.subs b)->
    (∀i k,((node l r).path s x)[i]? =some k->i+1<((node l r).path s x).length->∃l' d b,(node l' d,b)∈(node l r).subs s/\(node l' d).root b=k)/\∃L k,(node l r).path s x=L++[k]/\(leaf x,k)∈(node l r).subs s:=fun t b n e ⟨q,L,k,u,v⟩=>by
   rw[e];refine⟨fun i k hi c=>?_,(node l r).root s::L,k,by rw[u];rfl,n _ v⟩
   match i with
   |0=>
    simp only[fZ]at hi;injection hi with hi;exact⟨l,r,s,by simp[subs],hi⟩
   |i+1=>
    simp only[dC]at hi;have⟨l',d,f,m1,m2⟩:=q i k hi (aQ c);exact⟨l',d,f,n _ m1,m2⟩
  by_cases m:x<l.hi
  .exact key l s (fun p hp=>by simp[subs,hp]) (by rw[path,aO m]) (vU l s x h.1 g m)
  .exact key r (s+l.size) (fun p hp=>by simp[subs,hp]) (by rw[path,aN m]) (vU r _ x h.2.1 aa j)
end FT
def za (N:List Nd) (YS WA:List Nat) (P:List Nat) (m:Nat):iI:=fun k=>if k∈P.take m then lg N YS k else lg N WA k
section
variable {R:List Pt} {gone Su:List Bool} {YS:List Nat} {x:Nat}
theorem MU (g:x<R.length) {k:Nat} (c:k<(aX R.length).length) (hP:k∉(dP 0 R.length).path 0 x):lg (aX R.length) (dZ YS x) k=lg (aX R.length) YS k:=by
 have b:0<R.length:=aa;have⟨t,s,a,e⟩:=tV c;subst e;have⟨w1,w2,w3⟩:=bJ 0 R.length b;have d:=FT.at_mem (fM b▸a);have f:¬(t.lo<=x/\x<t.hi):=fun h=>hP (FT.wS _ 0 x w1 (t,s) d h.1 h.2);unfold lg;rw[Cg a,Cg a];congr 1;unfold nl dZ;rw[rD];apply qQ;intro i _;by_cases e:i=x
 .subst e;simp[f]
 .simp[e]
structure Pw (R:List Pt) (YS:List Nat) (x:Nat) (P:List Nat):Prop where
 lt:∀k∈P,k<(aX R.length).length
 down:P.Pairwise (·>·)
 aside:∀k,k<(aX R.length).length->k∉P->lg (aX R.length) (dZ YS x) k=lg (aX R.length) YS k
 inner:∀i (h:i+1<P.length),∃l r s,FT.At (aX R.length) (.node l r) s/\(FT.node l r).wf/\(FT.node l r).root s=P[i]'(rF h)
 last:∃h:P.length-1<P.length,FT.At (aX R.length) (.leaf x) P[P.length-1]
theorem TN (YS:List Nat) (m:x<R.length):Pw R YS x ((dP 0 R.length).path 0 x):=by
 have a:0<R.length:=aa;have⟨w1,w2,w3⟩:=bJ 0 R.length a;have g:=jU R.length a;have d:=g;rw[fM a]at d;have c:∀p∈(dP 0 R.length).subs 0,FT.At (aX R.length) p.1 p.2:=fun p hp=>by rw[fM a];exact FT.kW _ 0 d _ hp
 have⟨n,L,k,f,o⟩:=FT.vU (dP 0 R.length) 0 x w1 aa aa;refine⟨fun k b=>?_,FT.tO _ 0 x w1 aa aa,fun k b hP=>MU m b hP,fun i h=>?_,?_⟩
 .obtain⟨p,hp,e,-⟩:=FT.ng _ 0 x w1 aa aa k b;rw[<-e];exact(c p hp).lt
 .obtain⟨l,r,s,m1,m2⟩:=n i _ (cB (rF h)) h;exact⟨l,r,s,c _ m1,FT.qw _ 0 w1 _ m1,m2⟩
 .have j:((dP 0 R.length).path 0 x).length-1<((dP 0 R.length).path 0 x).length:=by rw[f];simp
  refine⟨j,?_⟩;have e:((dP 0 R.length).path 0 x)[((dP 0 R.length).path 0 x).length-1]=k:=by simp[f]
  rw[e];exact c _ o
variable {P:List Nat} (hP:Pw R YS x P)
include hP
theorem Pw.sorted {i j:Nat} (a:i<j) (b:j<P.length):P[j]<P[i]:=gQ.1 hP.down i j aa b a
theorem Pw.Ct {m k:Nat} (b:m<P.length) (d:k<=P[m]) (h:k∈P.take m):False:=by
 have⟨i,hi,e⟩:=jo h;have a:i<m:=by simp at hi;omega
 have c:P[i]'aa=k:=by rw[<-e];simp
 have:=hP.sorted a b;omega
theorem MV (c:cz R Su (dZ YS x)) (k:Nat) (g:k<(aX R.length).length):gB (lg (aX R.length) YS) (P[P.length-1]'hP.last.1) none k=za (aX R.length) YS (dZ YS x) P (P.length-1) k:=by
 have⟨j,d⟩:=hP.last;unfold za;by_cases e:k=P[P.length-1]
 .subst e;rw[gm,aN (fun h=>hP.Ct j (aB _) h),Ci c d,aN (by simp[dZ])]
 .rw[iw e];by_cases h:k∈P.take (P.length-1)
  .rw[aO h]
  .rw[aN h];refine(hP.aside k g fun b=>?_).symm;have⟨i,hi,a⟩:=jo b;by_cases f:i=P.length-1
   .subst f;exact e a.symm
   .exact h (by rw[<-a];exact List.mem_take_iff_getElem.2 ⟨i,aa,rfl⟩)
theorem Px (g:cz R Su (dZ YS x)) {m:Nat} (a:m+1<P.length):∃l r s,FT.At (aX R.length) (.node l r) s/\(FT.node l r).root s=P[m]'(rF a)/\
  za (aX R.length) YS (dZ YS x) P (m+1) (l.root s)=lg (aX R.length) (dZ YS x) (l.root s)/\za (aX R.length) YS (dZ YS x) P (m+1) (r.root (s+l.size))=lg (aX R.length) (dZ YS x) (r.root (s+l.size))/\
  ∀k,gB (za (aX R.length) YS (dZ YS x) P (m+1)) (P[m]'(rF a)) (lowO R (lg (aX R.length) (dZ YS x) (l.root s)) (lg (aX R.length) (dZ YS x) (r.root (s+l.size)))) k=za (aX R.length) YS (dZ YS x) P m k:=by
 have⟨l,r,s,c,i,e⟩:=hP.inner m a;have d:l.root s<(FT.node l r).root s/\r.root (s+l.size)<(FT.node l r).root s:=by
  have:=l.size_pos;have:=r.size_pos;have j:(FT.node l r).size=l.size+r.size+1:=rfl;unfold FT.root;omega
 have f:∀k,k<(FT.node l r).root s->k∉P.take (m+1):=fun k b h=>by
  rw[e]at b;rw[ic (rF a),bT,l5]at h;rcases h with h|h
  .exact hP.Ct (rF a) (vv b) h
  .omega
 refine⟨l,r,s,c,e,aN (f _ d.1),aN (f _ d.2),fun k=>?_⟩;by_cases b:k=P[m]
 .subst b;rw[gm];unfold za;rw[aN (fun h=>hP.Ct (rF a) (aB _) h),<-e,Hf g c i]
 .rw[iw b];unfold za;have:k∈P.take (m+1)↔k∈P.take m:=by
   rw[ic (rF a),bT,l5];exact⟨fun h=>h.resolve_right b,.inl⟩
  simp only[this]
theorem Py:za (aX R.length) YS (dZ YS x) P 0=lg (aX R.length) (dZ YS x):=by
 have _:=hP;funext k;unfold za;rw[lQ,aN iC]
end
end
section
open Go.RowKit Go.Sort Go.Shelf Go.Lib Go.Maps
attribute [local irreducible] wpQuiet
attribute [local go_sem] Oper.fB
theorem Cu:eY 103:=bO func103 aM rfl
def J2 (w:World) (lo hi tb fb:Nat) (R:List Pt) (YS:List Nat) (cnt:Int) (V:mq) (x:Nat) (e:Ending) (w':World):Prop:=
 (x∉YS/\e=.returned (.bool false)/\Below w.heap.size w w')\/(x∈YS/\e=.returned (.bool true)/\dM w' lo hi tb fb R (lg (aX R.length) (dZ YS x)) (cnt-1) V/\ax (fun k=>lo<=k/\k<hi) w w')
theorem Hw {w:World} {lo hi tb fb:Nat} {R:List Pt} {gone:List Bool} {YS:List Nat} {cnt:Int} {V:mq} (H:dM w lo hi tb fb R (lg (aX R.length) YS) cnt V) (aU:cz R gone YS) (c5:R.length<=20000) (dI:0<=cnt) (dJ:cnt<=20000) {x:Nat} (J:x<R.length) (p:Pt) (hp:R[x]=p):
  aK 127 #[aj tb,jc p.1 p.2.1 p.2.2] w (J2 w lo hi tb fb R YS cnt V x):=by
 have A:=H.blk;have df:=H.FY;have B:=H.fC;obtain⟨bP,bQ,b4,-,-,bG⟩:=bY.aJ bg ai H.row;rw[b4]at A;have CB:=ag (fun W (A:Below w.heap.size w W)=>OP bP R R.length bQ p W rfl aa (bG.below A) aU.Bo);have aZ:=Fq aU.Bo J;rw[hp]at aZ;rw[aZ.1,aZ.2]at CB;have cL:=ag bG;have co:bU R x=p:=by rw[dF J];exact hp
 have cK:=ag co;have ay:=ag J;obtain⟨bd,be,bc⟩:=p;obtain⟨w1,aF⟩:∃w1,w1=w.alloc (.cells #[ae bd,ae be,ak bc] 29):=⟨_,rfl⟩;have bt:Below w.heap.size w w1:=by rw[aF];exact(aI _ _).alloc (aB _) _
 have ac:w1.heap[w.heap.size]? =some (.cells #[ae bd,ae be,ak bc] 29 (0,0)):=by rw[aF];exact bW w _
 have bE:w.heap.size<w1.heap.size:=(aY.1 ac).1;have a0:=(bt.block tb df).trans A;have T:w1.cell? (af tb 0)=some (.slice bP R.length bQ):=aD a0;have a9:w1.cell? (af w.heap.size 0)=some (ae bd):=aD ac;have ba:w1.cell? (af w.heap.size 1)=some (ae be):=aD ac;have bb:w1.cell? (af w.heap.size 2)=some (ak bc):=aD ac;have de:0<R.length:=aa;have cs:=J;obtain⟨n,bD⟩:∃n,n=R.length:=⟨_,rfl⟩;rw[<-bD]at c5 T CB de cs;have u:=ag bD;have ao:=ag bt;have bX:=ag H;have bm:=ag aU;have b2:=ag (TN YS J);have dg:tb<w1.heap.size:=aa;clear H bG A b4 bD bt ac a0 aZ hp J aU co;have d0:((n:Int)==0)=false:=aH;have d1:(n==0)=false:=aH;have d2:decide (n=0)=false:=aH;go_enter func127,ntmps127
 go_upto_region 1 with fail
 rw[<-aF];clear aF
 go_upto_region 3 with fail
 have b0:Hid (∀b:aS w1,aK 191 #[.slice bP n bQ,jc bd be bc,.func (.func 94) #[] #[]] b.W fun e w'=>e=.returned (.tuple #[ae (x:Nat),.bool true])/\Below b.W.heap.size b.W w'):=fun b=>CB.o b.W (ao.o.trans (b.h.mono ao.o.size));clear CB;have cZ:=ah T;have c0:=ah a9;have c1:=ah ba;have c2:=ah bb;refine bH aM aM ?_
 repeat(quiet_step ((go_at_call 191;exact dL (b0.o _))))
 refine jP ?_;intro wc cr;have I:Below w1.heap.size w1 wc:=by obtain⟨b,rfl⟩:=cr;exact b.h
 have T:=(I.cell (p:=(af tb 0)) dg).trans T;have a9:=(I.cell (p:=(af w.heap.size 0)) bE).trans a9;have ba:=(I.cell (p:=(af w.heap.size 1)) bE).trans ba;have bb:=(I.cell (p:=(af w.heap.size 2)) bE).trans bb;have Q:Hid (Below w.heap.size w wc):=ao.o.trans (I.mono ao.o.size);clear cr I cZ c0 c1 c2 b0;have av:Hid (dM wc lo hi tb fb R (lg (aX R.length) YS) cnt V):=bX.o.below Q.o B.2.2.2.2;have cg:=av.o.blk;have bn:wc.cell? (af tb 2)=some (aj fb):=aD cg;obtain⟨b,off,cW,c7,c⟩:=(cL.o.below Q.o).get (by have:=u.o;omega);have bM:=c x ay.o 0 aa;have bN:=c x ay.o 1 aa;have bO:=c x ay.o 2 aa;rw[<-dF ay.o,cK.o]at bM bN bO;simp only[dw,fZ,dC,dK]at bM bN bO;subst cW;clear c cg bX
 go_upto_region 4 with fail
 go_quiet (fail)
 obtain⟨w3,aL⟩:∃w3,w3=wc.drewN nq:=⟨_,rfl⟩;have bv:Below wc.heap.size wc w3:=by rw[aL];exact Below.bu _ _
 have bn:w3.cell? (af tb 2)=some (aj fb):=by rw[aL];exact bn
 have ar:Hid (dM w3 lo hi tb fb R (lg (aX R.length) YS) cnt V):=av.o.below bv av.o.fC.2.2.2.2;have ap:Hid (Below w.heap.size w w3):=Q.o.trans (bv.mono Q.o.size);have bT:=ag (vI lo fb n x V.fv aa cs w3 (by rw[u.o];exact ar.o.iH))
 go_upto_region 6 with fail
 rw[<-aL];clear aL bv av Q bM bN bO a9 ba bb T c7
 go_wp2_with fail
 refine bT.o.mono ?_;rintro e w4 ⟨pv,rfl,a4,bw⟩;have S:Hid (dM w4 lo hi tb fb R (lg (aX R.length) YS) cnt V):=ar.o.below bw ar.o.fC.2.2.2.2;have bZ:Hid (Below w.heap.size w w4):=ap.o.trans (bw.mono ap.o.size);have dX:w.heap.size<=w3.heap.size:=ap.o.size;obtain⟨P,aQ⟩:∃P,P=(dP 0 n).path 0 x:=⟨_,rfl⟩;have dG:P.length<=n+1:=by
  have b5:=FT.oH (dP 0 n) 0 x;have dE:=vE 0 n n (vv (Es));rw[aQ];omega
 rw[<-aQ]at a4;have D:Hid (Pw R YS x P):=by rw[aQ,u.o];exact b2.o
 clear aQ;obtain⟨dy,cw,rfl,-,-,ad⟩:=Rd.aJ (enc:=fE) a4;have bl:Hid (w4.ownsRow w3.heap.size 3 1 (.slice dy P.length cw) P.length (P.map fE)):=a4;obtain⟨cl,b7⟩:=D.o.last;have a2:=D.o.lt _ (bF cl);obtain⟨az,bL,cX,dH,b9⟩:=ad.get aa;have bi:=b9 (P.length-1) cl;simp only[fE]at bi;obtain⟨F,ch,bq,ci,cj,da,-,dN,c,-⟩:=S.o.holds (by have:=u.o;omega);obtain⟨q,O⟩:=c _ a2;rw[show lg (aX R.length) YS P[P.length-1]=if x∈YS then some x else none from Ci bm.o b7]at q;have Z:=S.o.blk;rw[bq]at Z;have E:w4.cell? (af tb 4)=some (aA F (aX R.length).length ch):=aD Z;have cT:w4.cell? (af tb 5)=some (ae cnt):=aD Z;have dA:w4.frozen? (af tb 5)=false:=aD Z;have cC:=ag bq;have cH:Hid (P[P.length-1]=P[P.length-1]):=rfl;have c4:(aX R.length).length<=40000:=by have:=u.o;rw[dh];omega
 have cV:((P.length-1:Nat):Int)=(P.length:Int)-1:=aa;have dY:=S.o.FY;have dO:F≠tb:=da;obtain⟨lf,bB⟩:∃lf,lf=P[P.length-1]:=⟨_,rfl⟩;obtain⟨M,bs⟩:∃M,M=(aX R.length).length:=⟨_,rfl⟩;rw[<-bB]at bi q O a2;rw[<-bs]at E a2 c4;have cG:=ag bB;have bk:=ag bs;obtain⟨m1,bC⟩:∃m1,m1=P.length-1:=⟨_,rfl⟩;rw[<-bC]at bi;have dT:(P.length:Int)-1=(m1:Int):=aa;have dU:(m1:Int)<(P.length:Int):=aa;have dV:m1<P.length:=aa;have cI:=ag bC;clear bC;subst cX;clear Z bq c a4 ad bw bT ar ap bn b9 bB bs b7 cV cH;by_cases z:x∈YS
 .rw[aO z]at q;simp only[oq]at q;have b6:=bm.o.drop ((bm.o.live x).1 z);have aw:=ag b6;have dB:((x:Int)==-1)=false:=by first|(simp;done)|(simp;omega)
  have dD:decide ((x:Int)=-1)=false:=by first|(simp;done)|(simp;omega)
  have cO:=ag z;obtain⟨bR,U⟩:∃bR,bR=w4.setCell (af F lf) (.int .i64 (-1)):=⟨_,rfl⟩;obtain⟨w6,X⟩:∃w6,w6=bR.setCell (af tb 5) (.int .i64 (cnt-1)):=⟨_,rfl⟩;have cJ:Hid (dM w6 lo hi tb fb R (za (aX R.length) YS (dZ YS x) P m1) (cnt-1) V):=by
   rw[X,U];have b5:=((S.o.nP cC.o (by rw[<-bk.o];exact a2) none).BV (cnt-1));refine b5.congr fun k dd=>?_;rw[cG.o,cI.o];exact(MV D.o aw.o k dd).symm
  have cE:Hid (ax (fun k=>lo<=k/\k<hi) w w6):=by
   rw[X,U];exact((((ax.refl _ w).below bZ.o).set (a:=(af F lf)) _ (.inl ⟨ci,cj⟩)).set (a:=(af tb 5)) _ (.inl ⟨B.1,B.2.1⟩))
  have b3:Hid (w6.ownsRow w3.heap.size 3 1 (.slice (some (af az bL)) P.length cw) P.length (P.map fE)):=by
   have bK:ax (fun k=>lo<=k/\k<hi) w4 w6:=by rw[X,U];exact(((ax.refl _ w4).set (a:=(af F lf)) _ (.inl ⟨ci,cj⟩)).set (a:=(af tb 5)) _ (.inl ⟨B.1,B.2.1⟩))
   exact aR bl.o bK (fun g e G=>by have:=(bl.o.lt g e).1;have:=G.2;have:=B.2.2.2.2;omega)
  have b1:Hid (w6=(w4.setCell (af F lf) (.int .i64 (-1))).setCell (af tb 5) (.int .i64 (cnt-1))):=by rw[X,U];rfl
  clear U X b6 z S bl b2
  go_upto_region 12 with fail
  rw[<-b1.o];clear b1 E cT dA q O bi;go_wp2
  go_loopw [10] (fun bI wr=>∃(m:Nat) (i:Int),bI=.int .i64 i/\i=(m:Int)-1/\m<=m1/\Hid (dM wr lo hi tb fb R (za (aX R.length) YS (dZ YS x) P m) (cnt-1) V)/\Hid (ax (fun k=>lo<=k/\k<hi) w6 wr)) (fun bI _=>(intOf bI+1).toNat)
  case atStart=>exact⟨m1,_,rfl,aa,aB _,cJ,ag (ax.refl _ _)⟩
  case round=>
   obtain⟨m,i,rfl,dc,dW,t,bj⟩:=hrel;by_cases dS:0<m
   .obtain⟨j,rfl⟩:∃j,m=j+1:=⟨m-1,aa⟩;obtain rfl:i=(j:Int):=aa;clear dc;obtain⟨l,r,s,aV,cf,cd,ce,cq⟩:=Px D.o aw.o (m:=j) aa;have ck:j<P.length:=aa;have dR:(j:Int)<(P.length:Int):=aa;have cy:=aR b3.o bj.o (fun g e G=>by have:=(b3.o.lt g e).1;have:=G.2;have:=B.2.2.2.2;omega);obtain⟨_,_,aE,-,-,ad⟩:=Rd.aJ (enc:=fE) cy;injection aE with aE _ _;obtain⟨cQ,dx,bp,c9,ca⟩:=ad.get aa;obtain⟨rfl,rfl⟩:az=cQ/\bL=dx:=by rw[<-aE]at bp;simpa using bp
    have an:=ca j ck;simp only[fE]at an;obtain⟨c3,dv,cn,env,cx⟩:=t.o.nodes (by have:=u.o;omega);obtain⟨v,cU,br,a0,db,dQ,-,a1,c,-⟩:=t.o.holds (by have:=u.o;omega);obtain⟨-,n0,al,am,a5,a6,a7,a8⟩:=mY cx aV.get;have a3:=D.o.lt _ (bF ck);have cm:=aV.left.lt;have cp:=aV.right.lt;obtain⟨q,O⟩:=c _ a3;obtain⟨y1,-⟩:=c _ cm;obtain⟨y2,-⟩:=c _ cp;rw[cd]at y1;rw[ce]at y2;have aW:=t.o.blk;rw[env,br]at aW;have bo:wr.cell? (af tb 3)=some (.slice (some (af c3 dv)) (aX R.length).length cn):=aD aW;have E:wr.cell? (af tb 4)=some (aA v (aX R.length).length cU):=aD aW;have cb:((FT.node l r).top s).l=((l.root s:Nat):Int):=by show((s+l.size:Nat):Int)-1=_;unfold FT.root;have:=l.size_pos;omega
    have cc:((FT.node l r).top s).r=((r.root (s+l.size):Nat):Int):=by show((s+l.size+r.size:Nat):Int)-1=_;unfold FT.root;have:=r.size_pos;omega
    rw[cb]at al;rw[cc]at am;have c6:=t.o.FY;have bS:=ag (fun W (A:Below wr.heap.size wr W)=>y9 (t.o.Rx.below A) (by have:=u.o;omega) (lg (aX R.length) (dZ YS x) (l.root s)) (lg (aX R.length) (dZ YS x) (r.root (s+l.size))) (fun i h=>Ch aw.o h) (fun i h=>Ch aw.o h));have cM:=ag cq;have cD:=ag br;rw[cf]at n0 al am a5 a6 a7 a8;rw[<-bk.o]at bo E a3 cm cp;obtain⟨N,bA⟩:∃N,N=P[j]:=⟨_,rfl⟩;have cF:=ag bA;rw[<-bA]at an n0 al am a5 a6 a7 a8 q O a3;clear bA cf cq cd ce aW env br c cx ca cy ad aE bp cb cc aV;generalize lowO R (lg (aX R.length) (dZ YS x) (l.root s)) (lg (aX R.length) (dZ YS x) (r.root (s+l.size)))=cv at*;generalize lg (aX R.length) (dZ YS x) (l.root s)=cP at*;generalize lg (aX R.length) (dZ YS x) (r.root (s+l.size))=cR at*;generalize l.root s=kl at*;generalize r.root (s+l.size)=kr at*;generalize(FT.node l r).top s=d at*;obtain⟨f,aP⟩:∃f,f=(wr.alloc (.cells #[.int .u8 d.kind,ae kl,ae kr,ae d.fr,ae d.KD,ae 0,ae d.item] 163)).drew:=⟨_,rfl⟩;have y:Below wr.heap.size wr f:=by rw[aP];exact((aI _ _).alloc (aB _) _).drew
    have L:f.heap[wr.heap.size]? =some (.cells #[.int .u8 d.kind,ae kl,ae kr,ae d.fr,ae d.KD,ae 0,ae d.item] 163 (0,0)):=by rw[aP];exact bW wr _
    have aq:=ag y;have cN:=ag L;have bV:=ag aP;clear aP y L;have bJ:=ah bo;have du:=ah an;have dl:=ah n0;have dm:=ah al;have dn:=ah am;have dp:=ah a5;have dq:=ah a6;have dr:=ah a7;have ds:=ah a8
    go_upto_region 15 with fail
    refine au (fun W=>∃p:aS wr,W=p.W) [11] [(0,false),(1,false),(2,false),(3,true),(4,false),(5,false),(6,false),(7,true),(8,false),(9,true)] ⟨⟨_,(aI _ _).drew⟩,rfl⟩ 2 ?_;refine aC 10 rfl fun K Y=>?_;go_simp;refine Y _ _ (fun _ _=>⟨⟨_,((aI _ _).drew).alloc (aB _) _⟩,rfl⟩) ?_;clear Y K;refine aG [11] ?_;clear bJ du dl dm dn dp dq dr ds n0 al am a5 a6 a7 a8 bo
    go_upto_region 16 with fail
    rw[<-bV.o];clear bV;have L:=cN.o;have y:=aq.o;have c8:az<wr.heap.size:=c9;have ct:f.cell? (af wr.heap.size 1)=some (ae kl):=aD L;have cu:f.cell? (af wr.heap.size 2)=some (ae kr):=aD L;have cS:=(y.cell (p:=(af tb 4)) c6).trans E;have dz:=(y.cell (p:=(af az (bL+j))) c8).trans an;have cA:=(y.cell (p:=(af v kl)) a1).trans y1;have cB:=(y.cell (p:=(af v kr)) a1).trans y2;have di:=ah ct;have dj:=ah cu;have bJ:=ah cS;have dk:=ah dz;have bK:=ah cA;have dt:=ah cB;clear L y ct cu cA cB y1 y2 E an;refine au (fun W=>∃p:aS f,W=p.W) [26,27] [(0,false),(1,false),(2,false),(3,true),(4,false),(5,false),(6,false),(7,true),(8,false),(9,false),(10,false),(11,false),(12,true),(13,false),(14,true),(15,false),(16,true),(17,false),(18,false),(19,false),(20,true),(21,false),(22,true),(23,false),(24,true)] ⟨⟨_,(aI _ _).drew⟩,rfl⟩ 3 ?_;refine aC 25 rfl fun K Y=>?_;refine aT Cu rfl _ _ rfl (vals:=#[aj tb,ae (oq cP),ae (oq cR)]) rfl (bS.o f.drew aq.o.drew) ?_;rintro e bf ⟨rfl,b8⟩;have bx:Below f.heap.size f bf:=((aI f.heap.size f).drew).trans b8;refine⟨_,rfl,Y _ _ (fun _ _=>⟨⟨_,bx⟩,rfl⟩) ?_⟩;clear Y K;refine aG [26,27] ?_;have ab:Below wr.heap.size wr bf:=aq.o.trans (bx.mono aq.o.size);have d3:=(ab.cell (p:=(af v N)) a1).trans q;have d4:bf.frozen? (af v N)=false:=by
     have G:=O;simp only[World.frozen?]at G |-;rw[ab.block v a1];exact G
    have C:Hid (∀bh,bh=bf.setCell (af v N) (.int .i64 (oq cv))->dM bh lo hi tb fb R (za (aX R.length) YS (dZ YS x) P j) (cnt-1) V/\ax (fun k=>lo<=k/\k<hi) w6 bh):=fun bh cY=>by
     subst cY;refine⟨((t.o.below ab t.o.fC.2.2.2.2).nP cD.o (by rw[<-bk.o];exact a3) cv).congr fun k _=>?_,(bj.o.below ab).set (a:=(af v N)) _ (.inl ⟨a0,db⟩)⟩;rw[cF.o];exact(cM.o k).symm
    clear ab bx b8 q O di dj bJ dk bK dt bS;go_wp2;exact⟨⟨j,by first|rfl|omega,aa,(C.o _ rfl).1,(C.o _ rfl).2⟩,by simp[intOf];omega⟩
   .obtain rfl:m=0:=aa;have d9:decide (0<=i)=false:=aH;have bz:=t.o;rw[Py D.o]at bz;have C:Hid (J2 w lo hi tb fb R YS cnt V x (.returned (.bool true)) wr):=.inr ⟨cO.o,rfl,bz,cE.o.trans bj.o⟩;clear bz;go_wp2;go_ret;exact C.o
 .rw[aN z]at q;simp only[oq]at q;have C:Hid (J2 w lo hi tb fb R YS cnt V x (.returned (.bool false)) w4):=.inl ⟨z,rfl,bZ.o⟩;clear z;go_wp2;go_ret;exact C.o
theorem J3 (a:Option Addr) (c:Nat) (l:List Pt) (w:World) (s:bY dw 3 w a l) (O:l.length<=1000000) (x:IA l):
  aK 102 #[.slice a l.length c] w (fw w (.bool (lK l))):=by
 have B:=ag s;have E:=ag x;clear s x;have N:=@run_makeMap prog;go_enter func102,ntmps102;go_wp2
 go_loopw [9] (fun k wr=>∃i:Nat,k=.int .i64 i/\i<=l.length/\Below w.heap.size w wr/\Hid (∃(D:DataW Unit),wr.ownsMap prog 27 (plainElem prog 3) w.heap.size i D/\nN D l i)) (fun k _=>l.length-(intOf k).toNat)
 case atStart=>exact⟨0,rfl,bD _,(aI _ _).alloc (aB _) _,⟨.map [],xX _ _ _ _,[],IsM.empty _ _⟩⟩
 case round=>
  obtain⟨i,rfl,hi,e,HO⟩:=hrel;by_cases g:i<l.length
  .obtain⟨b,off,q,M,f⟩:=(B.o.below e).get aa;have K:=f i g 0 aa;have x1:=f i g 1 aa;have x2:=f i g 2 aa;simp only[dw,fZ,dC,dK]at K x1 x2;have G:Hid (keyOf prog 27 (.int .u32 l[i].2.2)=some (.int .u32 l[i].2.2)):=yt underlying27 (E.o _ (bF _));obtain⟨D,t,d⟩:=HO.o;have n:=ag (d.put g);have L:=e.size;have m:=ag q;clear HO f d q;generalize l[i]=p at*;obtain⟨I,J,H⟩:=p;obtain rfl:=m.o;clear m;have h:=t.kept (qM wr (.cells #[ae I,ae J,ak H] 29) none) ay
   go_wp2_with (at_mapUpdate;refine xR _ rfl _ _ _ 26 rfl 27 3 (int_keyed underlying27) underlying26 _ w.heap.size i _ rfl h dJ _ _ _ rfl rfl G.o _ [] (uZ underlying3 (by simp[Lit.wf,IntKind.min,IntKind.max,IntKind.bits,IntKind.signed];omega)) ?_;intro w3 u r)
   have y:Below w.heap.size wr w3:=(((aI _ wr).alloc aa _)).grown r aH (fun j F=>by cases F;omega);have A:Hid (∃(D:DataW Unit),w3.ownsMap prog 27 (plainElem prog 3) w.heap.size (i+1) D/\nN D l (i+1)):=⟨_,u,n.o⟩;have z:=e.trans y;clear u r h t n;go_wp2;go_roundw
   case rel=>exact⟨i+1,by go_num,aa,z,A⟩
   case measure=>exact eT
  .obtain rfl:i=l.length:=aa;obtain⟨D,h,d⟩:=HO.o;have v:=d.size;have C:=ag v;clear v d HO
   go_wp2_with (at_len;refine wpList_len_own _ rfl _ 26 rfl 27 3 underlying26 _ w.heap.size _ _ rfl h ?_)
   go_ret;exact⟨by rw[C.o];rfl,e⟩
theorem dM.grow {w:World} {lo hi a tb fb:Nat} {R:List Pt} {h:iI} {cnt:Int} {V:mq} (H:dM w lo hi tb fb R h cnt V) (b:hi<=a) (c:a<=w.heap.size):dM w lo a tb fb R h cnt V:=
 ⟨H.blk,⟨H.fC.1,by have:=H.fC.2.1;omega,H.fC.2.2.1,by have:=H.fC.2.2.2.1;omega,c⟩,H.row,H.xs,H.iH,H.jg,H.oo,fun v d g e=>bX (H.top v d g e) b⟩
theorem Pz (n:Nat):IB (fun _=>some 0) n=List.replicate n (.int .i64 0):=by
 unfold IB;refine rH ay fun i a b=>?_;simp[oq]
def Ld (w:World) (R:List Pt) (e:Ending) (w':World):Prop:=
 ∃tb fb V,e=.returned (.tuple #[aj tb,ae 0])/\dM w' w.heap.size w'.heap.size tb fb R (lg (aX R.length) (dS R)) R.length V/\Below w.heap.size w w'
structure TP (w:World) (lo fb n:Nat) (rv nv fv:Value) (l:List Pt):Prop where
 row:w.ownsRow lo 29 3 rv n (l.flatMap dw)
 jg:w.ownsRow lo 163 7 nv (aX n).length ((aX n).flatMap oM)
 iH:nL w lo fb n fv
 Qu:lo<=fb
theorem TP.kept {S:Nat->Prop} {w w':World} {lo fb n:Nat} {j i g:Value} {l:List Pt} (h:TP w lo fb n j i g l) (K:ax S w w') (hS:∀k,k<w.heap.size->S k->∃cs t fr,w.heap[k]? =some (.cells cs t fr)/\t≠29/\t≠163/\t≠236):TP w' lo fb n j i g l:=by
 refine⟨oW h.row K fun k f e=>?_,oW h.jg K fun k f e=>?_,⟨bq K h.iH.blk fun e=>?_,oW h.iH.row K fun k f e=>?_⟩,h.Qu⟩
 .obtain⟨cs,t,fr,a,b,c,d⟩:=hS k f e;exact⟨cs,t,fr,a,b⟩
 .obtain⟨cs,t,fr,a,b,c,d⟩:=hS k f e;exact⟨cs,t,fr,a,c⟩
 .have m:=(aY.1 h.iH.blk).1;have⟨cs,t,fr,a,b,c,d⟩:=hS fb m e;have:=a.symm.trans h.iH.blk;injection this with this;injection this with _ this _;exact d this
 .obtain⟨cs,t,fr,a,b,c,d⟩:=hS k f e;exact⟨cs,t,fr,a,c⟩
def xB (N:List Nd) (YS:List Nat) (i:Nat):iI:=fun k=>if k<i then lg N YS k else some 0
theorem U5 {n:Nat} {t:FT} {s:Nat} (b:FT.At (aX n) t s):t.wf/\t.hi<=n:=by
 have a:=kZ b;have⟨w1,w2,w3⟩:=bJ 0 n a;have c:=FT.at_mem (fM a▸b);have:=FT.sD (dP 0 n) 0 w1 _ c;exact⟨FT.qw _ 0 w1 _ c,by simp only at this;omega⟩
theorem MW (a:Option Addr) (c:Nat) (l:List Pt) (w:World) (bm:bY dw 3 w a l) (eg:l.length<=20000) (dk:IA l) (hu:lK l=true):
  aK 38 #[.slice a l.length c] w (Ld w (eZ l)):=by
 have a6:=J3 a c l w bm aa dk;rw[hu]at a6;have es:=ag bm;obtain⟨n,bo⟩:∃n,n=l.length:=⟨_,rfl⟩;have cx:=ag (fun W (ed:Below w.heap.size w W)=>oP a l n c W bo.symm (bm.below ed) aa);have cI:=ag bo;rw[<-bo]at eg a6 |-;have cy:=ag (fun W=>yF n aa W);clear bo bm;have d1:decide ((n:Int)>2147483648)=false:=aH;have d2:decide ((2147483648:Int)<(n:Int))=false:=aH;have d3:decide (2147483648<n)=false:=aH;have c7:(ids l).Nodup:=by unfold lK at hu;simpa using hu
 have bF:=ag c7;clear c7 hu dk;go_enter func38,ntmps38
 go_wp2_with (go_at_call 102;refine a6.mono ?_;rintro e w1 ⟨rfl,bj⟩;clear a6)
 go_wp2_with fail
 refine(cy.o w1).mono ?_;rintro e w2 ⟨rfl,bb⟩;have aM:Hid (Below w.heap.size w w2):=by rw[bb];exact bj.alloc bj.size _
 have bB:Hid (w2.heap[w1.heap.size]? =some (lG 0 0 (aL) n)):=by rw[bb];exact bW w1 _
 obtain⟨fb,b2⟩:∃fb,fb=w1.heap.size:=⟨_,rfl⟩;have bl:w.heap.size<=fb/\fb<w2.heap.size:=by rw[bb,b2];exact⟨bj.size,ay⟩
 rw[<-b2]at bB |-;clear bb bj b2 cy
 go_wp2_with fail
 refine(cx.o w2 aM.o).mono ?_;rintro e w3 ⟨eS,rfl,b8,bT⟩;have b1:=(bT.block fb bl.2).trans bB.o;have bw:Hid (Below w.heap.size w w3):=aM.o.trans (bT.mono aM.o.size);have cJ:=ag (bI b8 aM.o.size);have cA:=ag (gJ fb n aa w3 b1);have cE:=ag b1;obtain⟨x,u,rfl⟩:=fI b8;clear b8 bT b1 cx bB aM
 go_wp2_with fail
 refine cA.o.mono ?_;rintro e w4 ⟨G,en,rfl,jm,b6,c2,J⟩;have b9:=bw.o.size;have cN:Hid (w4.ownsRow w.heap.size 29 3 (.slice x n u) n (l.flatMap dw)):=Ju cJ.o ai cE.o J;have bE:Hid (nL w4 w.heap.size fb n G):=⟨c2,bI jm b9⟩;have cH:Hid (w4.ownsRow w.heap.size 163 7 en (aX n).length ((aX n).flatMap oM)):=bI b6 b9;have P:Hid (Below w.heap.size w w4):=bw.o.trans (J.toBelow b9 (fun k h=>by have:=bl.1;omega));obtain⟨A,nc,rfl⟩:=fI b6;obtain⟨M,bh⟩:∃M,M=(aX n).length:=⟨_,rfl⟩;have a9:=ag bh;have ey:M<=40000:=by rw[bh,dh];omega
 rw[<-bh];clear jm b6 c2 J cA bh cJ cE bw
 go_upto_region 9 with fail
 obtain⟨wc,bf⟩:∃wc,wc=w4.alloc (.cells #[.slice x n u,aL,aj fb,.slice A M nc,aL,ae n] 161):=⟨_,rfl⟩;have bU:Below w4.heap.size w4 wc:=by rw[bf];exact(aI _ _).alloc (aB _) _
 obtain⟨tb,br⟩:∃tb,tb=w4.heap.size:=⟨_,rfl⟩;have cV:wc.heap[tb]? =some (MQ (.slice x n u) (aL) fb (.slice A M nc) (aL) n):=by rw[bf,br];exact bW w4 _
 rw[<-bf,<-br];have aQ:Hid (TP wc w.heap.size fb n (.slice x n u) (.slice A M nc) G l):=by
  have K:ax (fun _=>False) w4 wc:=(ax.refl _ w4).below bU;exact⟨aR cN.o K (fun _ _ h=>h),by rw[<-a9.o];have:=aR cH.o K (fun _ _ h=>h);rwa [<-a9.o]at this,⟨bq K bE.o.blk (fun h=>h),aR bE.o.row K (fun _ _ h=>h)⟩,bl.1⟩
 have aU:=ag cV;have bv:Hid (Below w.heap.size w wc):=P.o.trans (bU.mono P.o.size);have eh:w.heap.size<=tb:=by rw[br];exact P.o.size
 clear bf bU cV cN bE cH P br;have dg:=(aY.1 aU.o).1;have cB:=ag (yK cI.o.symm aa aQ.o.row bF.o);have cW:=aU.o;have bO:wc.cell? (af tb 0)=some (.slice x n u):=aD cW;clear cW
 go_wp2_with fail
 refine cB.o.mono ?_;rintro e w4 ⟨rfl,db,J⟩;have cT:TP w4 w.heap.size fb n (.slice x n u) (.slice A M nc) G (eZ l):=by
  have h:=aQ.o;refine⟨db,oW h.jg J fun k aw y=>?_,⟨bq J h.iH.blk fun y=>?_,oW h.iH.row J fun k aw y=>?_⟩,h.Qu⟩
  .obtain⟨cs,fr,e⟩:=Cs h.row y;exact⟨cs,_,fr,e,ai⟩
  .exact bn h.row h.iH.blk ai fb y rfl
  .obtain⟨cs,fr,e⟩:=Cs h.row y;exact⟨cs,_,fr,e,ai⟩
 have aV:Hid (w4.heap[tb]? =some (MQ (.slice x n u) (aL) fb (.slice A M nc) (aL) n)):=bq J aU.o (fun h=>bn aQ.o.row aU.o ai tb h rfl);have P:Hid (Below w.heap.size w w4):=bv.o.trans (J.toBelow bv.o.size (fun k h=>(aQ.o.row.lt k h).1));have bG:=ag cT;have X:(eZ l).length=n:=by rw[(dQ l).length_eq];exact cI.o.symm
 have cU:(ids (eZ l)).Nodup:=((dQ l).map _).nodup_iff.2 bF.o;have cM:Hid ((eZ l).Pairwise kI/\(ids (eZ l)).Nodup):=⟨fU bF.o,cU⟩;clear db J cT aQ aU bv cB cU bO dg;generalize d9:eZ l=R at*;clear d9;have dg:=(aY.1 aV.o).1;have dj:=aV.o;have bO:w4.cell? (af tb 0)=some (.slice x n u):=aD dj;clear dj
 go_wp2_with fail
 go_loopg [44] n (fun em ep wr=>∃(i:Nat) (cv:Value),ep=.int .i64 i/\i<=n/\n-i<=em/\Hid (wr.heap[tb]? =some (MQ (.slice x n u) cv fb (.slice A M nc) (aL) n))/\Hid (wr.ownsRow w4.heap.size 2 1 cv i (((bV R).take i).map (Value.int .i64)))/\Hid (ax (fun k=>k=tb) w4 wr))
 case atStart=>exact⟨0,_,rfl,bD _,aa,aV,dx _ _ _ _,ax.refl _ _⟩
 case round=>
  obtain⟨i,cv,rfl,hi,eJ,ab,ar,Y⟩:=hrel;by_cases eG:i<n
  .have de:=aR bG.o.row Y.o (fun g h y=>bn bG.o.row aV.o ai g h y.symm);obtain⟨_,_,d0,-,-,dc⟩:=bY.aJ bg ai de;injection d0 with dW dX dY;subst dW;clear dX dY;obtain⟨b,off,dZ,ez,ap⟩:=dc.get aa;have ct:=ap i aa 0 aa;have x1:=ap i aa 1 aa;have x2:=ap i aa 2 aa;simp only[dw,fZ,dC,dK]at ct x1 x2;have dm:(bV R).take (i+1)=(bV R).take i++[R[i].1]:=by
    have h:i<(bV R).length:=by unfold bV;simp;omega
    rw[ic h];simp[bV]
   have cQ:=ag dm;subst dZ;clear ap dc dm de;generalize R[i]=p at*;obtain⟨a5,dv,du⟩:=p;simp only at cQ ct x1 x2;have cd:=ab.o;have bs:=(aY.1 cd).1;obtain⟨E,F,rfl⟩:=fI ar.o
   go_upto_region 13 with fail
   obtain⟨w6,bc⟩:∃w6,w6=wr.alloc (.cells #[ae a5,ae dv,ak du] 29):=⟨_,rfl⟩;have a2:Below wr.heap.size wr w6:=by rw[bc];exact(aI _ _).alloc (aB _) _
   have dl:w6.heap[wr.heap.size]? =some (.cells #[ae a5,ae dv,ak du] 29 (0,0)):=by rw[bc];exact bW wr _
   have cb:=(a2.block tb bs).trans cd;have eL:=Y.o.size;have eM:=a2.size;have ce:∀g,(Value.slice E i F).ownBlock=some g->w4.heap.size<=g/\g<wr.heap.size:=fun g h=>ar.o.lt g h;have d7:=ah (w:=w6) (ad:=(af tb 1)) (v:=.slice E i F) (aD cb);have d8:=ah (w:=w6) (ad:=(af wr.heap.size 0)) (v:=.int .i64 a5) (aD dl);have cP:=ag (az ar.o a2);have cF:Hid (ax (fun k=>k=tb) w4 w6):=Y.o.below a2;have cO:=ag cb;rw[<-bc];clear bc a2 dl cb cd ct x1 x2;refine au (fun W=>∃p:aS w6,W=p.W) [8,9,10,11] [(0,false),(1,false),(2,false),(3,false),(4,true),(5,false),(6,true)] ⟨⟨_,(aI _ _).drew⟩,rfl⟩ 5 ?_;refine aC 7 rfl fun K U=>?_;go_simp;refine U _ _ (fun _ _=>⟨⟨_,((aI _ w6).alloc (aB _) _).drew⟩,rfl⟩) ?_;clear U K;refine aC 8 rfl fun K U=>?_;refine bC zX w4.heap.size (w:=(w6.alloc (.cells #[ae a5] 2)).drew) (az cP.o ((aI _ w6).alloc (aB _) _|>.drew)) [.int .i64 a5] rfl (by simp[Value.oneCell']) rfl (.tmp 52) (.tmp 55) rfl rfl w6.heap.size rfl (jr _ _) dJ aa aH ?_;intro am al f b7 c4 eA eK;have c3:w6.grownBy f (Value.slice E i F).ownBlock:=dR (bN ((aI _ w6).alloc (aB _) _|>.drew)) c4;have bJ:ax (fun k=>(Value.slice E i F).ownBlock=some k) w6 f:=(ax.refl _ w6).grown c3 (fun k aE=>.inl aE);refine U _ _ (fun _ h=>absurd ay h) ?_;clear U K;refine aG [9,10,11] ?_;have bp:=bq bJ cO.o (fun h=>by have:=(ce tb h).1;omega);have eR:f.cell? (af tb 1)=some (.slice E i F):=aD bp;have f8:f.frozen? (af tb 1)=false:=aD bp;have dI:Hid ((f.setCell (af tb 1) (aA am (i+1) al)).heap[tb]? =some (MQ (.slice (some (af b off)) n u) (aA am (i+1) al) fb (.slice A M nc) (aL) n)):=di f tb 1 _ _ _ bp;have cR:ax (fun k=>k=tb) f (f.setCell (af tb 1) (aA am (i+1) al)):=(ax.refl (fun k=>k=tb) f).set (a:=(af tb 1)) (aA am (i+1) al) (.inl rfl);have dN:Hid ((f.setCell (af tb 1) (aA am (i+1) al)).ownsRow w4.heap.size 2 1 (aA am (i+1) al) (i+1) (((bV R).take (i+1)).map (Value.int .i64))):=by
    have z:=aR (S:=fun k=>k=tb) b7 cR (fun g h y=>by have:=(b7.lt g h).1;omega);show World.ownsRow _ _ _ _ _ _ _;rw[cQ.o,bM];exact z
   have dH:Hid (ax (fun k=>k=tb) w4 (f.setCell (af tb 1) (aA am (i+1) al))):=((cF.o.mono (S':=fun k=>k=tb\/w4.heap.size<=k) (fun k h=>.inl h)).trans (bJ.mono (fun k h=>.inr (ce k h).1))).strip.set (a:=(af tb 1)) _ (.inl rfl);clear bJ c3 c4 b7 bp d7 d8 cP cO cF ce ar ab Y cR;go_wp2
   go_roundg (n-(i+1))
   case measure=>omega
   case rel=>exact⟨i+1,_,by go_num,aa,aB _,dI,dN,dH⟩
  .obtain rfl:i=n:=aa;have cK:Hid (TP wr w.heap.size fb i (.slice x i u) (.slice A M nc) G R):=bG.o.kept Y.o (fun k aw y=>by subst y;exact⟨_,_,_,aV.o,ai,ai,ai⟩);have bx:Hid (Below w.heap.size w wr):=P.o.trans (Y.o.toBelow P.o.size (fun k h=>aa));have bi:=ar.o;rw[kD (by unfold bV;simp;omega)]at bi;have bH:=ag (bI bi P.o.size);have a4:=ab.o;have dV:wr.cell? (af tb 3)=some (.slice A M nc):=aD a4;have ac:wr.cell? (af tb 4)=some (aL):=aD a4;have f4:wr.frozen? (af tb 4)=false:=aD a4;have bs:=(aY.1 a4).1;obtain⟨E,F,rfl⟩:=fI bi;have ef:=La M aa;clear bi a4 ar Y bO
   go_upto_region 16 with fail
   obtain⟨m,c5⟩:∃m,m=wr.heap.size:=⟨_,rfl⟩;obtain⟨B,a1⟩:∃B,B=(wr.setCell (af tb 4) (aA wr.heap.size M M)).alloc (Obj.cells (madeCells #[ae 0] M) 3):=⟨_,rfl⟩;have ba:ax (fun k=>k=tb) wr B:=by rw[a1];exact((ax.refl (fun k=>k=tb) wr).set (a:=(af tb 4)) _ (.inl rfl)).alloc _
   have ca:(wr.setCell (af tb 4) (aA wr.heap.size M M)).heap.size=wr.heap.size:=ay;have b4:B.heap[wr.heap.size]? =some (.cells (List.replicate M (ae 0)).toArray 3 (0,0)):=by
    have z:=Cr (wr.setCell (af tb 4) (aA wr.heap.size M M)) M;rw[ca]at z;rw[a1];exact z
   have eN:wr.heap.size<B.heap.size:=(aY.1 b4).1;have cc:B.heap[tb]? =some (MQ (.slice x i u) (.slice E i F) fb (.slice A M nc) (aA wr.heap.size M M) i):=by
    rw[a1];exact(bL _ _ tb (by rw[ca];exact bs)).trans (di wr tb 4 _ _ _ ab.o)
   have V:TP B w.heap.size fb i (.slice x i u) (.slice A M nc) G R:=cK.o.kept ba (fun k aw y=>by subst y;exact⟨_,_,_,ab.o,ai,ai,ai⟩);have bR:=aR bH.o ba (fun g h y=>bn bH.o ab.o ai g h y.symm);have df:=bx.o.size;have bQ:=DZ (w:=B) (base:=w.heap.size) (n:=M) (xs:=List.replicate M (ae 0)) b4 df ay dJ;have cG:Hid (dM B w.heap.size B.heap.size tb fb R (fun _=>some 0) i ⟨.slice x i u,.slice E i F,.slice A M nc,aA wr.heap.size M M,G⟩):=by
    refine⟨cc,⟨eh,aa,bl.1,(aY.1 V.iH.blk).1,aB _⟩,by rw[X];exact V.row,by rw[X];exact bR,by rw[X];exact V.iH,by rw[X];exact V.jg,?_,?_⟩
    .rw[X,<-a9.o,Pz];exact bQ
    .rintro v (rfl|rfl|rfl|rfl|rfl) g e
     .exact(V.row.lt g e).2
     .exact(bR.lt g e).2
     .exact(V.jg.lt g e).2
     .exact(bQ.lt g e).2
     .exact(V.iH.row.lt g e).2
   have dF:Hid (Below w.heap.size w B):=bx.o.trans (ba.toBelow df (fun k h=>aa));have aW:=ag (qA cM.o.1 cM.o.2);rw[<-a1];have et:B.cell? (af tb 3)=some (.slice A M nc):=aD cc;have I:Hid (M=(aX R.length).length):=by show _=_;rw[X];exact a9.o
   have ea:R.length<=20000:=aa;have dO:Hid (∀a,a<R.length->a∈dS R):=fun a ec=>(aW.o.live a).2 (by rw[rz,aO ec]);rw[<-c5]at cG;clear a1 c5 ba ca b4 cc V bR bQ cK bH ab bx dV ac f4 ef bs;generalize cX:dS R=YS at*;have dP:=ag cX;have cL:=ag X;clear cX X;go_wp2
   go_loopw [74] (fun cf wr=>∃j:Nat,cf=.int .i64 j/\j<=M/\Hid (dM wr w.heap.size B.heap.size tb fb R (xB (aX R.length) YS j) i ⟨.slice x i u,.slice E i F,.slice A M nc,aA m M M,G⟩)/\Hid (Below w.heap.size w wr)) (fun cf _=>M-(intOf cf).toNat)
   case atStart=>exact⟨0,rfl,bD _,cG,dF⟩
   case round=>
    obtain⟨j,rfl,eH,N,a8⟩:=hrel;by_cases a3:j<M
    .have eI:(j:Int)<(M:Int):=aa;obtain⟨t,s,bS,b0⟩:=tV (show j<(aX R.length).length by rw[<-I.o];exact a3);obtain⟨bP,cp,cn,env,dy⟩:=N.o.nodes (by have:=dh R.length;rw[<-I.o]at this;omega);simp only at env;injection env with env aZ a0;clear aZ a0;obtain⟨ew,eu,Q,eC,eD,eE,-,c6,ap,-⟩:=N.o.holds (by have:=dh R.length;rw[<-I.o]at this;omega);simp only at Q;injection Q with Q aZ a0;injection Q with Q;injection Q with Q d4 d5;subst Q;clear aZ a0;obtain⟨-,n0,ci,cj,ck,cl,dn,cm⟩:=mY dy bS.get;have bZ:=N.o.blk;simp only at bZ;have ac:wr.cell? (af tb 4)=some (aA m M M):=aD bZ;obtain⟨dz,dB⟩:=ap j (by rw[<-I.o];exact a3);have eb:=N.o.FY;rw[b0]at n0 ci cj ck cl dn cm;subst env;obtain⟨d,hd⟩:∃d,d=t.top s:=⟨_,rfl⟩;rw[<-hd]at n0 ci cj ck cl cm;obtain⟨f,bd⟩:∃f,f=wr.alloc (.cells #[.int .u8 d.kind,ae d.l,ae d.r,ae d.fr,ae d.KD,ae 0,ae d.item] 163):=⟨_,rfl⟩;have an:Below wr.heap.size wr f:=by rw[bd];exact(aI _ _).alloc (aB _) _
     have O:f.heap[wr.heap.size]? =some (.cells #[.int .u8 d.kind,ae d.l,ae d.r,ae d.fr,ae d.KD,ae 0,ae d.item] 163 (0,0)):=by rw[bd];exact bW wr _
     have a7:=ag an;have dL:=ag O;have cC:=ag bd;have aF:=ag bS;have bz:=ag b0;have aP:=ag hd;clear bd an O bZ ap dy bS b0 hd
     go_upto_region 19 with fail
     rw[<-cC.o];clear cC n0 ci cj ck cl dn cm;have O:=dL.o;have an:=a7.o;have co:wr.heap.size<f.heap.size:=(aY.1 O).1;have dq:f.cell? (af wr.heap.size 0)=some (.int .u8 d.kind):=aD O;have dr:f.cell? (af wr.heap.size 1)=some (ae d.l):=aD O;have ds:f.cell? (af wr.heap.size 2)=some (ae d.r):=aD O;have dt:f.cell? (af wr.heap.size 3)=some (ae d.fr):=aD O;have cS:=(an.cell (p:=(af tb 4)) eb).trans ac;have dA:=(an.cell (p:=(af m j)) c6).trans dz;have dD:f.frozen? (af m j)=false:=by
      have z:=dB;simp only[World.frozen?]at z |-;rw[an.block m c6];exact z
     have cg:=ah dt;have ch:=ah cS;clear O an ac dz dB;have b5:m≠wr.heap.size:=aa;have eB:m<f.heap.size:=aa;refine au (fun W=>∃p:aS f,W=p.W) [7,8] [(0,false),(1,false),(2,false),(3,true),(4,false),(5,false),(6,true)] ⟨⟨_,(aI _ _).drew⟩,rfl⟩ 2 ?_;refine aG [7,8] ?_;have eq:f.drew.cell? (af m j)=_:=dA;have er:f.drew.frozen? (af m j)=false:=dD;obtain⟨H,be⟩:∃H,H=(f.setCell (af m j) (.int .i64 d.fr)).drew:=⟨_,rfl⟩;have av:ax (fun k=>k=m) f H:=by rw[be];exact((ax.refl (fun k=>k=m) f).set (a:=(af m j)) _ (.inl rfl)).drew
     obtain⟨ei,eF⟩:=U5 aF.o;obtain⟨f0,c1,ee⟩:∃f0:Nat,d.fr=(f0:Int)/\f0=t.lo:=by rw[aP.o];cases t<;>exact⟨_,rfl,rfl⟩
     have Z:Hid (dM H w.heap.size B.heap.size tb fb R (gB (xB (aX R.length) YS j) j (some f0)) i ⟨.slice x i u,.slice E i F,.slice (some (af bP cp)) M nc,aA m M M,G⟩):=by
      rw[be,c1];exact((N.o.below a7.o N.o.fC.2.2.2.2).nP rfl (by rw[<-I.o];exact a3) (some f0)).below (aI _ _).drew (by have:=N.o.fC.2.2.2.2;have:=a7.o.size;simp;omega)
     have L:Hid (Below w.heap.size w H):=(a8.o.trans (a7.o.mono a8.o.size)).trans (av.toBelow (by have:=a8.o.size;omega) (fun k h=>aa));have eo:=((cu av co (fun h=>b5 h.symm)).1 0).trans dq;have cq:=((cu av co (fun h=>b5 h.symm)).1 1).trans dr;have cr:=((cu av co (fun h=>b5 h.symm)).1 2).trans ds;have eO:=av.size;have cD:=ag be;clear be cg ch av dq dr ds dt c1
     go_upto_region 20 with fail
     rw[<-cD.o];clear cD eq er dA dD cS;cases t with
     |leaf bK=>
      have aE:(d.kind==(2:Int))=false:=by rw[aP.o];rfl
      have aq:Hid (dM H w.heap.size B.heap.size tb fb R (xB (aX R.length) YS (j+1)) i ⟨.slice x i u,.slice E i F,.slice (some (af bP cp)) M nc,aA m M M,G⟩):=by
       refine Z.o.congr fun k aE=>?_;unfold xB;by_cases e:k=j
       .subst e;have aw:=Ci aW.o aF.o;rw[aO (dO.o bK (by have:(FT.leaf bK).hi=bK+1:=rfl;omega))]at aw;have y:s=k:=by have:=bz.o;unfold FT.root at this;simpa[FT.size]using this
        rw[gm,aO aa,<-y,aw,ee];rfl
       .rw[iw e];by_cases z:k<j
        .rw[aO z,aO aa]
        .rw[aN z,aN aa]
      go_wp2;go_roundw
      case rel=>first|exact⟨j+1,by go_num,aa,aq,L⟩|(refine⟨_,?_,rfl⟩;exact⟨j+1,by go_num,aa,aq,L⟩)|(refine⟨_,_,?_,rfl,rfl⟩;exact⟨j+1,by go_num,aa,aq,L⟩)|(refine⟨_,_,_,?_,rfl,rfl,rfl⟩;exact⟨j+1,by go_num,aa,aq,L⟩)|(refine⟨_,_,_,_,?_,rfl,rfl,rfl,rfl⟩;exact⟨j+1,by go_num,aa,aq,L⟩)|(refine⟨_,_,_,_,_,?_,rfl,rfl,rfl,rfl,rfl⟩;exact⟨j+1,by go_num,aa,aq,L⟩)
      case measure=>exact eT
     |node q D=>
      have aE:(d.kind==(2:Int))=true:=by rw[aP.o];rfl
      have c9:=aF.o.left.lt;have dd:=aF.o.right.lt;have da:q.root s<j/\D.root (s+q.size)<j:=by
       rw[<-bz.o];have:=q.size_pos;have:=D.size_pos;have eP:(FT.node q D).size=q.size+D.size+1:=rfl;unfold FT.root;omega
      have cZ:d.l=((q.root s:Nat):Int):=by rw[aP.o];show((s+q.size:Nat):Int)-1=_;unfold FT.root;have:=q.size_pos;omega
      have c0:d.r=((D.root (s+q.size):Nat):Int):=by rw[aP.o];show((s+q.size+D.size:Nat):Int)-1=_;unfold FT.root;have:=D.size_pos;omega
      rw[cZ]at cq;rw[c0]at cr;obtain⟨ex,ev,T,-,-,-,-,c8,bk,-⟩:=Z.o.holds (by have:=dh R.length;rw[<-I.o]at this;omega);simp only at T;injection T with T aZ a0;injection T with T;injection T with T d4 d5;subst T;clear aZ a0;obtain⟨y1,-⟩:=bk _ c9;obtain⟨y2,-⟩:=bk _ dd;obtain⟨cw,dE⟩:=bk j (by rw[<-I.o];exact a3);rw[show gB (xB (aX R.length) YS j) j (some f0) (q.root s)=lg (aX R.length) YS (q.root s) by rw[iw aa];exact aO da.1]at y1;rw[show gB (xB (aX R.length) YS j) j (some f0) (D.root (s+q.size))=lg (aX R.length) YS (D.root (s+q.size)) by rw[iw aa];exact aO da.2]at y2;rw[gm]at cw;have bX:=Z.o.blk;simp only at bX;have ac:H.cell? (af tb 4)=some (aA m M M):=aD bX;have cz:=ag (y9 (Z.o.Rx.below (aI _ _).drew) ea (lg (aX R.length) YS (q.root s)) (lg (aX R.length) YS (D.root (s+q.size))) (fun i h=>Ch aW.o h) (fun i h=>Ch aW.o h));have dG:Hid (lg (aX R.length) YS j=lowO R (lg (aX R.length) YS (q.root s)) (lg (aX R.length) YS (D.root (s+q.size)))):=by
       show _=_;rw[<-Hf aW.o aF.o ei,bz.o]
      rw[<-I.o]at c9 dd;have eQ:=Z.o.FY;clear bX bk cZ c0;generalize lowO R (lg (aX R.length) YS (q.root s)) (lg (aX R.length) YS (D.root (s+q.size)))=dp at*;generalize lg (aX R.length) YS (q.root s)=dT at*;generalize lg (aX R.length) YS (D.root (s+q.size))=dU at*;generalize q.root s=kl at*;generalize D.root (s+q.size)=kr at*;have ej:=ah cq;have ek:=ah cr;have cg:=ah ac;have ch:=ah y1;have el:=ah y2
      go_upto_region 21 with fail
      refine au (fun W=>∃p:aS H,W=p.W) [23,24] [(0,false),(1,false),(2,false),(3,true),(4,false),(5,false),(6,false),(7,false),(8,false),(9,true),(10,false),(11,true),(12,false),(13,true),(14,false),(15,false),(16,false),(17,true),(18,false),(19,true),(20,false),(21,true)] ⟨⟨_,(aI _ _).drew⟩,rfl⟩ 3 ?_;refine aC 22 rfl fun K U=>?_;refine aT Cu rfl _ _ rfl (vals:=#[aj tb,ae (oq dT),ae (oq dU)]) rfl cz.o ?_;rintro e bt ⟨rfl,cY⟩;have ao:Below H.heap.size H bt:=((aI H.heap.size H).drew).trans cY;refine⟨_,rfl,U _ _ (fun _ _=>⟨⟨_,ao⟩,rfl⟩) ?_⟩;clear U K;refine aG [23,24] ?_;have eU:=(ao.cell (p:=(af m j)) c8).trans cw;have eV:bt.frozen? (af m j)=false:=by
       have z:=dE;simp only[World.frozen?]at z |-;rw[ao.block m c8];exact z
      have C:Hid (∀bu,bu=bt.setCell (af m j) (.int .i64 (oq dp))->Hid (dM bu w.heap.size B.heap.size tb fb R (xB (aX R.length) YS (j+1)) i ⟨.slice x i u,.slice E i F,.slice (some (af bP cp)) M nc,aA m M M,G⟩)/\Hid (Below w.heap.size w bu)):=fun bu d6=>by
       subst d6;refine⟨((Z.o.below ao Z.o.fC.2.2.2.2).nP rfl (by rw[<-I.o];exact a3) dp).congr fun k _=>?_,?_⟩
       .unfold xB;by_cases e:k=j
        .subst e;rw[gm,aO aa,dG.o]
        .rw[iw e,iw e];by_cases z:k<j
         .rw[aO z,aO aa]
         .rw[aN z,aN aa]
       .exact(L.o.trans (ao.mono L.o.size)).trans (((ax.refl (fun k=>k=m) bt).set (a:=(af m j)) _ (.inl rfl)).toBelow (bA L.o.size ao.size) (fun k h=>aa))
      clear ao cY cw dE y1 y2 ac eo cq cr ej ek cg ch el cz;go_wp2;go_roundw
      case rel=>first|exact⟨j+1,by go_num,aa,(C.o _ rfl).1,(C.o _ rfl).2⟩|(refine⟨_,?_,rfl⟩;exact⟨j+1,by go_num,aa,(C.o _ rfl).1,(C.o _ rfl).2⟩)|(refine⟨_,_,?_,rfl,rfl⟩;exact⟨j+1,by go_num,aa,(C.o _ rfl).1,(C.o _ rfl).2⟩)|(refine⟨_,_,_,?_,rfl,rfl,rfl⟩;exact⟨j+1,by go_num,aa,(C.o _ rfl).1,(C.o _ rfl).2⟩)|(refine⟨_,_,_,_,?_,rfl,rfl,rfl,rfl⟩;exact⟨j+1,by go_num,aa,(C.o _ rfl).1,(C.o _ rfl).2⟩)|(refine⟨_,_,_,_,_,?_,rfl,rfl,rfl,rfl,rfl⟩;exact⟨j+1,by go_num,aa,(C.o _ rfl).1,(C.o _ rfl).2⟩)
      case measure=>exact eT
    .obtain rfl:j=M:=aa;have b3:dM wr w.heap.size wr.heap.size tb fb R (lg (aX R.length) YS) i ⟨.slice x i u,.slice E i F,.slice A j nc,aA m j j,G⟩:=
      (N.o.congr fun k aE=>by unfold xB;rw[aO (by rw[I.o];exact aE)]).grow N.o.fC.2.2.2.2 (aB _)
     have C:Hid (Ld w R (.returned (.tuple #[aj tb,ae 0])) wr):=by
      refine⟨tb,fb,⟨.slice x i u,.slice E i F,.slice A j nc,aA m j j,G⟩,rfl,?_,a8.o⟩;rw[dP.o,cL.o];rw[cL.o]at b3;exact b3
     clear b3;go_wp2;go_ret2;exact C.o
end
section
open Go.RowKit Go.Sort Go.Shelf Go.Lib Go.Maps
def uE (w:World) (lo hi tb n0:Nat) (l:List Pt):Prop:=
 ∃fb R gone YS V,dM w lo hi tb fb R (lg (aX R.length) YS) l.length V/\cz R gone YS/\sF R YS l/\R.length=n0/\n0<=20000
def uF (n:Nat):Nat:=6*Lib.bitLen n+1
theorem MX {R:List Pt} (h:R.length<=100000) (x1 x2:Int):(ou R x1 x2).2<=uF R.length:=by
 unfold ou uF;by_cases b:R.length=0\/x2<x1
 .rw[aO b];exact bD _
 .rw[aN b];have e:0<R.length:=aa;have f:(bV R).length=R.length:=by simp[bV]
  have c:=kX (bV R) x1 aa;have d:=kY (bV R) x2 aa;rw[f]at c d;by_cases a:jm R x1<l9 R x2
  .rw[aO a];have⟨w1,w2,w3⟩:=bJ 0 R.length e;have i:=(bz R.length aa aa).2.2;have j:=vE 0 R.length (Lib.bitLen R.length) aa;have g:=FT.Bi (dP 0 R.length) w1 0 (jm R x1) (l9 R x2);simp only;omega
  .rw[aN a];simp only;omega
section
variable {w w':World} {lo hi tb n0:Nat} {l:List Pt}
theorem uE.kept {S:Nat->Prop} (h:uE w lo hi tb n0 l) (K:ax S w w') (hS:∀k,lo<=k->k<hi->¬S k):uE w' lo hi tb n0 l:=by
 have⟨fb,R,gone,YS,V,a,b⟩:=h;exact⟨fb,R,gone,YS,V,a.kept K hS,b⟩
theorem uE.Fw (h:uE w lo hi tb n0 l):l.length<=n0/\n0<=20000:=by
 have⟨fb,R,gone,YS,V,c,a,b,d,e⟩:=h;have:=a.QU;have:=b.len a;omega
theorem MZ {R:List Pt} {gone:List Bool} {YS:List Nat} (a:cz R gone YS) (c:sF R YS l) (x1 x2:Int):(sO R (aX R.length) YS (ou R x1 x2).1).map (bU R)=(NK l x1 x2).head?:=by
 have d:∀h:(NK l x1 x2)=[],(sO R (aX R.length) YS []).map (bU R)=(NK l x1 x2).head?:=fun h=>by rw[h];rfl
 unfold ou;by_cases h0:R.length=0\/x2<x1
 .rw[aO h0];refine d ?_;rcases h0 with h0|h0
  .have b:=a.QU;have f:=c.len a;have g:=Rp l x1 x2;exact gU aa
  .exact O9 l h0
 .rw[aN h0];have e:=Rq a c x1 x2;by_cases b:jm R x1<l9 R x2
  .rw[aO b];simp only;rw[JN a aa,<-e,List.head?_map]
  .rw[aN b];refine d ?_;rw[<-e];have:TJ YS (jm R x1) (l9 R x2)=[]:=xO.2 fun i _=>aH;rw[this];rfl
theorem TQ (a:Option Addr) (c:Nat) (l:List Pt) (w:World) (k:bY dw 3 w a l) (m:l.length<=20000) (o:IA l) (hu:lK l=true):
  aK 38 #[.slice a l.length c] w fun e w'=>∃tb,e=.returned (.tuple #[aj tb,ae 0])/\uE w' w.heap.size w'.heap.size tb l.length l/\Below w.heap.size w w':=
 (MW a c l w k m o hu).mono fun e w' ⟨tb,fb,V,j,d,h⟩=>by
  have b:(ids l).Nodup:=by unfold lK at hu;simpa using hu
  have n:=fU b;have hid:(ids (eZ l)).Nodup:=((dQ l).map _).nodup_iff.2 b;have g:=qA n hid;have f:(eZ l).length=l.length:=(dQ l).length_eq;rw[show((eZ l).length:Int)=(l.length:Int) by rw[f]]at d;refine⟨tb,j,⟨fb,_,_,_,V,d,g,zz b _ (fun i=>?_),f,aa⟩,h⟩;rw[g.live,rz];split<;>simp_all
theorem RB (h:uE w lo hi tb n0 l) (x1 x2:Int):
  aK 42 #[aj tb,ae x1,ae x2] w fun e w'=>(∃p:Pt,p=(NK l x1 x2).head?.getD (0,0,0)/\∃c:Nat,e=.returned (.tuple #[jc p.1 p.2.1 p.2.2,.bool (NK l x1 x2).head?.isSome,ae c])/\c<=uF n0)/\Below w.heap.size w w':=by
 have⟨fb,R,gone,YS,V,d,a,f,g,k⟩:=h;refine(JZ d a aa x1 x2).mono ?_;rintro e w' ⟨⟨p,hp,j⟩,i⟩;have b:=MZ a f x1 x2;refine⟨⟨p,by rw[hp,b],(ou R x1 x2).2,?_,by rw[<-g];exact MX aa x1 x2⟩,i⟩;rw[<-b,Option.isSome_map];exact j
end
end
end Go.Proofs.YtkjdbndekceffaaGreat
