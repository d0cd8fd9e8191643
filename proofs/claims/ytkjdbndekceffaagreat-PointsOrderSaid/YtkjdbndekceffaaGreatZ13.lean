/- Made small by a program. -/
import Derived.Test.YtkjdbndekceffaaGreatZ12
set_option linter.unusedSimpArgs false
set_option linter.unusedVariables false
set_option maxRecDepth 100000
set_option maxHeartbeats 16000000
namespace Go.Proofs.YtkjdbndekceffaaGreat
open Tryz
section
open Go.RowKit Go.Sort Go.Shelf Go.Lib Go.Maps
attribute [local irreducible] wpQuiet
abbrev Mx (rv xv:Value) (fb:Nat) (nv hv:Value) (n:Int):Obj:=.cells #[rv,xv,aj fb,nv,hv,af n] 161 (0,0)
structure dK (w:World) (lo hi tb fb:Nat) (R:List Pt) (h:iH) (cnt:Int) (V:ni):Prop where
 blk:w.heap[tb]? =some (Mx V.rv V.xv fb V.nv V.hv cnt)
 fo:lo<=tb/\tb<hi/\lo<=fb/\fb<hi/\hi<=w.heap.size
 row:w.ownsRow lo 29 3 V.rv R.length (R.flatMap bX)
 xs:w.ownsRow lo 2 1 V.xv R.length ((bU R).map (Value.int .i64))
 iD:nH w lo fb R.length V.fv
 jc:w.ownsRow lo 163 7 V.nv (aW R.length).length ((aW R.length).flatMap oK)
 nZ:w.ownsRow lo 3 1 V.hv (aW R.length).length (Ib h (aW R.length).length)
 top:∀v,v=V.rv\/v=V.xv\/v=V.nv\/v=V.hv\/v=V.fv->∀g,v.ownBlock=some g->g<hi
section
variable {w w':World} {lo hi tb fb:Nat} {R:List Pt} {h:iH} {cnt:Int} {V:ni}
theorem dK.congr {h':iH} (H:dK w lo hi tb fb R h cnt V) (e:∀k,k<(aW R.length).length->h' k=h k):dK w lo hi tb fb R h' cnt V:=
 ⟨H.blk,H.fo,H.row,H.xs,H.iD,H.jc,by rw[Ml e];exact H.nZ,H.top⟩
theorem dK.kept {S:Nat->Prop} (H:dK w lo hi tb fb R h cnt V) (K:ax S w w') (hS:∀k,lo<=k->k<hi->¬S k):dK w' lo hi tb fb R h cnt V:=by
 have ht:=H.top;have a:∀{e:TypeId} {sz:Nat} {v:Value} {n:Nat} {xs:List Value},w.ownsRow lo e sz v n xs->(∀g,v.ownBlock=some g->g<hi)->w'.ownsRow lo e sz v n xs:=fun a b=>aT a K fun g e=>hS g (a.lt g e).1 (b g e);exact⟨bz K H.blk (hS tb H.fo.1 H.fo.2.1),⟨H.fo.1,H.fo.2.1,H.fo.2.2.1,H.fo.2.2.2.1,bD H.fo.2.2.2.2 K.size⟩,
  a H.row (ht _ aA),a H.xs (ht _ aA),
  ⟨bz K H.iD.blk (hS fb H.fo.2.2.1 H.fo.2.2.2.1),a H.iD.row (ht _ aA)⟩,a H.jc (ht _ aA),a H.nZ (ht _ aA),H.top⟩
theorem dK.below {B:Nat} (H:dK w lo hi tb fb R h cnt V) (a:Below B w w') (e:hi<=B):dK w' lo hi tb fb R h cnt V:=
 H.kept (S:=fun k=>hi<=k) ⟨a.os,a.tape,a.output,a.size,fun k f g=>a.block k aa⟩ fun k b c d=>aa
theorem dK.FD (H:dK w lo hi tb fb R h cnt V):tb<w.heap.size:=bR H.fo.2.1 H.fo.2.2.2.2
theorem dK.nodes (H:dK w lo hi tb fb R h cnt V) (l:0<R.length):∃g off c,V.nv=.slice (some (ae g off)) (aW R.length).length c/\bQ oK 7 w (some (ae g off)) (aW R.length):=by
 have m:=df R.length;have⟨g,c,e,_⟩:=aU H.jc aa;obtain⟨a,i,b,-,-,d⟩:=bQ.aI jq ai H.jc;rw[e]at b;injection b with f j k;rw[<-f]at d;exact⟨g,0,c,e,d⟩
theorem dK.holds (H:dK w lo hi tb fb R h cnt V) (r:0<R.length):∃g c,V.hv=au g (aW R.length).length c/\lo<=g/\g<hi/\g≠tb/\g≠fb/\g<w.heap.size/\(∀k,k<(aW R.length).length->w.cell? (ae g k)=some (af (og (h k)))/\w.frozen? (ae g k)=false)/\
  (∀a,V.rv.ownBlock=some a->a≠g)/\(∀a,V.xv.ownBlock=some a->a≠g)/\(∀a,V.nv.ownBlock=some a->a≠g)/\∀a,V.fv.ownBlock=some a->a≠g:=by
 have x:=df R.length;have⟨g,c,e,y,u,s,t⟩:=aU H.nZ aa;have b:=H.nZ;rw[e]at b;have p:(au g (aW R.length).length c).ownBlock=some g:=rfl;have f:∀{j:TypeId} {sz n:Nat} {v:Value} {xs:List Value},w.ownsRow lo j sz v n xs->j≠3->∀a,v.ownBlock=some a->a≠g:=fun q o a d l=>bA q b o a d (l▸p);refine⟨g,c,e,(b.lt g rfl).1,H.top V.hv aA g (by rw[e];rfl),fun i=>bn b H.blk ai g rfl i.symm,fun i=>bn b H.iD.blk ai g rfl i.symm,(b.lt g rfl).2,fun k m=>⟨?_,b.frozenAt k⟩,f H.row ai,f H.xs ai,f H.jc ai,f H.iD.row ai⟩;have d:=b.cellAt k aa;rw[KM h m]at d;exact d
theorem dK.nM (H:dK w lo hi tb fb R h cnt V) {g n c:Nat} (i:V.hv=au g n c) {k:Nat} (j:k<(aW R.length).length) (v:Option Nat):
  dK (w.setCell (ae g k) (.int .i64 (og v))) lo hi tb fb R (gy h k v) cnt V:=by
 have K:ax (fun k=>k=g) w (w.setCell (ae g k) (.int .i64 (og v))):=(ax.refl (fun k=>k=g) w).set (a:=(ae g k)) _ (.inl rfl);have e:=H.nZ;rw[i]at e;have l:n=(aW R.length).length:=by
  rcases e.2 with⟨d,-⟩|⟨p,m,o,d,-⟩
  .cases d
  .injection d with _ d _
 subst l;have⟨cs,fr,b⟩:=qz e;have f:=(e.stored k (.int .i64 (og v))).1;rw[KN h j v]at f;refine⟨EZ H.blk K b ai,aP H.fo,eY H.row K b ai,eY H.xs K b ai,yG H.iD K b ai ai,eY H.jc K b ai,?_,H.top⟩;rw[i];exact f
theorem dK.BG (H:dK w lo hi tb fb R h cnt V) (m:Int):dK (w.setCell (ae tb 5) (.int .i64 m)) lo hi tb fb R h m V:=by
 have K:ax (fun k=>k=tb) w (w.setCell (ae tb 5) (.int .i64 m)):=(ax.refl (fun k=>k=tb) w).set (a:=(ae tb 5)) _ (.inl rfl);have b:=H.blk;exact⟨dC w tb 5 _ _ _ H.blk,aP H.fo,eY H.row K b ai,eY H.xs K b ai,yG H.iD K b ai ai,eY H.jc K b ai,eY H.nZ K b ai,H.top⟩
end
end
section
open Go.RowKit Go.Sort Go.Shelf Go.Lib Go.Maps
attribute [local irreducible] wpQuiet
attribute [local go_sem] Oper.eF
structure Pd (w:World) (tb:Nat) (R:List Pt):Prop where
 lt:tb<w.heap.size
 row:∃ra rc,w.cell? (ae tb 0)=some (.slice ra R.length rc)/\bQ bX 3 w ra R
theorem Pd.below {w w':World} {tb:Nat} {R:List Pt} (H:Pd w tb R) (a:Below w.heap.size w w'):Pd w' tb R:=by
 have⟨d,e,b,c⟩:=H.row;exact⟨bR H.lt a.size,d,e,(a.cell (p:=(ae tb 0)) H.lt).trans b,c.below a⟩
theorem dK.Rc {w:World} {lo hi tb fb:Nat} {cnt:Int} {R:List Pt} {h:iH} {V:ni} (H:dK w lo hi tb fb R h cnt V):Pd w tb R:=by
 obtain⟨c,d,b,-,-,e⟩:=bQ.aI bg ai H.row;have a:=H.blk;rw[b]at a;exact⟨H.FD,c,d,aG a,e⟩
theorem yR {w:World} {tb:Nat} {R:List Pt} (H:Pd w tb R) (P:R.length<=20000) (g d:Option Nat) (B:∀i,g=some i->i<R.length) (C:∀i,d=some i->i<R.length):
  aK 103 #[aj tb,af (og g),af (og d)] w (fV w (af (og (lowO R g d)))):=by
 obtain⟨ao,ap,ar,J,K⟩:=H;have N:=ag K;have y:Hid (∀n,Below w.heap.size w (w.drewN n)):=fun n=>Below.bq _ n;clear K;cases g with
 |none=>
  have v:lowO R none d=d:=rfl;rw[v];generalize og d=k at*;show Calls _ _ #[_,af (-1),_] _ _;go_enter func103,ntmps103
  go_upto_region 1 with fail
  go_quiet (fail)
  go_wp2;go_ret;exact⟨rfl,y.o _⟩
 |some i=>
  have hi:=B i rfl;have al:((i:Int)==-1)=false:=by first|(simp;done)|(simp;omega)
  have am:decide ((i:Int)=-1)=false:=by first|(simp;done)|(simp;omega)
  cases d with
  |none=>
   have v:lowO R (some i) none=some i:=rfl;rw[v];show Calls _ _ #[_,af (i:Int),af (-1)] _ fun e w'=>e=.returned (af (i:Int))/\_;go_enter func103,ntmps103
   go_upto_region 1 with fail
   go_quiet (fail)
   go_wp2;go_ret;exact⟨rfl,y.o _⟩
  |some j=>
   have f:=C j rfl;have f1:((j:Int)==-1)=false:=by first|(simp;done)|(simp;omega)
   have f2:decide ((j:Int)=-1)=false:=by first|(simp;done)|(simp;omega)
   have f3:((j:Int)!=-1)=true:=by first|(simp;done)|(simp;omega)
   have a:lowO R (some i) (some j)=if CV R j i then some j else some i:=rfl;obtain⟨aq,au,O,an,c⟩:=N.o.get aa;have m:=c i hi 0 aa;have r:=c i hi 1 aa;have s:=c i hi 2 aa;have t:=c j f 0 aa;have v1:=c j f 1 aa;have u:=c j f 2 aa;simp only[bX,fw,fD,dx]at m r s t v1 u;rw[<-dG hi]at m r s;rw[<-dG f]at t v1 u;subst O;have z:Hid (CV R j i=decide (nW (bV R j) (bV R i)<0)):=by
    show _=_;unfold CV;rw[uP,qm]
   rw[z.o]at a;have A:=ag a;obtain⟨I,F⟩:∃I,I=R.length:=⟨_,rfl⟩;rw[<-F]at J P hi f;clear c z B C F a;generalize bV R i=p at*;generalize bV R j=q at*;have L:=ag (fun W=>O1 q p W);generalize nW q p=l at*;obtain⟨ab,ac,Z⟩:=p;obtain⟨ae,ak,ad⟩:=q;simp only at m r s t v1 u;have M:Hid (∀b:aQ w,aK 71 #[iT ae ak ad,iT ab ac Z] b.W fun e w'=>e=.returned (af l)/\Below b.W.heap.size b.W w'):=fun b=>L.o b.W;generalize lowO R (some i) (some j)=res at*;simp only[og];have Q:=ah J;have S:=ah m;have T:=ah r;have U:=ah s;have V:=ah t;have X:=ah v1;have Y:=ah u;go_enter func103,ntmps103
   go_upto_region 1 with fail
   refine bG aO aO ?_
   repeat(quiet_step ((go_at_call 71;exact dJ (M.o _))))
   refine jM ?_;intro w4 G;have D:Below w.heap.size w w4:=by obtain⟨b,rfl⟩:=G;exact b.h
   have x:=ag D;clear G D Q S T U V X Y;by_cases E:l<0
   .have d1:decide (l<0)=true:=by simp[E]
    have a:=A.o;rw[d1,aN rfl]at a;subst a;go_wp2;go_ret;exact⟨rfl,x.o⟩
   .have d1:decide (l<0)=false:=by simp[E]
    have a:=A.o;rw[d1,aM ai]at a;subst a;go_wp2;go_ret;exact⟨rfl,x.o⟩
def oh (R:List Pt) (x1 x2:Int):List Nat×Nat:=
 if R.length=0\/x2<x1 then([],0)
 else if iW R x1<l5 R x2 then(((dM 0 R.length).canon 0 (iW R x1) (l5 R x2)).1,(aV (bU R) x1).2+(aR (bU R) x2).2+((dM 0 R.length).canon 0 (iW R x1) (l5 R x2)).2)
 else([],(aV (bU R) x1).2+(aR (bU R) x2).2)
theorem Re {R:List Pt} {x1 x2:Int} (a:R.length=0\/x2<x1):oh R x1 x2=([],0):=by unfold oh;rw[aN a]
def Rf (w:World) (r:List Nat×Nat) (e:Ending) (w':World):Prop:=
 ∃v,e=.returned (.tuple #[v,af (r.2:Nat)])/\w'.ownsRow w.heap.size 3 1 v r.1.length (r.1.map fA)/\Below w.heap.size w w'
theorem MB {W:World} {lo hi tb fb:Nat} {cnt:Int} {R:List Pt} {h:iH} {V:ni} (b:dK W lo hi tb fb R h cnt V) (ap:R.length<=20000) (x1 x2:Int):
  aK 110 #[aj tb,af x1,af x2] W (Rf W (oh R x1 x2)):=by
 have L:=b.FD;have d:=b.blk;obtain⟨ai,ak,A⟩:=fF b.row;obtain⟨D,E,B,-,-,s⟩:=Rd.aI b.xs;rw[A,B]at d;have j:(bU R).length=R.length:=by unfold bU;rw[bT]
 rw[j]at d;have Q:W.cell? (ae tb 0)=some (.slice ai R.length ak):=aG d;have y:W.cell? (ae tb 1)=some (.slice D R.length E):=aG d;have z:W.cell? (ae tb 2)=some (aj fb):=aG d;by_cases q:R.length=0\/x2<x1
 .rw[Re q];have G:Hid (Rf W ([],0) (.returned (.tuple #[aL,af 0])) W):=⟨_,rfl,dw _ _ _ _,aJ _ _⟩;clear b d s A B y z;generalize R.length=n at*;by_cases a:n=0
  .have d0:((n:Int)==0)=true:=by simp[a]
   have d1:(n==0)=true:=by simp[a]
   have d2:decide (n=0)=true:=by simp[a]
   clear a q j;go_enter func110,ntmps110;go_wp2;go_ret2;exact G.o
  .have d0:((n:Int)==0)=false:=by simp[a]
   have d1:(n==0)=false:=by simp[a]
   have d2:decide (n=0)=false:=by simp[a]
   have f1:decide (x1>x2)=true:=aD;have f2:decide (x2<x1)=true:=aD;clear a q j;go_enter func110,ntmps110;go_wp2;go_ret2;exact G.o
 .have a:0<R.length:=aa;have t:=ag (fun W' (m:Below W.heap.size W W')=>EL D (bU R) E x1 W' (s.below m) aa);have u:=ag (fun W' (m:Below W.heap.size W W')=>EM D (bU R) E x2 W' (s.below m) aa);have ad:=gq (fun i=>decide (x1<=(bU R).getD i 0)) (bU R).length;have ah:=gq (fun i=>decide (x2<(bU R).getD i 0)) (bU R).length;have aq:(aV (bU R) x1).2<=20000:=by unfold aV;omega
  have ar:(aR (bU R) x2).2<=20000:=by unfold aR;omega
  obtain⟨al,am,an⟩:=bJ 0 R.length a;have X:=fe 0 R.length a;have Y:=(FT.qC (iW R x1) (l5 R x2) (dM 0 R.length) 0).1;have M:=QW R x2;have k:Hid (iW R x1<l5 R x2->∀W',Below W.heap.size W W'->aK 175 #[aj fb,af (iW R x1),af (l5 R x2)] W' (QX W' R.length (iW R x1) (l5 R x2))):=fun f W' m=>
   GA lo fb R.length (iW R x1) (l5 R x2) V.fv aa f M W' (b.below m b.fo.2.2.2.2).iD
  have l:Hid (oh R x1 x2=if iW R x1<l5 R x2 then(((dM 0 R.length).canon 0 (iW R x1) (l5 R x2)).1,(aV (bU R) x1).2+(aR (bU R) x2).2+((dM 0 R.length).canon 0 (iW R x1) (l5 R x2)).2)else([],(aV (bU R) x1).2+(aR (bU R) x2).2)):=by
   show oh R x1 x2=_
   conv=>lhs;unfold oh
   rw[aM q]
  have x:Hid (iW R x1=(aV (bU R) x1).1/\l5 R x2=(aR (bU R) x2).1):=⟨rfl,rfl⟩;rw[<-x.o.1,j]at t;rw[<-x.o.2,j]at u;have f1:decide (x1>x2)=false:=aD;have f2:decide (x2<x1)=false:=aD;unfold QX at k;have Z:((dM 0 R.length).canon 0 (iW R x1) (l5 R x2)).2<=40000:=aa;obtain⟨dg,J⟩:∃dg,dg=(dM 0 R.length).canon 0 (iW R x1) (l5 R x2):=⟨_,rfl⟩;rw[<-J]at k l Z;clear b d s A B q ad ah al am an X j J Y M;generalize iW R x1=fr at*;generalize l5 R x2=tu at*;generalize ab:(aV (bU R) x1).2=N at*;generalize ac:(aR (bU R) x2).2=O at*;generalize oh R x1 x2=ask at*;clear ab ac x;generalize R.length=n at*;have d0:((n:Int)==0)=false:=aD;have d1:(n==0)=false:=aD;have d2:decide (n=0)=false:=aD;go_enter func110,ntmps110
  go_wp2_with fail
  refine(t.o W (aJ _ _)).mono ?_;rintro e w1 ⟨rfl,C⟩;have S:=(C.cell (p:=(ae tb 1)) L).trans y;have r:=ag C;clear C
  go_wp2_with fail
  refine(u.o w1 r.o).mono ?_;rintro e w2 ⟨rfl,H⟩;have g:Hid (Below W.heap.size W w2):=r.o.trans (H.mono r.o.size);have ao:=(g.o.cell (p:=(ae tb 2)) L).trans z;clear H S t u r Q y z;by_cases f:fr<tu
  .have T:decide ((tu:Int)<=(fr:Int))=false:=aD;have U:decide (tu<=fr)=false:=aD;have c:=l.o;rw[aN f]at c;have P:=ag c;have F:=ag (k.o f w2 g.o);clear c f k l
   go_wp2_with fail
   refine F.o.mono ?_;rintro e w3 ⟨v,rfl,K,I⟩;have w:Hid (Rf W ask (.returned (.tuple #[v,af ((N+O+dg.2:Nat):Int)])) w3):=by
    rw[P.o];exact⟨v,rfl,bH K g.o.size,g.o.trans (I.mono g.o.size)⟩
   clear K I F;go_wp2;go_ret2;exact w.o
  .have T:decide ((tu:Int)<=(fr:Int))=true:=aD;have U:decide (tu<=fr)=true:=aD;have c:=l.o;rw[aM f]at c;have w:Hid (Rf W ask (.returned (.tuple #[aL,af ((N+O:Nat):Int)])) w2):=by
    rw[c];exact⟨_,rfl,dw _ _ _ _,g.o⟩
   clear c f k l;go_wp2;go_ret2;exact w.o
theorem Rh {R:List Pt} {x1 x2:Int}:∀k∈(oh R x1 x2).1,k<(aW R.length).length:=fun k a=>by
 unfold oh at a;by_cases b:R.length=0\/x2<x1
 .rw[aN b]at a;exact absurd a iA
 .rw[aM b]at a;by_cases c:iW R x1<l5 R x2
  .rw[aN c]at a;exact FT.OY _ 0 (jT R.length aa) k a
  .rw[aM c]at a;exact absurd a iA
theorem MC {R:List Pt} (d:R.length<=20000) (x1 x2:Int):(oh R x1 x2).1.length<=40000/\(oh R x1 x2).2<=100000:=by
 unfold oh;by_cases a:R.length=0\/x2<x1
 .rw[aN a];simp
 .rw[aM a];have f:=gq (fun i=>decide (x1<=(bU R).getD i 0)) (bU R).length;have h:=gq (fun i=>decide (x2<(bU R).getD i 0)) (bU R).length;have k:(bU R).length=R.length:=by unfold bU;rw[bT]
  have g:(aV (bU R) x1).2<=20000:=by unfold aV;omega
  have j:(aR (bU R) x2).2<=20000:=by unfold aR;omega
  have e:=fe 0 R.length aa;have c:=FT.qC (iW R x1) (l5 R x2) (dM 0 R.length) 0;by_cases b:iW R x1<l5 R x2
  .rw[aN b];exact⟨bD c.2 aa,by have:=c.1;simp only;omega⟩
  .rw[aM b];exact⟨aA,by show _+_<=_;omega⟩
theorem KR {R:List Pt} {gone:List Bool} {YS:List Nat} {N:List Nd} (b:cu R gone YS) (c:List Nat):∀i,sK R N YS c=some i->i<R.length:=by
 intro i h;have a:=GK (N:=N) b c none (fun _=>False) (fun _ h=>h.elim) (fun _ h=>h);unfold sK at h;rw[h]at a;rcases a.1 with h2|h2
 .exact h2.elim
 .obtain⟨k,-,d⟩:=xQ.1 h2;exact DI b d
theorem om {P:Program} {fn:Func} {p q r:Tmp} {ty:TypeId} (h:fn.results=#[.cell p ty,.tmp q,.tmp r]) (a:Array Value) (w:World) (g:Nat) (t:TypeId) (cs:Array Value) (fr:Nat×Nat) (d:TypeDesc) (b c:Value)
  (hp:a.getD p undef=aj g) (e:a.getD q undef=b) (i:a.getD r undef=c) (k:w.heap[g]? =some (.cells cs t fr))
  (hu:P.underlying ty=some d) (hd:(match d with|.struct _|.array _ _=>true|_=>false)=true) (hi:(P.info? ty).map (·.size)=some cs.size):
  (results fn a).run P w=.ok (.tuple #[.agg cs,b,c]) w:=by
 have l:a[p]?.getD undef=aj g:=aP hp;have f:a[q]?.getD undef=b:=aP e;have j:a[r]?.getD undef=c:=aP i;simp[results,h,l,f,j,asAddr,run_loadVar_row w g t ty cs fr d k hu hd hi]
theorem JG {w:World} {lo hi tb fb:Nat} {cnt:Int} {R:List Pt} {gone:List Bool} {YS:List Nat} {V:ni} (f:dK w lo hi tb fb R (kV (aW R.length) YS) cnt V) (ah:cu R gone YS) (I:R.length<=20000) (x1 x2:Int):
  aK 42 #[aj tb,af x1,af x2] w fun e w'=>(∃p:Pt,p=((sK R (aW R.length) YS (oh R x1 x2).1).map (bV R)).getD (0,0,0)/\e=.returned (.tuple #[iT p.1 p.2.1 p.2.2,.bool (sK R (aW R.length) YS (oh R x1 x2).1).isSome,af ((oh R x1 x2).2:Nat)]))/\Below w.heap.size w w':=by
 obtain⟨aw,ax⟩:=MC I x1 x2;have F:=ag (Rh (R:=R) (x1:=x1) (x2:=x2));have C:=ag (fun W (aQ:Below w.heap.size w W)=>MB (f.below aQ f.fo.2.2.2.2) I x1 x2);obtain⟨ask,ai⟩:∃ask,ask=oh R x1 x2:=⟨_,rfl⟩;rw[<-ai]at C F aw ax |-;clear ai;obtain⟨a,gP⟩:=ask;simp only at aw ax F |-;have g:=ag f;have G:=ag ah;have a6:=f.FD;obtain⟨w1,q⟩:∃w1,w1=w.alloc (.cells #[af 0,af 0,ay 0] 29):=⟨_,rfl⟩;have ak:Below w.heap.size w w1:=by rw[q];exact(aJ _ _).alloc (aB _) _
 have az:w1.heap[w.heap.size]? =some (yH (0,0,0)):=by rw[q];exact cB w _
 have l:=ag ak;have H:=ag az;have S:=ag q;clear q ak az f ah;go_enter func42,ntmps42
 go_upto_region 1 with fail
 rw[<-S.o];clear S
 go_wp2_with fail
 refine(C.o w1 l.o).mono ?_;rintro e w2 ⟨v,rfl,av,K⟩;have m:=ag (l.o.trans (K.mono l.o.size));have aS:w.heap.size<w1.heap.size:=(aZ.1 H.o).1;have Z:=ag ((K.block w.heap.size aS).trans H.o);have aT:w.heap.size<w2.heap.size:=(aZ.1 Z.o).1;obtain⟨a7,a8,rfl,-,-,ap⟩:=Rd.aI (enc:=fA) av;have aD:=ag ap;clear av ap K C l H;go_wp2
 go_loopw [11,23] (fun bv O wr=>∃j:Nat,O=.int .i64 j/\j<=a.length/\bv=.int .i64 (og (sK R (aW R.length) YS (a.take j)))/\Hid (Below w2.heap.size w2 wr)) (fun _ O _=>a.length-(intOf O).toNat)
 case atStart=>exact⟨0,rfl,aX _,rfl,ag (aJ _ _)⟩
 case round=>
  obtain⟨j,rfl,a2,rfl,c⟩:=hrel;by_cases L:j<a.length
  .have a3:(j:Int)<(a.length:Int):=aa;have ao:=F.o a[j] (bB L);have aP:0<R.length:=by have:=df R.length;omega
   have aC:=ag (m.o.trans (c.o.mono (by have:=m.o.size;omega)));have r:=g.o.below aC.o (by have:=g.o.fo;omega);obtain⟨aN,ch,ac,-,-,-,-,a1,am,-⟩:=r.holds aP;have J:=r.blk;rw[ac]at J;have aF:wr.cell? (ae tb 4)=some (au aN (aW R.length).length ch):=aG J;have aH:=(am a[j] ao).1;have P:=ag (yR r.Rc I (sK R (aW R.length) YS (a.take j)) (kV (aW R.length) YS a[j]) (KR G.o _) (fun i h=>BQ G.o h));have aE:Hid (sK R (aW R.length) YS (a.take (j+1))=lowO R (sK R (aW R.length) YS (a.take j)) (kV (aW R.length) YS a[j])):=by
    show _=_;rw[gW L,Mk]
   obtain⟨b,off,ab,a0,an⟩:=(aD.o.below c.o).get aa;have aU:=an j L;simp only[fA]at aU;have Q:=ag ab;have aR:(aW R.length).length<=40000:=by rw[df];omega
   obtain⟨M,ad⟩:∃M,M=(aW R.length).length:=⟨_,rfl⟩;rw[<-ad]at aF ao aR;clear am an J ac r ab ad;generalize lowO R (sK R (aW R.length) YS (a.take j)) (kV (aW R.length) YS a[j])=a9 at*;generalize kV (aW R.length) YS a[j]=bk at*;generalize sK R (aW R.length) YS (a.take j)=aV at*;generalize a[j]=k at*;obtain rfl:=Q.o;clear Q
   go_wp2_with fail
   refine P.o.mono ?_;rintro e w3 ⟨rfl,al⟩;have d:=ag (c.o.trans (al.mono c.o.size));clear al P;go_wp2;go_roundw
   case rel=>exact⟨j+1,by go_num,aa,by rw[aE.o],d⟩
   case measure=>exact dU
  .obtain rfl:j=a.length:=aa;rw[jk]at*;have ar:=KR (N:=aW R.length) G.o a;generalize aq:sK R (aW R.length) YS a=o at*;have HO:=ag aq;clear aq;have d:=ag (m.o.trans (c.o.mono (by have:=m.o.size;omega)));have n:=ag ((c.o.block w.heap.size aT).trans Z.o);obtain⟨w3,aM⟩:∃w3:World,w3=wr:=⟨_,rfl⟩;subst aM;cases o with
   |none=>
    simp only[og,lJ,mM,Option.isSome_none];have T:=vw w3 w.heap.size _ #[af 0,af 0,ay 0] _ _ n.o;have U:=below_setRow d.o (aB w.heap.size) #[af 0,af 0,ay 0];have D:=ag T;have E:=ag U;clear T U
    go_wp2_with (refine xL rfl 29 (.tmp 6) (.tmp 40) rfl rfl w.heap.size #[af 0,af 0,ay 0] rfl rfl _ _ n.o aO rfl (by simp[Value.oneCell']) ?_)
    refine kY (om rfl _ _ w.heap.size _ _ _ _ (.bool false) (.int .i64 (gP:Nat)) rfl rfl rfl D.o underlying29 rfl aO) rfl ?_;exact⟨⟨(0,0,0),by first|rfl|(rw[HO.o];rfl),by first|rfl|(rw[HO.o];rfl)⟩,E.o⟩
   |some i=>
    have s:=ar i rfl;have aH:((i:Int)==-1)=false:=by first|(simp;done)|(simp;omega)
    have aY:decide ((i:Int)=-1)=false:=by first|(simp;done)|(simp;omega)
    obtain⟨a4,bb,bd,ba,aA⟩:=(g.o.below d.o (by have:=g.o.fo;omega)).Rc;obtain⟨bc,be,aL,a5,t⟩:=aA.get aa;have z:=t i s 0 aa;have A:=t i s 1 aa;have B:=t i s 2 aa;simp only[bX,fw,fD,dx]at z A B;rw[<-dG s]at z A B;subst aL;simp only[og,fP,gG,Option.isSome_some];have X:Hid (∃p,p=bV R i):=⟨_,rfl⟩;obtain⟨p,hp⟩:=X.o;have Y:=ag hp;rw[<-hp]at z A B;clear hp X;obtain⟨u,x,y⟩:=p;simp only at z A B;clear t aA ar;have D:=ag (vw w3 w.heap.size _ #[af u,af x,ay y] _ _ n.o);have E:=ag (below_setRow d.o (aB w.heap.size) #[af u,af x,ay y])
    go_wp2_with (refine xL rfl 29 (.tmp 6) (.tmp 48) rfl rfl w.heap.size #[af u,af x,ay y] rfl rfl _ _ n.o aO rfl (by simp[Value.oneCell']) ?_)
    refine kY (om rfl _ _ w.heap.size _ _ _ _ (.bool true) (.int .i64 (gP:Nat)) rfl rfl rfl D.o underlying29 rfl aO) rfl ?_;exact⟨⟨(u,x,y),by first|exact Y.o|(rw[HO.o];exact Y.o),by first|rfl|(rw[HO.o];rfl)⟩,E.o⟩
end
section
open Go Go.RowKit
namespace FT
theorem vQ:∀(t:FT) (s x:Nat),t.wf->t.lo<=x->x<t.hi->
  (∀i k,(t.path s x)[i]? =some k->i+1<(t.path s x).length->∃l r b,(node l r,b)∈t.subs s/\(node l r).root b=k)/\
  ∃L k,t.path s x=L++[k]/\(leaf x,k)∈t.subs s
 |leaf a,s,x,h,g,j=>by
  have o:a=x:=by simp only[lo,hi]at g j;omega
  subst o;refine⟨fun i k hi c=>?_,[],s,by rw[path];rfl,by simp[subs]⟩;rw[path]at c;simp at c
 |node l r,s,x,h,g,j=>by
  have w:=h.2.2;have key:∀(t:FT) (b:Nat),(∀p∈t.subs b,p∈(node l r).subs s)->(node l r).path s x=(node l r).root s::t.path b x->
    ((∀i k,(t.path b x)[i]? =some k->i+1<(t.path b x).length->∃l r f,(node l r,f)∈t.subs b/\(node l r).root f=k)/\∃L k,t.path b x=L++[k]/\(leaf x,k)∈t.subs b)->
    (∀i k,((node l r).path s x)[i]? =some k->i+1<((node l r).path s x).length->∃l' d b,(node l' d,b)∈(node l r).subs s/\(node l' d).root b=k)/\∃L k,(node l r).path s x=L++[k]/\(leaf x,k)∈(node l r).subs s:=fun t b n e ⟨q,L,k,u,v⟩=>by
   rw[e];refine⟨fun i k hi c=>?_,(node l r).root s::L,k,by rw[u];rfl,n _ v⟩
   match i with
   |0=>
    simp only[fw]at hi;injection hi with hi;exact⟨l,r,s,by simp[subs],hi⟩
   |i+1=>
    simp only[fD]at hi;have⟨l',d,f,m1,m2⟩:=q i k hi (aP c);exact⟨l',d,f,n _ m1,m2⟩
  by_cases m:x<l.hi
  .exact key l s (fun p hp=>by simp[subs,hp]) (by rw[path,aN m]) (vQ l s x h.1 g m)
  .exact key r (s+l.size) (fun p hp=>by simp[subs,hp]) (by rw[path,aM m]) (vQ r _ x h.2.1 aa j)
end FT
def yS (N:List Nd) (YS We:List Nat) (P:List Nat) (m:Nat):iH:=fun k=>if k∈P.take m then kV N YS k else kV N We k
section
variable {R:List Pt} {gone RZ:List Bool} {YS:List Nat} {x:Nat}
theorem ME (g:x<R.length) {k:Nat} (c:k<(aW R.length).length) (hP:k∉(dM 0 R.length).path 0 x):kV (aW R.length) (dW YS x) k=kV (aW R.length) YS k:=by
 have b:0<R.length:=aa;have⟨t,s,a,e⟩:=tK c;subst e;have⟨w1,w2,w3⟩:=bJ 0 R.length b;have d:=FT.at_mem (fH b▸a);have f:¬(t.lo<=x/\x<t.hi):=fun h=>hP (FT.wM _ 0 x w1 (t,s) d h.1 h.2);unfold kV;rw[BP a,BP a];congr 1;unfold nl dW;rw[pg];apply oD;intro i _;by_cases e:i=x
 .subst e;simp[f]
 .simp[e]
structure Pe (R:List Pt) (YS:List Nat) (x:Nat) (P:List Nat):Prop where
 lt:∀k∈P,k<(aW R.length).length
 down:P.Pairwise (·>·)
 aside:∀k,k<(aW R.length).length->k∉P->kV (aW R.length) (dW YS x) k=kV (aW R.length) YS k
 inner:∀i (h:i+1<P.length),∃l r s,FT.At (aW R.length) (.node l r) s/\(FT.node l r).wf/\(FT.node l r).root s=P[i]'(rz h)
 last:∃h:P.length-1<P.length,FT.At (aW R.length) (.leaf x) P[P.length-1]
theorem Tt (YS:List Nat) (m:x<R.length):Pe R YS x ((dM 0 R.length).path 0 x):=by
 have a:0<R.length:=aa;have⟨w1,w2,w3⟩:=bJ 0 R.length a;have g:=jT R.length a;have d:=g;rw[fH a]at d;have c:∀p∈(dM 0 R.length).subs 0,FT.At (aW R.length) p.1 p.2:=fun p hp=>by rw[fH a];exact FT.kR _ 0 d _ hp
 have⟨n,L,k,f,o⟩:=FT.vQ (dM 0 R.length) 0 x w1 aa aa;refine⟨fun k b=>?_,FT.tC _ 0 x w1 aa aa,fun k b hP=>ME m b hP,fun i h=>?_,?_⟩
 .obtain⟨p,hp,e,-⟩:=FT.mW _ 0 x w1 aa aa k b;rw[<-e];exact(c p hp).lt
 .obtain⟨l,r,s,m1,m2⟩:=n i _ (cz (rz h)) h;exact⟨l,r,s,c _ m1,FT.qi _ 0 w1 _ m1,m2⟩
 .have j:((dM 0 R.length).path 0 x).length-1<((dM 0 R.length).path 0 x).length:=by rw[f];simp
  refine⟨j,?_⟩;have e:((dM 0 R.length).path 0 x)[((dM 0 R.length).path 0 x).length-1]=k:=by simp[f]
  rw[e];exact c _ o
variable {P:List Nat} (hP:Pe R YS x P)
include hP
theorem Pe.sorted {i j:Nat} (a:i<j) (b:j<P.length):P[j]<P[i]:=gQ.1 hP.down i j aa b a
theorem Pe.Ce {m k:Nat} (b:m<P.length) (d:k<=P[m]) (h:k∈P.take m):False:=by
 have⟨i,hi,e⟩:=jb h;have a:i<m:=by simp at hi;omega
 have c:P[i]'aa=k:=by rw[<-e];simp
 have:=hP.sorted a b;omega
theorem MF (c:cu R RZ (dW YS x)) (k:Nat) (g:k<(aW R.length).length):gy (kV (aW R.length) YS) (P[P.length-1]'hP.last.1) none k=yS (aW R.length) YS (dW YS x) P (P.length-1) k:=by
 have⟨j,d⟩:=hP.last;unfold yS;by_cases e:k=P[P.length-1]
 .subst e;rw[fU,aM (fun h=>hP.Ce j (aB _) h),BR c d,aM (by simp[dW])]
 .rw[iq e];by_cases h:k∈P.take (P.length-1)
  .rw[aN h]
  .rw[aM h];refine(hP.aside k g fun b=>?_).symm;have⟨i,hi,a⟩:=jb b;by_cases f:i=P.length-1
   .subst f;exact e a.symm
   .exact h (by rw[<-a];exact List.mem_take_iff_getElem.2 ⟨i,aa,rfl⟩)
theorem Pf (g:cu R RZ (dW YS x)) {m:Nat} (a:m+1<P.length):∃l r s,FT.At (aW R.length) (.node l r) s/\(FT.node l r).root s=P[m]'(rz a)/\
  yS (aW R.length) YS (dW YS x) P (m+1) (l.root s)=kV (aW R.length) (dW YS x) (l.root s)/\yS (aW R.length) YS (dW YS x) P (m+1) (r.root (s+l.size))=kV (aW R.length) (dW YS x) (r.root (s+l.size))/\
  ∀k,gy (yS (aW R.length) YS (dW YS x) P (m+1)) (P[m]'(rz a)) (lowO R (kV (aW R.length) (dW YS x) (l.root s)) (kV (aW R.length) (dW YS x) (r.root (s+l.size)))) k=yS (aW R.length) YS (dW YS x) P m k:=by
 have⟨l,r,s,c,i,e⟩:=hP.inner m a;have d:l.root s<(FT.node l r).root s/\r.root (s+l.size)<(FT.node l r).root s:=by
  have:=l.size_pos;have:=r.size_pos;have j:(FT.node l r).size=l.size+r.size+1:=rfl;unfold FT.root;omega
 have f:∀k,k<(FT.node l r).root s->k∉P.take (m+1):=fun k b h=>by
  rw[e]at b;rw[gW (rz a),bP,lW]at h;rcases h with h|h
  .exact hP.Ce (rz a) (uY b) h
  .omega
 refine⟨l,r,s,c,e,aM (f _ d.1),aM (f _ d.2),fun k=>?_⟩;by_cases b:k=P[m]
 .subst b;rw[fU];unfold yS;rw[aM (fun h=>hP.Ce (rz a) (aB _) h),<-e,GJ g c i]
 .rw[iq b];unfold yS;have:k∈P.take (m+1)↔k∈P.take m:=by
   rw[gW (rz a),bP,lW];exact⟨fun h=>h.resolve_right b,.inl⟩
  simp only[this]
theorem Pg:yS (aW R.length) YS (dW YS x) P 0=kV (aW R.length) (dW YS x):=by
 have _:=hP;funext k;unfold yS;rw[xS,aM iA]
end
end
section
open Go.RowKit Go.Sort Go.Shelf Go.Lib Go.Maps
attribute [local irreducible] wpQuiet
attribute [local go_sem] Oper.eF
theorem Cf:gF 103:=di func103 aO rfl
def JH (w:World) (lo hi tb fb:Nat) (R:List Pt) (YS:List Nat) (cnt:Int) (V:ni) (x:Nat) (e:Ending) (w':World):Prop:=
 (x∉YS/\e=.returned (.bool false)/\Below w.heap.size w w')\/(x∈YS/\e=.returned (.bool true)/\dK w' lo hi tb fb R (kV (aW R.length) (dW YS x)) (cnt-1) V/\ax (fun k=>lo<=k/\k<hi) w w')
theorem GX {w:World} {lo hi tb fb:Nat} {R:List Pt} {gone:List Bool} {YS:List Nat} {cnt:Int} {V:ni} (H:dK w lo hi tb fb R (kV (aW R.length) YS) cnt V) (aS:cu R gone YS) (c6:R.length<=20000) (dI:0<=cnt) (dL:cnt<=20000) {x:Nat} (J:x<R.length) (p:Pt) (hp:R[x]=p):
  aK 127 #[aj tb,iT p.1 p.2.1 p.2.2] w (JH w lo hi tb fb R YS cnt V x):=by
 have A:=H.blk;have dh:=H.FD;have B:=H.fo;obtain⟨bP,bR,b4,-,-,bH⟩:=bQ.aI bg ai H.row;rw[b4]at A;have CB:=ag (fun W (A:Below w.heap.size w W)=>OE bP R R.length bR p W rfl aa (bH.below A) aS.A9);have aX:=E8 aS.A9 J;rw[hp]at aX;rw[aX.1,aX.2]at CB;have cM:=ag bH;have co:bV R x=p:=by rw[dG J];exact hp
 have cL:=ag co;have az:=ag J;obtain⟨bc,bd,bb⟩:=p;obtain⟨w1,aE⟩:∃w1,w1=w.alloc (.cells #[af bc,af bd,ay bb] 29):=⟨_,rfl⟩;have bu:Below w.heap.size w w1:=by rw[aE];exact(aJ _ _).alloc (aB _) _
 have ac:w1.heap[w.heap.size]? =some (.cells #[af bc,af bd,ay bb] 29 (0,0)):=by rw[aE];exact cB w _
 have bF:w.heap.size<w1.heap.size:=(aZ.1 ac).1;have aY:=(bu.block tb dh).trans A;have T:w1.cell? (ae tb 0)=some (.slice bP R.length bR):=aG aY;have a8:w1.cell? (ae w.heap.size 0)=some (af bc):=aG ac;have a9:w1.cell? (ae w.heap.size 1)=some (af bd):=aG ac;have ba:w1.cell? (ae w.heap.size 2)=some (ay bb):=aG ac;have dg:0<R.length:=aa;have cs:=J;obtain⟨n,bE⟩:∃n,n=R.length:=⟨_,rfl⟩;rw[<-bE]at c6 T CB dg cs;have u:=ag bE;have ao:=ag bu;have bY:=ag H;have bm:=ag aS;have b2:=ag (Tt YS J);have di:tb<w1.heap.size:=aa;clear H bH A b4 bE bu ac aY aX hp J aS co;have d0:((n:Int)==0)=false:=aD;have d1:(n==0)=false:=aD;have d2:decide (n=0)=false:=aD;go_enter func127,ntmps127
 go_upto_region 1 with fail
 rw[<-aE];clear aE
 go_upto_region 3 with fail
 have b0:Hid (∀b:aQ w1,aK 191 #[.slice bP n bR,iT bc bd bb,.func (.func 94) #[] #[]] b.W fun e w'=>e=.returned (.tuple #[af (x:Nat),.bool true])/\Below b.W.heap.size b.W w'):=fun b=>CB.o b.W (ao.o.trans (b.h.mono ao.o.size));clear CB;have c0:=ah T;have c1:=ah a8;have c2:=ah a9;have c3:=ah ba;refine bG aO aO ?_
 repeat(quiet_step ((go_at_call 191;exact dJ (b0.o _))))
 refine jM ?_;intro wc cr;have I:Below w1.heap.size w1 wc:=by obtain⟨b,rfl⟩:=cr;exact b.h
 have T:=(I.cell (p:=(ae tb 0)) di).trans T;have a8:=(I.cell (p:=(ae w.heap.size 0)) bF).trans a8;have a9:=(I.cell (p:=(ae w.heap.size 1)) bF).trans a9;have ba:=(I.cell (p:=(ae w.heap.size 2)) bF).trans ba;have Q:Hid (Below w.heap.size w wc):=ao.o.trans (I.mono ao.o.size);clear cr I c0 c1 c2 c3 b0;have av:Hid (dK wc lo hi tb fb R (kV (aW R.length) YS) cnt V):=bY.o.below Q.o B.2.2.2.2;have cg:=av.o.blk;have bn:wc.cell? (ae tb 2)=some (aj fb):=aG cg;obtain⟨b,off,cX,c8,c⟩:=(cM.o.below Q.o).get (by have:=u.o;omega);have bM:=c x az.o 0 aa;have bN:=c x az.o 1 aa;have bO:=c x az.o 2 aa;rw[<-dG az.o,cL.o]at bM bN bO;simp only[bX,fw,fD,dx]at bM bN bO;subst cX;clear c cg bY
 go_upto_region 4 with fail
 go_quiet (fail)
 obtain⟨w3,aL⟩:∃w3,w3=wc.drewN nq:=⟨_,rfl⟩;have bv:Below wc.heap.size wc w3:=by rw[aL];exact Below.bq _ _
 have bn:w3.cell? (ae tb 2)=some (aj fb):=by rw[aL];exact bn
 have ar:Hid (dK w3 lo hi tb fb R (kV (aW R.length) YS) cnt V):=av.o.below bv av.o.fo.2.2.2.2;have ap:Hid (Below w.heap.size w w3):=Q.o.trans (bv.mono Q.o.size);have bU:=ag (vF lo fb n x V.fv aa cs w3 (by rw[u.o];exact ar.o.iD))
 go_upto_region 6 with fail
 rw[<-aL];clear aL bv av Q bM bN bO a8 a9 ba T c8
 go_wp2_with fail
 refine bU.o.mono ?_;rintro e w4 ⟨pv,rfl,a3,bw⟩;have S:Hid (dK w4 lo hi tb fb R (kV (aW R.length) YS) cnt V):=ar.o.below bw ar.o.fo.2.2.2.2;have bZ:Hid (Below w.heap.size w w4):=ap.o.trans (bw.mono ap.o.size);have dX:w.heap.size<=w3.heap.size:=ap.o.size;obtain⟨P,aR⟩:∃P,P=(dM 0 n).path 0 x:=⟨_,rfl⟩;have dF:P.length<=n+1:=by
  have b5:=FT.oF (dM 0 n) 0 x;have dE:=vB 0 n n (uY (Eh));rw[aR];omega
 rw[<-aR]at a3;have D:Hid (Pe R YS x P):=by rw[aR,u.o];exact b2.o
 clear aR;obtain⟨dz,cx,rfl,-,-,ad⟩:=Rd.aI (enc:=fA) a3;have bl:Hid (w4.ownsRow w3.heap.size 3 1 (.slice dz P.length cx) P.length (P.map fA)):=a3;obtain⟨cl,b7⟩:=D.o.last;have a1:=D.o.lt _ (bB cl);obtain⟨aA,bL,cY,dH,b9⟩:=ad.get aa;have bi:=b9 (P.length-1) cl;simp only[fA]at bi;obtain⟨F,ch,br,ci,cj,db,-,dN,c,-⟩:=S.o.holds (by have:=u.o;omega);obtain⟨q,O⟩:=c _ a1;rw[show kV (aW R.length) YS P[P.length-1]=if x∈YS then some x else none from BR bm.o b7]at q;have Z:=S.o.blk;rw[br]at Z;have E:w4.cell? (ae tb 4)=some (au F (aW R.length).length ch):=aG Z;have cU:w4.cell? (ae tb 5)=some (af cnt):=aG Z;have dB:w4.frozen? (ae tb 5)=false:=aG Z;have cD:=ag br;have cI:Hid (P[P.length-1]=P[P.length-1]):=rfl;have c5:(aW R.length).length<=40000:=by have:=u.o;rw[df];omega
 have cW:((P.length-1:Nat):Int)=(P.length:Int)-1:=aa;have dY:=S.o.FD;have dO:F≠tb:=db;obtain⟨lf,bC⟩:∃lf,lf=P[P.length-1]:=⟨_,rfl⟩;obtain⟨M,bt⟩:∃M,M=(aW R.length).length:=⟨_,rfl⟩;rw[<-bC]at bi q O a1;rw[<-bt]at E a1 c5;have cH:=ag bC;have bk:=ag bt;obtain⟨m1,bD⟩:∃m1,m1=P.length-1:=⟨_,rfl⟩;rw[<-bD]at bi;have dS:(P.length:Int)-1=(m1:Int):=aa;have dT:(m1:Int)<(P.length:Int):=aa;have dU:m1<P.length:=aa;have cJ:=ag bD;clear bD;subst cY;clear Z br c a3 ad bw bU ar ap bn b9 bC bt b7 cW cI;by_cases z:x∈YS
 .rw[aN z]at q;simp only[og]at q;have b6:=bm.o.drop ((bm.o.live x).1 z);have aw:=ag b6;have dC:((x:Int)==-1)=false:=by first|(simp;done)|(simp;omega)
  have dD:decide ((x:Int)=-1)=false:=by first|(simp;done)|(simp;omega)
  have cP:=ag z;obtain⟨bS,U⟩:∃bS,bS=w4.setCell (ae F lf) (.int .i64 (-1)):=⟨_,rfl⟩;obtain⟨w6,X⟩:∃w6,w6=bS.setCell (ae tb 5) (.int .i64 (cnt-1)):=⟨_,rfl⟩;have cK:Hid (dK w6 lo hi tb fb R (yS (aW R.length) YS (dW YS x) P m1) (cnt-1) V):=by
   rw[X,U];have b5:=((S.o.nM cD.o (by rw[<-bk.o];exact a1) none).BG (cnt-1));refine b5.congr fun k de=>?_;rw[cH.o,cJ.o];exact(MF D.o aw.o k de).symm
  have cF:Hid (ax (fun k=>lo<=k/\k<hi) w w6):=by
   rw[X,U];exact((((ax.refl _ w).below bZ.o).set (a:=(ae F lf)) _ (.inl ⟨ci,cj⟩)).set (a:=(ae tb 5)) _ (.inl ⟨B.1,B.2.1⟩))
  have b3:Hid (w6.ownsRow w3.heap.size 3 1 (.slice (some (ae aA bL)) P.length cx) P.length (P.map fA)):=by
   have bK:ax (fun k=>lo<=k/\k<hi) w4 w6:=by rw[X,U];exact(((ax.refl _ w4).set (a:=(ae F lf)) _ (.inl ⟨ci,cj⟩)).set (a:=(ae tb 5)) _ (.inl ⟨B.1,B.2.1⟩))
   exact aT bl.o bK (fun g e G=>by have:=(bl.o.lt g e).1;have:=G.2;have:=B.2.2.2.2;omega)
  have b1:Hid (w6=(w4.setCell (ae F lf) (.int .i64 (-1))).setCell (ae tb 5) (.int .i64 (cnt-1))):=by rw[X,U];rfl
  clear U X b6 z S bl b2
  go_upto_region 12 with fail
  rw[<-b1.o];clear b1 E cU dB q O bi;go_wp2
  go_loopw [10] (fun bI wr=>∃(m:Nat) (i:Int),bI=.int .i64 i/\i=(m:Int)-1/\m<=m1/\Hid (dK wr lo hi tb fb R (yS (aW R.length) YS (dW YS x) P m) (cnt-1) V)/\Hid (ax (fun k=>lo<=k/\k<hi) w6 wr)) (fun bI _=>(intOf bI+1).toNat)
  case atStart=>exact⟨m1,_,rfl,aa,aB _,cK,ag (ax.refl _ _)⟩
  case round=>
   obtain⟨m,i,rfl,dd,dV,t,bj⟩:=hrel;by_cases dR:0<m
   .obtain⟨j,rfl⟩:∃j,m=j+1:=⟨m-1,aa⟩;obtain rfl:i=(j:Int):=aa;clear dd;obtain⟨l,r,s,aU,cf,cd,ce,cq⟩:=Pf D.o aw.o (m:=j) aa;have ck:j<P.length:=aa;have dQ:(j:Int)<(P.length:Int):=aa;have cz:=aT b3.o bj.o (fun g e G=>by have:=(b3.o.lt g e).1;have:=G.2;have:=B.2.2.2.2;omega);obtain⟨_,_,aC,-,-,ad⟩:=Rd.aI (enc:=fA) cz;injection aC with aC _ _;obtain⟨cR,dy,bp,da,ca⟩:=ad.get aa;obtain⟨rfl,rfl⟩:aA=cR/\bL=dy:=by rw[<-aC]at bp;simpa using bp
    have an:=ca j ck;simp only[fA]at an;obtain⟨c4,dw,cn,env,cy⟩:=t.o.nodes (by have:=u.o;omega);obtain⟨v,cV,bs,aY,dc,dP,-,a0,c,-⟩:=t.o.holds (by have:=u.o;omega);obtain⟨-,n0,al,am,a4,a5,a6,a7⟩:=mR cy aU.get;have a2:=D.o.lt _ (bB ck);have cm:=aU.left.lt;have cp:=aU.right.lt;obtain⟨q,O⟩:=c _ a2;obtain⟨y1,-⟩:=c _ cm;obtain⟨y2,-⟩:=c _ cp;rw[cd]at y1;rw[ce]at y2;have aV:=t.o.blk;rw[env,bs]at aV;have bo:wr.cell? (ae tb 3)=some (.slice (some (ae c4 dw)) (aW R.length).length cn):=aG aV;have E:wr.cell? (ae tb 4)=some (au v (aW R.length).length cV):=aG aV;have cb:((FT.node l r).top s).l=((l.root s:Nat):Int):=by show((s+l.size:Nat):Int)-1=_;unfold FT.root;have:=l.size_pos;omega
    have cc:((FT.node l r).top s).r=((r.root (s+l.size):Nat):Int):=by show((s+l.size+r.size:Nat):Int)-1=_;unfold FT.root;have:=r.size_pos;omega
    rw[cb]at al;rw[cc]at am;have c7:=t.o.FD;have bT:=ag (fun W (A:Below wr.heap.size wr W)=>yR (t.o.Rc.below A) (by have:=u.o;omega) (kV (aW R.length) (dW YS x) (l.root s)) (kV (aW R.length) (dW YS x) (r.root (s+l.size))) (fun i h=>BQ aw.o h) (fun i h=>BQ aw.o h));have cN:=ag cq;have cE:=ag bs;rw[cf]at n0 al am a4 a5 a6 a7;rw[<-bk.o]at bo E a2 cm cp;obtain⟨N,bA⟩:∃N,N=P[j]:=⟨_,rfl⟩;have cG:=ag bA;rw[<-bA]at an n0 al am a4 a5 a6 a7 q O a2;clear bA cf cq cd ce aV env bs c cy ca cz ad aC bp cb cc aU;generalize lowO R (kV (aW R.length) (dW YS x) (l.root s)) (kV (aW R.length) (dW YS x) (r.root (s+l.size)))=cw at*;generalize kV (aW R.length) (dW YS x) (l.root s)=cQ at*;generalize kV (aW R.length) (dW YS x) (r.root (s+l.size))=cS at*;generalize l.root s=kl at*;generalize r.root (s+l.size)=kr at*;generalize(FT.node l r).top s=d at*;obtain⟨f,aP⟩:∃f,f=(wr.alloc (.cells #[.int .u8 d.kind,af kl,af kr,af d.fr,af d.Kc,af 0,af d.item] 163)).drew:=⟨_,rfl⟩;have y:Below wr.heap.size wr f:=by rw[aP];exact((aJ _ _).alloc (aB _) _).drew
    have L:f.heap[wr.heap.size]? =some (.cells #[.int .u8 d.kind,af kl,af kr,af d.fr,af d.Kc,af 0,af d.item] 163 (0,0)):=by rw[aP];exact cB wr _
    have aq:=ag y;have cO:=ag L;have bW:=ag aP;clear aP y L;have bJ:=ah bo;have dv:=ah an;have dm:=ah n0;have dn:=ah al;have dp:=ah am;have dq:=ah a4;have dr:=ah a5;have ds:=ah a6;have dt:=ah a7
    go_upto_region 15 with fail
    refine ak (fun W=>∃p:aQ wr,W=p.W) [11] [(0,false),(1,false),(2,false),(3,true),(4,false),(5,false),(6,false),(7,true),(8,false),(9,true)] ⟨⟨_,(aJ _ _).drew⟩,rfl⟩ 2 ?_;refine aF 10 rfl fun K Y=>?_;go_simp;refine Y _ _ (fun _ _=>⟨⟨_,((aJ _ _).drew).alloc (aB _) _⟩,rfl⟩) ?_;clear Y K;refine aH [11] ?_;clear bJ dv dm dn dp dq dr ds dt n0 al am a4 a5 a6 a7 bo
    go_upto_region 16 with fail
    rw[<-bW.o];clear bW;have L:=cO.o;have y:=aq.o;have c9:aA<wr.heap.size:=da;have ct:f.cell? (ae wr.heap.size 1)=some (af kl):=aG L;have cv:f.cell? (ae wr.heap.size 2)=some (af kr):=aG L;have cT:=(y.cell (p:=(ae tb 4)) c7).trans E;have dA:=(y.cell (p:=(ae aA (bL+j))) c9).trans an;have cA:=(y.cell (p:=(ae v kl)) a0).trans y1;have cC:=(y.cell (p:=(ae v kr)) a0).trans y2;have dj:=ah ct;have dk:=ah cv;have bJ:=ah cT;have dl:=ah dA;have bK:=ah cA;have du:=ah cC;clear L y ct cv cA cC y1 y2 E an;refine ak (fun W=>∃p:aQ f,W=p.W) [26,27] [(0,false),(1,false),(2,false),(3,true),(4,false),(5,false),(6,false),(7,true),(8,false),(9,false),(10,false),(11,false),(12,true),(13,false),(14,true),(15,false),(16,true),(17,false),(18,false),(19,false),(20,true),(21,false),(22,true),(23,false),(24,true)] ⟨⟨_,(aJ _ _).drew⟩,rfl⟩ 3 ?_;refine aF 25 rfl fun K Y=>?_;refine bf Cf rfl _ _ rfl (vals:=#[aj tb,af (og cQ),af (og cS)]) rfl (bT.o f.drew aq.o.drew) ?_;rintro e be ⟨rfl,b8⟩;have bx:Below f.heap.size f be:=((aJ f.heap.size f).drew).trans b8;refine⟨_,rfl,Y _ _ (fun _ _=>⟨⟨_,bx⟩,rfl⟩) ?_⟩;clear Y K;refine aH [26,27] ?_;have ab:Below wr.heap.size wr be:=aq.o.trans (bx.mono aq.o.size);have dZ:=(ab.cell (p:=(ae v N)) a0).trans q;have d3:be.frozen? (ae v N)=false:=by
     have G:=O;simp only[World.frozen?]at G |-;rw[ab.block v a0];exact G
    have C:Hid (∀bh,bh=be.setCell (ae v N) (.int .i64 (og cw))->dK bh lo hi tb fb R (yS (aW R.length) YS (dW YS x) P j) (cnt-1) V/\ax (fun k=>lo<=k/\k<hi) w6 bh):=fun bh cZ=>by
     subst cZ;refine⟨((t.o.below ab t.o.fo.2.2.2.2).nM cE.o (by rw[<-bk.o];exact a2) cw).congr fun k _=>?_,(bj.o.below ab).set (a:=(ae v N)) _ (.inl ⟨aY,dc⟩)⟩;rw[cG.o];exact(cN.o k).symm
    clear ab bx b8 q O dj dk bJ dl bK du bT;go_wp2;exact⟨⟨j,by first|rfl|omega,aa,(C.o _ rfl).1,(C.o _ rfl).2⟩,by simp[intOf];omega⟩
   .obtain rfl:m=0:=aa;have d9:decide (0<=i)=false:=aD;have bz:=t.o;rw[Pg D.o]at bz;have C:Hid (JH w lo hi tb fb R YS cnt V x (.returned (.bool true)) wr):=.inr ⟨cP.o,rfl,bz,cF.o.trans bj.o⟩;clear bz;go_wp2;go_ret;exact C.o
 .rw[aM z]at q;simp only[og]at q;have C:Hid (JH w lo hi tb fb R YS cnt V x (.returned (.bool false)) w4):=.inl ⟨z,rfl,bZ.o⟩;clear z;go_wp2;go_ret;exact C.o
theorem JI (a:Option Addr) (c:Nat) (l:List Pt) (w:World) (s:bQ bX 3 w a l) (O:l.length<=1000000) (x:H9 l):
  aK 102 #[.slice a l.length c] w (fV w (.bool (lH l))):=by
 have B:=ag s;have E:=ag x;clear s x;have N:=@vv prog;go_enter func102,ntmps102;go_wp2
 go_loopw [9] (fun k wr=>∃i:Nat,k=.int .i64 i/\i<=l.length/\Below w.heap.size w wr/\Hid (∃(D:DataW Unit),wr.ownsMap prog 27 (plainElem prog 3) w.heap.size i D/\nJ D l i)) (fun k _=>l.length-(intOf k).toNat)
 case atStart=>exact⟨0,rfl,aX _,(aJ _ _).alloc (aB _) _,⟨.map [],uK _ _ _ _,[],IsM.empty _ _⟩⟩
 case round=>
  obtain⟨i,rfl,hi,e,HO⟩:=hrel;by_cases g:i<l.length
  .obtain⟨b,off,q,M,f⟩:=(B.o.below e).get aa;have K:=f i g 0 aa;have x1:=f i g 1 aa;have x2:=f i g 2 aa;simp only[bX,fw,fD,dx]at K x1 x2;have G:Hid (keyOf prog 27 (.int .u32 l[i].2.2)=some (.int .u32 l[i].2.2)):=rR underlying27 (E.o _ (bB _));obtain⟨D,t,d⟩:=HO.o;have n:=ag (d.put g);have L:=e.size;have m:=ag q;clear HO f d q;generalize l[i]=p at*;obtain⟨I,J,H⟩:=p;obtain rfl:=m.o;clear m;have h:=t.kept (qI wr (.cells #[af I,af J,ay H] 29) none) aA
   go_wp2_with (at_mapUpdate;refine uF _ rfl _ _ _ 26 rfl 27 3 (rU underlying27) underlying26 _ w.heap.size i _ rfl h dD _ _ _ rfl rfl G.o _ [] (rO underlying3 (by simp[Lit.wf,IntKind.min,IntKind.max,IntKind.bits,IntKind.signed];omega)) ?_;intro w3 u r)
   have y:Below w.heap.size wr w3:=(((aJ _ wr).alloc aa _)).grown r aD (fun j F=>by cases F;omega);have A:Hid (∃(D:DataW Unit),w3.ownsMap prog 27 (plainElem prog 3) w.heap.size (i+1) D/\nJ D l (i+1)):=⟨_,u,n.o⟩;have z:=e.trans y;clear u r h t n;go_wp2;go_roundw
   case rel=>exact⟨i+1,by go_num,aa,z,A⟩
   case measure=>exact dU
  .obtain rfl:i=l.length:=aa;obtain⟨D,h,d⟩:=HO.o;have v:=d.size;have C:=ag v;clear v d HO
   go_wp2_with (at_len;refine wpList_len_own _ rfl _ 26 rfl 27 3 underlying26 _ w.heap.size _ _ rfl h ?_)
   go_ret;exact⟨by rw[C.o];rfl,e⟩
theorem dK.grow {w:World} {lo hi a tb fb:Nat} {R:List Pt} {h:iH} {cnt:Int} {V:ni} (H:dK w lo hi tb fb R h cnt V) (b:hi<=a) (c:a<=w.heap.size):dK w lo a tb fb R h cnt V:=
 ⟨H.blk,⟨H.fo.1,by have:=H.fo.2.1;omega,H.fo.2.2.1,by have:=H.fo.2.2.2.1;omega,c⟩,H.row,H.xs,H.iD,H.jc,H.nZ,fun v d g e=>bR (H.top v d g e) b⟩
theorem Ph (n:Nat):Ib (fun _=>some 0) n=List.replicate n (.int .i64 0):=by
 unfold Ib;refine rC aA fun i a b=>?_;simp[og]
def KS (w:World) (R:List Pt) (e:Ending) (w':World):Prop:=
 ∃tb fb V,e=.returned (.tuple #[aj tb,af 0])/\dK w' w.heap.size w'.heap.size tb fb R (kV (aW R.length) (dP R)) R.length V/\Below w.heap.size w w'
structure Tu (w:World) (lo fb n:Nat) (rv nv fv:Value) (l:List Pt):Prop where
 row:w.ownsRow lo 29 3 rv n (l.flatMap bX)
 jc:w.ownsRow lo 163 7 nv (aW n).length ((aW n).flatMap oK)
 iD:nH w lo fb n fv
 Qg:lo<=fb
theorem Tu.kept {S:Nat->Prop} {w w':World} {lo fb n:Nat} {j i g:Value} {l:List Pt} (h:Tu w lo fb n j i g l) (K:ax S w w') (hS:∀k,k<w.heap.size->S k->∃cs t fr,w.heap[k]? =some (.cells cs t fr)/\t≠29/\t≠163/\t≠236):Tu w' lo fb n j i g l:=by
 refine⟨oU h.row K fun k f e=>?_,oU h.jc K fun k f e=>?_,⟨bz K h.iD.blk fun e=>?_,oU h.iD.row K fun k f e=>?_⟩,h.Qg⟩
 .obtain⟨cs,t,fr,a,b,c,d⟩:=hS k f e;exact⟨cs,t,fr,a,b⟩
 .obtain⟨cs,t,fr,a,b,c,d⟩:=hS k f e;exact⟨cs,t,fr,a,c⟩
 .have m:=(aZ.1 h.iD.blk).1;have⟨cs,t,fr,a,b,c,d⟩:=hS fb m e;have:=a.symm.trans h.iD.blk;injection this with this;injection this with _ this _;exact d this
 .obtain⟨cs,t,fr,a,b,c,d⟩:=hS k f e;exact⟨cs,t,fr,a,c⟩
def xk (N:List Nd) (YS:List Nat) (i:Nat):iH:=fun k=>if k<i then kV N YS k else some 0
theorem UD {n:Nat} {t:FT} {s:Nat} (b:FT.At (aW n) t s):t.wf/\t.hi<=n:=by
 have a:=kU b;have⟨w1,w2,w3⟩:=bJ 0 n a;have c:=FT.at_mem (fH a▸b);have:=FT.sw (dM 0 n) 0 w1 _ c;exact⟨FT.qi _ 0 w1 _ c,by simp only at this;omega⟩
theorem MG (a:Option Addr) (c:Nat) (l:List Pt) (w:World) (bo:bQ bX 3 w a l) (eg:l.length<=20000) (dk:H9 l) (hu:lH l=true):
  aK 38 #[.slice a l.length c] w (KS w (eP l)):=by
 have a6:=JI a c l w bo aa dk;rw[hu]at a6;have es:=ag bo;obtain⟨n,bp⟩:∃n,n=l.length:=⟨_,rfl⟩;have cx:=ag (fun W (ed:Below w.heap.size w W)=>oN a l n c W bp.symm (bo.below ed) aa);have cJ:=ag bp;rw[<-bp]at eg a6 |-;have cy:=ag (fun W=>yo n aa W);clear bp bo;have d1:decide ((n:Int)>2147483648)=false:=aD;have d2:decide ((2147483648:Int)<(n:Int))=false:=aD;have d3:decide (2147483648<n)=false:=aD;have c8:(ids l).Nodup:=by unfold lH at hu;simpa using hu
 have bF:=ag c8;clear c8 hu dk;go_enter func38,ntmps38
 go_wp2_with (go_at_call 102;refine a6.mono ?_;rintro e w1 ⟨rfl,bk⟩;clear a6)
 go_wp2_with fail
 refine(cy.o w1).mono ?_;rintro e w2 ⟨rfl,bb⟩;have aO:Hid (Below w.heap.size w w2):=by rw[bb];exact bk.alloc bk.size _
 have bB:Hid (w2.heap[w1.heap.size]? =some (lC 0 0 (aL) n)):=by rw[bb];exact cB w1 _
 obtain⟨fb,b3⟩:∃fb,fb=w1.heap.size:=⟨_,rfl⟩;have bm:w.heap.size<=fb/\fb<w2.heap.size:=by rw[bb,b3];exact⟨bk.size,aA⟩
 rw[<-b3]at bB |-;clear bb bk b3 cy
 go_wp2_with fail
 refine(cx.o w2 aO.o).mono ?_;rintro e w3 ⟨eT,rfl,b9,bT⟩;have b2:=(bT.block fb bm.2).trans bB.o;have bw:Hid (Below w.heap.size w w3):=aO.o.trans (bT.mono aO.o.size);have cK:=ag (bH b9 aO.o.size);have cA:=ag (gH fb n aa w3 b2);have cF:=ag b2;obtain⟨x,u,rfl⟩:=fF b9;clear b9 bT b2 cx bB aO
 go_wp2_with fail
 refine cA.o.mono ?_;rintro e w4 ⟨G,en,rfl,iW,b7,c3,J⟩;have ca:=bw.o.size;have cO:Hid (w4.ownsRow w.heap.size 29 3 (.slice x n u) n (l.flatMap bX)):=Jb cK.o ai cF.o J;have bE:Hid (nH w4 w.heap.size fb n G):=⟨c3,bH iW ca⟩;have cI:Hid (w4.ownsRow w.heap.size 163 7 en (aW n).length ((aW n).flatMap oK)):=bH b7 ca;have P:Hid (Below w.heap.size w w4):=bw.o.trans (J.toBelow ca (fun k h=>by have:=bm.1;omega));obtain⟨A,nc,rfl⟩:=fF b7;obtain⟨M,bi⟩:∃M,M=(aW n).length:=⟨_,rfl⟩;have a9:=ag bi;have ey:M<=40000:=by rw[bi,df];omega
 rw[<-bi];clear iW b7 c3 J cA bi cK cF bw
 go_upto_region 9 with fail
 obtain⟨wc,bh⟩:∃wc,wc=w4.alloc (.cells #[.slice x n u,aL,aj fb,.slice A M nc,aL,af n] 161):=⟨_,rfl⟩;have bV:Below w4.heap.size w4 wc:=by rw[bh];exact(aJ _ _).alloc (aB _) _
 obtain⟨tb,br⟩:∃tb,tb=w4.heap.size:=⟨_,rfl⟩;have cW:wc.heap[tb]? =some (Mx (.slice x n u) (aL) fb (.slice A M nc) (aL) n):=by rw[bh,br];exact cB w4 _
 rw[<-bh,<-br];have aR:Hid (Tu wc w.heap.size fb n (.slice x n u) (.slice A M nc) G l):=by
  have K:ax (fun _=>False) w4 wc:=(ax.refl _ w4).below bV;exact⟨aT cO.o K (fun _ _ h=>h),by rw[<-a9.o];have:=aT cI.o K (fun _ _ h=>h);rwa [<-a9.o]at this,⟨bz K bE.o.blk (fun h=>h),aT bE.o.row K (fun _ _ h=>h)⟩,bm.1⟩
 have aS:=ag cW;have bv:Hid (Below w.heap.size w wc):=P.o.trans (bV.mono P.o.size);have eh:w.heap.size<=tb:=by rw[br];exact P.o.size
 clear bh bV cW cO bE cI P br;have di:=(aZ.1 aS.o).1;have cC:=ag (yA cJ.o.symm aa aR.o.row bF.o);have cX:=aS.o;have bM:wc.cell? (ae tb 0)=some (.slice x n u):=aG cX;clear cX
 go_wp2_with fail
 refine cC.o.mono ?_;rintro e w4 ⟨rfl,dc,J⟩;have cU:Tu w4 w.heap.size fb n (.slice x n u) (.slice A M nc) G (eP l):=by
  have h:=aR.o;refine⟨dc,oU h.jc J fun k aw y=>?_,⟨bz J h.iD.blk fun y=>?_,oU h.iD.row J fun k aw y=>?_⟩,h.Qg⟩
  .obtain⟨cs,fr,e⟩:=Cc h.row y;exact⟨cs,_,fr,e,ai⟩
  .exact bn h.row h.iD.blk ai fb y rfl
  .obtain⟨cs,fr,e⟩:=Cc h.row y;exact⟨cs,_,fr,e,ai⟩
 have aU:Hid (w4.heap[tb]? =some (Mx (.slice x n u) (aL) fb (.slice A M nc) (aL) n)):=bz J aS.o (fun h=>bn aR.o.row aS.o ai tb h rfl);have P:Hid (Below w.heap.size w w4):=bv.o.trans (J.toBelow bv.o.size (fun k h=>(aR.o.row.lt k h).1));have bG:=ag cU;have X:(eP l).length=n:=by rw[(dN l).length_eq];exact cJ.o.symm
 have cV:(ids (eP l)).Nodup:=((dN l).map _).nodup_iff.2 bF.o;have cN:Hid ((eP l).Pairwise kE/\(ids (eP l)).Nodup):=⟨fT bF.o,cV⟩;clear dc J cU aR aS bv cC cV bM di;generalize d9:eP l=R at*;clear d9;have di:=(aZ.1 aU.o).1;have dj:=aU.o;have bM:w4.cell? (ae tb 0)=some (.slice x n u):=aG dj;clear dj
 go_wp2_with fail
 go_loopg [44] n (fun em ep wr=>∃(i:Nat) (cv:Value),ep=.int .i64 i/\i<=n/\n-i<=em/\Hid (wr.heap[tb]? =some (Mx (.slice x n u) cv fb (.slice A M nc) (aL) n))/\Hid (wr.ownsRow w4.heap.size 2 1 cv i (((bU R).take i).map (Value.int .i64)))/\Hid (ax (fun k=>k=tb) w4 wr))
 case atStart=>exact⟨0,_,rfl,aX _,aa,aU,dw _ _ _ _,ax.refl _ _⟩
 case round=>
  obtain⟨i,cv,rfl,hi,eJ,ab,ar,Y⟩:=hrel;by_cases eG:i<n
  .have dg:=aT bG.o.row Y.o (fun g h y=>bn bG.o.row aU.o ai g h y.symm);obtain⟨_,_,d0,-,-,dd⟩:=bQ.aI bg ai dg;injection d0 with dW dX dY;subst dW;clear dX dY;obtain⟨b,off,dZ,ez,ap⟩:=dd.get aa;have cu:=ap i aa 0 aa;have x1:=ap i aa 1 aa;have x2:=ap i aa 2 aa;simp only[bX,fw,fD,dx]at cu x1 x2;have dm:(bU R).take (i+1)=(bU R).take i++[R[i].1]:=by
    have h:i<(bU R).length:=by unfold bU;simp;omega
    rw[gW h];simp[bU]
   have cR:=ag dm;subst dZ;clear ap dd dm dg;generalize R[i]=p at*;obtain⟨a5,dv,du⟩:=p;simp only at cR cu x1 x2;have ce:=ab.o;have bs:=(aZ.1 ce).1;obtain⟨E,F,rfl⟩:=fF ar.o
   go_upto_region 13 with fail
   obtain⟨w6,bc⟩:∃w6,w6=wr.alloc (.cells #[af a5,af dv,ay du] 29):=⟨_,rfl⟩;have a2:Below wr.heap.size wr w6:=by rw[bc];exact(aJ _ _).alloc (aB _) _
   have dl:w6.heap[wr.heap.size]? =some (.cells #[af a5,af dv,ay du] 29 (0,0)):=by rw[bc];exact cB wr _
   have cc:=(a2.block tb bs).trans ce;have eL:=Y.o.size;have eM:=a2.size;have cf:∀g,(Value.slice E i F).ownBlock=some g->w4.heap.size<=g/\g<wr.heap.size:=fun g h=>ar.o.lt g h;have d7:=ah (w:=w6) (ad:=(ae tb 1)) (v:=.slice E i F) (aG cc);have d8:=ah (w:=w6) (ad:=(ae wr.heap.size 0)) (v:=.int .i64 a5) (aG dl);have cQ:=ag (az ar.o a2);have cG:Hid (ax (fun k=>k=tb) w4 w6):=Y.o.below a2;have cP:=ag cc;rw[<-bc];clear bc a2 dl cc ce cu x1 x2;refine ak (fun W=>∃p:aQ w6,W=p.W) [8,9,10,11] [(0,false),(1,false),(2,false),(3,false),(4,true),(5,false),(6,true)] ⟨⟨_,(aJ _ _).drew⟩,rfl⟩ 5 ?_;refine aF 7 rfl fun K U=>?_;go_simp;refine U _ _ (fun _ _=>⟨⟨_,((aJ _ w6).alloc (aB _) _).drew⟩,rfl⟩) ?_;clear U K;refine aF 8 rfl fun K U=>?_;refine bC zM w4.heap.size (w:=(w6.alloc (.cells #[af a5] 2)).drew) (az cQ.o ((aJ _ w6).alloc (aB _) _|>.drew)) [.int .i64 a5] rfl (by simp[Value.oneCell']) rfl (.tmp 52) (.tmp 55) rfl rfl w6.heap.size rfl (lg _ _) dD aa aD ?_;intro am al f b8 c5 eA eK;have c4:w6.grownBy f (Value.slice E i F).ownBlock:=dO (bN ((aJ _ w6).alloc (aB _) _|>.drew)) c5;have bJ:ax (fun k=>(Value.slice E i F).ownBlock=some k) w6 f:=(ax.refl _ w6).grown c4 (fun k aC=>.inl aC);refine U _ _ (fun _ h=>absurd aA h) ?_;clear U K;refine aH [9,10,11] ?_;have bq:=bz bJ cP.o (fun h=>by have:=(cf tb h).1;omega);have eS:f.cell? (ae tb 1)=some (.slice E i F):=aG bq;have f8:f.frozen? (ae tb 1)=false:=aG bq;have dJ:Hid ((f.setCell (ae tb 1) (au am (i+1) al)).heap[tb]? =some (Mx (.slice (some (ae b off)) n u) (au am (i+1) al) fb (.slice A M nc) (aL) n)):=dC f tb 1 _ _ _ bq;have cS:ax (fun k=>k=tb) f (f.setCell (ae tb 1) (au am (i+1) al)):=(ax.refl (fun k=>k=tb) f).set (a:=(ae tb 1)) (au am (i+1) al) (.inl rfl);have dM:Hid ((f.setCell (ae tb 1) (au am (i+1) al)).ownsRow w4.heap.size 2 1 (au am (i+1) al) (i+1) (((bU R).take (i+1)).map (Value.int .i64))):=by
    have z:=aT (S:=fun k=>k=tb) b8 cS (fun g h y=>by have:=(b8.lt g h).1;omega);show World.ownsRow _ _ _ _ _ _ _;rw[cR.o,bL];exact z
   have dI:Hid (ax (fun k=>k=tb) w4 (f.setCell (ae tb 1) (au am (i+1) al))):=((cG.o.mono (S':=fun k=>k=tb\/w4.heap.size<=k) (fun k h=>.inl h)).trans (bJ.mono (fun k h=>.inr (cf k h).1))).strip.set (a:=(ae tb 1)) _ (.inl rfl);clear bJ c4 c5 b8 bq d7 d8 cQ cP cG cf ar ab Y cS;go_wp2
   go_roundg (n-(i+1))
   case measure=>omega
   case rel=>exact⟨i+1,_,by go_num,aa,aB _,dJ,dM,dI⟩
  .obtain rfl:i=n:=aa;have cL:Hid (Tu wr w.heap.size fb i (.slice x i u) (.slice A M nc) G R):=bG.o.kept Y.o (fun k aw y=>by subst y;exact⟨_,_,_,aU.o,ai,ai,ai⟩);have bx:Hid (Below w.heap.size w wr):=P.o.trans (Y.o.toBelow P.o.size (fun k h=>aa));have bj:=ar.o;rw[ky (by unfold bU;simp;omega)]at bj;have bI:=ag (bH bj P.o.size);have a4:=ab.o;have dV:wr.cell? (ae tb 3)=some (.slice A M nc):=aG a4;have ac:wr.cell? (ae tb 4)=some (aL):=aG a4;have f4:wr.frozen? (ae tb 4)=false:=aG a4;have bs:=(aZ.1 a4).1;obtain⟨E,F,rfl⟩:=fF bj;have ef:=KO M aa;clear bj a4 ar Y bM
   go_upto_region 16 with fail
   obtain⟨m,c6⟩:∃m,m=wr.heap.size:=⟨_,rfl⟩;obtain⟨B,a1⟩:∃B,B=(wr.setCell (ae tb 4) (au wr.heap.size M M)).alloc (Obj.cells (madeCells #[af 0] M) 3):=⟨_,rfl⟩;have ba:ax (fun k=>k=tb) wr B:=by rw[a1];exact((ax.refl (fun k=>k=tb) wr).set (a:=(ae tb 4)) _ (.inl rfl)).alloc _
   have cb:(wr.setCell (ae tb 4) (au wr.heap.size M M)).heap.size=wr.heap.size:=aA;have b5:B.heap[wr.heap.size]? =some (.cells (List.replicate M (af 0)).toArray 3 (0,0)):=by
    have z:=Ca (wr.setCell (ae tb 4) (au wr.heap.size M M)) M;rw[cb]at z;rw[a1];exact z
   have eN:wr.heap.size<B.heap.size:=(aZ.1 b5).1;have cd:B.heap[tb]? =some (Mx (.slice x i u) (.slice E i F) fb (.slice A M nc) (au wr.heap.size M M) i):=by
    rw[a1];exact(bY _ _ tb (by rw[cb];exact bs)).trans (dC wr tb 4 _ _ _ ab.o)
   have V:Tu B w.heap.size fb i (.slice x i u) (.slice A M nc) G R:=cL.o.kept ba (fun k aw y=>by subst y;exact⟨_,_,_,ab.o,ai,ai,ai⟩);have bR:=aT bI.o ba (fun g h y=>bn bI.o ab.o ai g h y.symm);have dh:=bx.o.size;have bP:=DJ (w:=B) (base:=w.heap.size) (n:=M) (xs:=List.replicate M (af 0)) b5 dh aA dD;have cH:Hid (dK B w.heap.size B.heap.size tb fb R (fun _=>some 0) i ⟨.slice x i u,.slice E i F,.slice A M nc,au wr.heap.size M M,G⟩):=by
    refine⟨cd,⟨eh,aa,bm.1,(aZ.1 V.iD.blk).1,aB _⟩,by rw[X];exact V.row,by rw[X];exact bR,by rw[X];exact V.iD,by rw[X];exact V.jc,?_,?_⟩
    .rw[X,<-a9.o,Ph];exact bP
    .rintro v (rfl|rfl|rfl|rfl|rfl) g e
     .exact(V.row.lt g e).2
     .exact(bR.lt g e).2
     .exact(V.jc.lt g e).2
     .exact(bP.lt g e).2
     .exact(V.iD.row.lt g e).2
   have dG:Hid (Below w.heap.size w B):=bx.o.trans (ba.toBelow dh (fun k h=>aa));have aV:=ag (qo cN.o.1 cN.o.2);rw[<-a1];have et:B.cell? (ae tb 3)=some (.slice A M nc):=aG cd;have I:Hid (M=(aW R.length).length):=by show _=_;rw[X];exact a9.o
   have ea:R.length<=20000:=aa;have dQ:Hid (∀a,a<R.length->a∈dP R):=fun a ec=>(aV.o.live a).2 (by rw[rf,aN ec]);rw[<-c6]at cH;clear a1 c6 ba cb b5 cd V bR bP cL bI ab bx dV ac f4 ef bs;generalize cY:dP R=YS at*;have dR:=ag cY;have cM:=ag X;clear cY X;go_wp2
   go_loopw [74] (fun cg wr=>∃j:Nat,cg=.int .i64 j/\j<=M/\Hid (dK wr w.heap.size B.heap.size tb fb R (xk (aW R.length) YS j) i ⟨.slice x i u,.slice E i F,.slice A M nc,au m M M,G⟩)/\Hid (Below w.heap.size w wr)) (fun cg _=>M-(intOf cg).toNat)
   case atStart=>exact⟨0,rfl,aX _,cH,dG⟩
   case round=>
    obtain⟨j,rfl,eH,N,a8⟩:=hrel;by_cases a3:j<M
    .have eI:(j:Int)<(M:Int):=aa;obtain⟨t,s,bS,b1⟩:=tK (show j<(aW R.length).length by rw[<-I.o];exact a3);obtain⟨bO,cq,cn,env,dy⟩:=N.o.nodes (by have:=df R.length;rw[<-I.o]at this;omega);simp only at env;injection env with env aY a0;clear aY a0;obtain⟨ew,eu,Q,eC,eD,eE,-,c7,ap,-⟩:=N.o.holds (by have:=df R.length;rw[<-I.o]at this;omega);simp only at Q;injection Q with Q aY a0;injection Q with Q;injection Q with Q d4 d5;subst Q;clear aY a0;obtain⟨-,n0,cj,ck,cl,cm,dn,co⟩:=mR dy bS.get;have b0:=N.o.blk;simp only at b0;have ac:wr.cell? (ae tb 4)=some (au m M M):=aG b0;obtain⟨dz,dB⟩:=ap j (by rw[<-I.o];exact a3);have eb:=N.o.FD;rw[b1]at n0 cj ck cl cm dn co;subst env;obtain⟨d,hd⟩:∃d,d=t.top s:=⟨_,rfl⟩;rw[<-hd]at n0 cj ck cl cm co;obtain⟨f,bd⟩:∃f,f=wr.alloc (.cells #[.int .u8 d.kind,af d.l,af d.r,af d.fr,af d.Kc,af 0,af d.item] 163):=⟨_,rfl⟩;have an:Below wr.heap.size wr f:=by rw[bd];exact(aJ _ _).alloc (aB _) _
     have O:f.heap[wr.heap.size]? =some (.cells #[.int .u8 d.kind,af d.l,af d.r,af d.fr,af d.Kc,af 0,af d.item] 163 (0,0)):=by rw[bd];exact cB wr _
     have a7:=ag an;have dL:=ag O;have cD:=ag bd;have aE:=ag bS;have bA:=ag b1;have aP:=ag hd;clear bd an O b0 ap dy bS b1 hd
     go_upto_region 19 with fail
     rw[<-cD.o];clear cD n0 cj ck cl cm dn co;have O:=dL.o;have an:=a7.o;have cp:wr.heap.size<f.heap.size:=(aZ.1 O).1;have dq:f.cell? (ae wr.heap.size 0)=some (.int .u8 d.kind):=aG O;have dr:f.cell? (ae wr.heap.size 1)=some (af d.l):=aG O;have ds:f.cell? (ae wr.heap.size 2)=some (af d.r):=aG O;have dt:f.cell? (ae wr.heap.size 3)=some (af d.fr):=aG O;have cT:=(an.cell (p:=(ae tb 4)) eb).trans ac;have dA:=(an.cell (p:=(ae m j)) c7).trans dz;have dE:f.frozen? (ae m j)=false:=by
      have z:=dB;simp only[World.frozen?]at z |-;rw[an.block m c7];exact z
     have ch:=ah dt;have ci:=ah cT;clear O an ac dz dB;have b6:m≠wr.heap.size:=aa;have eB:m<f.heap.size:=aa;refine ak (fun W=>∃p:aQ f,W=p.W) [7,8] [(0,false),(1,false),(2,false),(3,true),(4,false),(5,false),(6,true)] ⟨⟨_,(aJ _ _).drew⟩,rfl⟩ 2 ?_;refine aH [7,8] ?_;have eq:f.drew.cell? (ae m j)=_:=dA;have er:f.drew.frozen? (ae m j)=false:=dE;obtain⟨H,be⟩:∃H,H=(f.setCell (ae m j) (.int .i64 d.fr)).drew:=⟨_,rfl⟩;have av:ax (fun k=>k=m) f H:=by rw[be];exact((ax.refl (fun k=>k=m) f).set (a:=(ae m j)) _ (.inl rfl)).drew
     obtain⟨ei,eF⟩:=UD aE.o;obtain⟨f0,c2,ee⟩:∃f0:Nat,d.fr=(f0:Int)/\f0=t.lo:=by rw[aP.o];cases t<;>exact⟨_,rfl,rfl⟩
     have Z:Hid (dK H w.heap.size B.heap.size tb fb R (gy (xk (aW R.length) YS j) j (some f0)) i ⟨.slice x i u,.slice E i F,.slice (some (ae bO cq)) M nc,au m M M,G⟩):=by
      rw[be,c2];exact((N.o.below a7.o N.o.fo.2.2.2.2).nM rfl (by rw[<-I.o];exact a3) (some f0)).below (aJ _ _).drew (by have:=N.o.fo.2.2.2.2;have:=a7.o.size;simp;omega)
     have L:Hid (Below w.heap.size w H):=(a8.o.trans (a7.o.mono a8.o.size)).trans (av.toBelow (by have:=a8.o.size;omega) (fun k h=>aa));have eo:=((bZ av cp (fun h=>b6 h.symm)).1 0).trans dq;have cr:=((bZ av cp (fun h=>b6 h.symm)).1 1).trans dr;have ct:=((bZ av cp (fun h=>b6 h.symm)).1 2).trans ds;have eO:=av.size;have cE:=ag be;clear be ch ci av dq dr ds dt c2
     go_upto_region 20 with fail
     rw[<-cE.o];clear cE eq er dA dE cT;cases t with
     |leaf bK=>
      have aC:(d.kind==(2:Int))=false:=by rw[aP.o];rfl
      have aq:Hid (dK H w.heap.size B.heap.size tb fb R (xk (aW R.length) YS (j+1)) i ⟨.slice x i u,.slice E i F,.slice (some (ae bO cq)) M nc,au m M M,G⟩):=by
       refine Z.o.congr fun k aC=>?_;unfold xk;by_cases e:k=j
       .subst e;have aw:=BR aV.o aE.o;rw[aN (dQ.o bK (by have:(FT.leaf bK).hi=bK+1:=rfl;omega))]at aw;have y:s=k:=by have:=bA.o;unfold FT.root at this;simpa[FT.size]using this
        rw[fU,aN aa,<-y,aw,ee];rfl
       .rw[iq e];by_cases z:k<j
        .rw[aN z,aN aa]
        .rw[aM z,aM aa]
      go_wp2;go_roundw
      case rel=>first|exact⟨j+1,by go_num,aa,aq,L⟩|(refine⟨_,?_,rfl⟩;exact⟨j+1,by go_num,aa,aq,L⟩)|(refine⟨_,_,?_,rfl,rfl⟩;exact⟨j+1,by go_num,aa,aq,L⟩)|(refine⟨_,_,_,?_,rfl,rfl,rfl⟩;exact⟨j+1,by go_num,aa,aq,L⟩)|(refine⟨_,_,_,_,?_,rfl,rfl,rfl,rfl⟩;exact⟨j+1,by go_num,aa,aq,L⟩)|(refine⟨_,_,_,_,_,?_,rfl,rfl,rfl,rfl,rfl⟩;exact⟨j+1,by go_num,aa,aq,L⟩)
      case measure=>exact dU
     |node q D=>
      have aC:(d.kind==(2:Int))=true:=by rw[aP.o];rfl
      have da:=aE.o.left.lt;have de:=aE.o.right.lt;have db:q.root s<j/\D.root (s+q.size)<j:=by
       rw[<-bA.o];have:=q.size_pos;have:=D.size_pos;have eQ:(FT.node q D).size=q.size+D.size+1:=rfl;unfold FT.root;omega
      have c0:d.l=((q.root s:Nat):Int):=by rw[aP.o];show((s+q.size:Nat):Int)-1=_;unfold FT.root;have:=q.size_pos;omega
      have c1:d.r=((D.root (s+q.size):Nat):Int):=by rw[aP.o];show((s+q.size+D.size:Nat):Int)-1=_;unfold FT.root;have:=D.size_pos;omega
      rw[c0]at cr;rw[c1]at ct;obtain⟨ex,ev,T,-,-,-,-,c9,bl,-⟩:=Z.o.holds (by have:=df R.length;rw[<-I.o]at this;omega);simp only at T;injection T with T aY a0;injection T with T;injection T with T d4 d5;subst T;clear aY a0;obtain⟨y1,-⟩:=bl _ da;obtain⟨y2,-⟩:=bl _ de;obtain⟨cw,dF⟩:=bl j (by rw[<-I.o];exact a3);rw[show gy (xk (aW R.length) YS j) j (some f0) (q.root s)=kV (aW R.length) YS (q.root s) by rw[iq aa];exact aN db.1]at y1;rw[show gy (xk (aW R.length) YS j) j (some f0) (D.root (s+q.size))=kV (aW R.length) YS (D.root (s+q.size)) by rw[iq aa];exact aN db.2]at y2;rw[fU]at cw;have bW:=Z.o.blk;simp only at bW;have ac:H.cell? (ae tb 4)=some (au m M M):=aG bW;have cz:=ag (yR (Z.o.Rc.below (aJ _ _).drew) ea (kV (aW R.length) YS (q.root s)) (kV (aW R.length) YS (D.root (s+q.size))) (fun i h=>BQ aV.o h) (fun i h=>BQ aV.o h));have dH:Hid (kV (aW R.length) YS j=lowO R (kV (aW R.length) YS (q.root s)) (kV (aW R.length) YS (D.root (s+q.size)))):=by
       show _=_;rw[<-GJ aV.o aE.o ei,bA.o]
      rw[<-I.o]at da de;have eR:=Z.o.FD;clear bW bl c0 c1;generalize lowO R (kV (aW R.length) YS (q.root s)) (kV (aW R.length) YS (D.root (s+q.size)))=dp at*;generalize kV (aW R.length) YS (q.root s)=dS at*;generalize kV (aW R.length) YS (D.root (s+q.size))=dT at*;generalize q.root s=kl at*;generalize D.root (s+q.size)=kr at*;have ej:=ah cr;have ek:=ah ct;have ch:=ah ac;have ci:=ah y1;have el:=ah y2
      go_upto_region 21 with fail
      refine ak (fun W=>∃p:aQ H,W=p.W) [23,24] [(0,false),(1,false),(2,false),(3,true),(4,false),(5,false),(6,false),(7,false),(8,false),(9,true),(10,false),(11,true),(12,false),(13,true),(14,false),(15,false),(16,false),(17,true),(18,false),(19,true),(20,false),(21,true)] ⟨⟨_,(aJ _ _).drew⟩,rfl⟩ 3 ?_;refine aF 22 rfl fun K U=>?_;refine bf Cf rfl _ _ rfl (vals:=#[aj tb,af (og dS),af (og dT)]) rfl cz.o ?_;rintro e bt ⟨rfl,cZ⟩;have ao:Below H.heap.size H bt:=((aJ H.heap.size H).drew).trans cZ;refine⟨_,rfl,U _ _ (fun _ _=>⟨⟨_,ao⟩,rfl⟩) ?_⟩;clear U K;refine aH [23,24] ?_;have eU:=(ao.cell (p:=(ae m j)) c9).trans cw;have eV:bt.frozen? (ae m j)=false:=by
       have z:=dF;simp only[World.frozen?]at z |-;rw[ao.block m c9];exact z
      have C:Hid (∀bu,bu=bt.setCell (ae m j) (.int .i64 (og dp))->Hid (dK bu w.heap.size B.heap.size tb fb R (xk (aW R.length) YS (j+1)) i ⟨.slice x i u,.slice E i F,.slice (some (ae bO cq)) M nc,au m M M,G⟩)/\Hid (Below w.heap.size w bu)):=fun bu d6=>by
       subst d6;refine⟨((Z.o.below ao Z.o.fo.2.2.2.2).nM rfl (by rw[<-I.o];exact a3) dp).congr fun k _=>?_,?_⟩
       .unfold xk;by_cases e:k=j
        .subst e;rw[fU,aN aa,dH.o]
        .rw[iq e,iq e];by_cases z:k<j
         .rw[aN z,aN aa]
         .rw[aM z,aM aa]
       .exact(L.o.trans (ao.mono L.o.size)).trans (((ax.refl (fun k=>k=m) bt).set (a:=(ae m j)) _ (.inl rfl)).toBelow (bD L.o.size ao.size) (fun k h=>aa))
      clear ao cZ cw dF y1 y2 ac eo cr ct ej ek ch ci el cz;go_wp2;go_roundw
      case rel=>first|exact⟨j+1,by go_num,aa,(C.o _ rfl).1,(C.o _ rfl).2⟩|(refine⟨_,?_,rfl⟩;exact⟨j+1,by go_num,aa,(C.o _ rfl).1,(C.o _ rfl).2⟩)|(refine⟨_,_,?_,rfl,rfl⟩;exact⟨j+1,by go_num,aa,(C.o _ rfl).1,(C.o _ rfl).2⟩)|(refine⟨_,_,_,?_,rfl,rfl,rfl⟩;exact⟨j+1,by go_num,aa,(C.o _ rfl).1,(C.o _ rfl).2⟩)|(refine⟨_,_,_,_,?_,rfl,rfl,rfl,rfl⟩;exact⟨j+1,by go_num,aa,(C.o _ rfl).1,(C.o _ rfl).2⟩)|(refine⟨_,_,_,_,_,?_,rfl,rfl,rfl,rfl,rfl⟩;exact⟨j+1,by go_num,aa,(C.o _ rfl).1,(C.o _ rfl).2⟩)
      case measure=>exact dU
    .obtain rfl:j=M:=aa;have b4:dK wr w.heap.size wr.heap.size tb fb R (kV (aW R.length) YS) i ⟨.slice x i u,.slice E i F,.slice A j nc,au m j j,G⟩:=
      (N.o.congr fun k aC=>by unfold xk;rw[aN (by rw[I.o];exact aC)]).grow N.o.fo.2.2.2.2 (aB _)
     have C:Hid (KS w R (.returned (.tuple #[aj tb,af 0])) wr):=by
      refine⟨tb,fb,⟨.slice x i u,.slice E i F,.slice A j nc,au m j j,G⟩,rfl,?_,a8.o⟩;rw[dR.o,cM.o];rw[cM.o]at b4;exact b4
     clear b4;go_wp2;go_ret2;exact C.o
end
section
open Go.RowKit Go.Sort Go.Shelf Go.Lib Go.Maps
def uB (w:World) (lo hi tb n0:Nat) (l:List Pt):Prop:=
 ∃fb R gone YS V,dK w lo hi tb fb R (kV (aW R.length) YS) l.length V/\cu R gone YS/\sD R YS l/\R.length=n0/\n0<=20000
def uC (n:Nat):Nat:=6*Lib.bitLen n+1
theorem MH {R:List Pt} (h:R.length<=100000) (x1 x2:Int):(oh R x1 x2).2<=uC R.length:=by
 unfold oh uC;by_cases b:R.length=0\/x2<x1
 .rw[aN b];exact aX _
 .rw[aM b];have e:0<R.length:=aa;have f:(bU R).length=R.length:=by simp[bU]
  have c:=kS (bU R) x1 aa;have d:=kT (bU R) x2 aa;rw[f]at c d;by_cases a:iW R x1<l5 R x2
  .rw[aN a];have⟨w1,w2,w3⟩:=bJ 0 R.length e;have i:=(bI R.length aa aa).2.2;have j:=vB 0 R.length (Lib.bitLen R.length) aa;have g:=FT.AZ (dM 0 R.length) w1 0 (iW R x1) (l5 R x2);simp only;omega
  .rw[aM a];simp only;omega
section
variable {w w':World} {lo hi tb n0:Nat} {l:List Pt}
theorem uB.kept {S:Nat->Prop} (h:uB w lo hi tb n0 l) (K:ax S w w') (hS:∀k,lo<=k->k<hi->¬S k):uB w' lo hi tb n0 l:=by
 have⟨fb,R,gone,YS,V,a,b⟩:=h;exact⟨fb,R,gone,YS,V,a.kept K hS,b⟩
theorem uB.Ff (h:uB w lo hi tb n0 l):l.length<=n0/\n0<=20000:=by
 have⟨fb,R,gone,YS,V,c,a,b,d,e⟩:=h;have:=a.QD;have:=b.len a;omega
theorem MI {R:List Pt} {gone:List Bool} {YS:List Nat} (a:cu R gone YS) (c:sD R YS l) (x1 x2:Int):(sK R (aW R.length) YS (oh R x1 x2).1).map (bV R)=(Nz l x1 x2).head?:=by
 have d:∀h:(Nz l x1 x2)=[],(sK R (aW R.length) YS []).map (bV R)=(Nz l x1 x2).head?:=fun h=>by rw[h];rfl
 unfold oh;by_cases h0:R.length=0\/x2<x1
 .rw[aN h0];refine d ?_;rcases h0 with h0|h0
  .have b:=a.QD;have f:=c.len a;have g:=Q4 l x1 x2;exact gX aa
  .exact OZ l h0
 .rw[aM h0];have e:=Q5 a c x1 x2;by_cases b:iW R x1<l5 R x2
  .rw[aN b];simp only;rw[Jt a aa,<-e,List.head?_map]
  .rw[aM b];refine d ?_;rw[<-e];have:Tm YS (iW R x1) (l5 R x2)=[]:=xD.2 fun i _=>aD;rw[this];rfl
theorem Tv (a:Option Addr) (c:Nat) (l:List Pt) (w:World) (k:bQ bX 3 w a l) (m:l.length<=20000) (o:H9 l) (hu:lH l=true):
  aK 38 #[.slice a l.length c] w fun e w'=>∃tb,e=.returned (.tuple #[aj tb,af 0])/\uB w' w.heap.size w'.heap.size tb l.length l/\Below w.heap.size w w':=
 (MG a c l w k m o hu).mono fun e w' ⟨tb,fb,V,j,d,h⟩=>by
  have b:(ids l).Nodup:=by unfold lH at hu;simpa using hu
  have n:=fT b;have hid:(ids (eP l)).Nodup:=((dN l).map _).nodup_iff.2 b;have g:=qo n hid;have f:(eP l).length=l.length:=(dN l).length_eq;rw[show((eP l).length:Int)=(l.length:Int) by rw[f]]at d;refine⟨tb,j,⟨fb,_,_,_,V,d,g,zl b _ (fun i=>?_),f,aa⟩,h⟩;rw[g.live,rf];split<;>simp_all
theorem Ri (h:uB w lo hi tb n0 l) (x1 x2:Int):
  aK 42 #[aj tb,af x1,af x2] w fun e w'=>(∃p:Pt,p=(Nz l x1 x2).head?.getD (0,0,0)/\∃c:Nat,e=.returned (.tuple #[iT p.1 p.2.1 p.2.2,.bool (Nz l x1 x2).head?.isSome,af c])/\c<=uC n0)/\Below w.heap.size w w':=by
 have⟨fb,R,gone,YS,V,d,a,f,g,k⟩:=h;refine(JG d a aa x1 x2).mono ?_;rintro e w' ⟨⟨p,hp,j⟩,i⟩;have b:=MI a f x1 x2;refine⟨⟨p,by rw[hp,b],(oh R x1 x2).2,?_,by rw[<-g];exact MH aa x1 x2⟩,i⟩;rw[<-b,Option.isSome_map];exact j
end
end
end Go.Proofs.YtkjdbndekceffaaGreat
