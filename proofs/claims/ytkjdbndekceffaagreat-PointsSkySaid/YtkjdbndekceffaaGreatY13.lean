/- Made small by a program. -/
import Derived.Test.YtkjdbndekceffaaGreatY12
set_option linter.unusedSimpArgs false
set_option linter.unusedVariables false
set_option maxRecDepth 100000
set_option maxHeartbeats 16000000
namespace Go.Proofs.YtkjdbndekceffaaGreat
open Tryz
section
open Go.RowKit Go.Sort Go.Shelf Go.Lib Go.Maps
attribute [local irreducible] wpQuiet
abbrev Mx (rv xv:Value) (fb:Nat) (nv hv:Value) (n:Int):Obj:=.cells #[rv,xv,aj fb,nv,hv,ae n] 161 (0,0)
structure dM (w:World) (lo hi tb fb:Nat) (R:List Pt) (h:iI) (cnt:Int) (V:ni):Prop where
 blk:w.heap[tb]? =some (Mx V.rv V.xv fb V.nv V.hv cnt)
 fu:lo<=tb/\tb<hi/\lo<=fb/\fb<hi/\hi<=w.heap.size
 row:w.ownsRow lo 29 3 V.rv R.length (R.flatMap dw)
 xs:w.ownsRow lo 2 1 V.xv R.length ((bS R).map (Value.int .i64))
 iF:nJ w lo fb R.length V.fv
 jd:w.ownsRow lo 163 7 V.nv (aW R.length).length ((aW R.length).flatMap oM)
 og:w.ownsRow lo 3 1 V.hv (aW R.length).length (H5 h (aW R.length).length)
 top:∀v,v=V.rv\/v=V.xv\/v=V.nv\/v=V.hv\/v=V.fv->∀g,v.ownBlock=some g->g<hi
section
variable {w w':World} {lo hi tb fb:Nat} {R:List Pt} {h:iI} {cnt:Int} {V:ni}
theorem dM.congr {h':iI} (H:dM w lo hi tb fb R h cnt V) (e:∀k,k<(aW R.length).length->h' k=h k):dM w lo hi tb fb R h' cnt V:=
 ⟨H.blk,H.fu,H.row,H.xs,H.iF,H.jd,by rw[Ml e];exact H.og,H.top⟩
theorem dM.kept {S:Nat->Prop} (H:dM w lo hi tb fb R h cnt V) (K:ay S w w') (hS:∀k,lo<=k->k<hi->¬S k):dM w' lo hi tb fb R h cnt V:=by
 have ht:=H.top;have a:∀{e:TypeId} {sz:Nat} {v:Value} {n:Nat} {xs:List Value},w.ownsRow lo e sz v n xs->(∀g,v.ownBlock=some g->g<hi)->w'.ownsRow lo e sz v n xs:=fun a b=>aU a K fun g e=>hS g (a.lt g e).1 (b g e);exact⟨bz K H.blk (hS tb H.fu.1 H.fu.2.1),⟨H.fu.1,H.fu.2.1,H.fu.2.2.1,H.fu.2.2.2.1,bA H.fu.2.2.2.2 K.size⟩,
  a H.row (ht _ aA),a H.xs (ht _ aA),
  ⟨bz K H.iF.blk (hS fb H.fu.2.2.1 H.fu.2.2.2.1),a H.iF.row (ht _ aA)⟩,a H.jd (ht _ aA),a H.og (ht _ aA),H.top⟩
theorem dM.below {B:Nat} (H:dM w lo hi tb fb R h cnt V) (a:Below B w w') (e:hi<=B):dM w' lo hi tb fb R h cnt V:=
 H.kept (S:=fun k=>hi<=k) ⟨a.os,a.tape,a.output,a.size,fun k f g=>a.block k aa⟩ fun k b c d=>aa
theorem dM.FD (H:dM w lo hi tb fb R h cnt V):tb<w.heap.size:=bT H.fu.2.1 H.fu.2.2.2.2
theorem dM.nodes (H:dM w lo hi tb fb R h cnt V) (l:0<R.length):∃g off c,V.nv=.slice (some (af g off)) (aW R.length).length c/\bV oM 7 w (some (af g off)) (aW R.length):=by
 have m:=cZ R.length;have⟨g,c,e,_⟩:=aQ H.jd aa;obtain⟨a,i,b,-,-,d⟩:=bV.aG jq ai H.jd;rw[e]at b;injection b with f j k;rw[<-f]at d;exact⟨g,0,c,e,d⟩
theorem dM.holds (H:dM w lo hi tb fb R h cnt V) (r:0<R.length):∃g c,V.hv=ax g (aW R.length).length c/\lo<=g/\g<hi/\g≠tb/\g≠fb/\g<w.heap.size/\(∀k,k<(aW R.length).length->w.cell? (af g k)=some (ae (oh (h k)))/\w.frozen? (af g k)=false)/\
  (∀a,V.rv.ownBlock=some a->a≠g)/\(∀a,V.xv.ownBlock=some a->a≠g)/\(∀a,V.nv.ownBlock=some a->a≠g)/\∀a,V.fv.ownBlock=some a->a≠g:=by
 have x:=cZ R.length;have⟨g,c,e,y,u,s,t⟩:=aQ H.og aa;have b:=H.og;rw[e]at b;have p:(ax g (aW R.length).length c).ownBlock=some g:=rfl;have f:∀{j:TypeId} {sz n:Nat} {v:Value} {xs:List Value},w.ownsRow lo j sz v n xs->j≠3->∀a,v.ownBlock=some a->a≠g:=fun q o a d l=>bu q b o a d (l▸p);refine⟨g,c,e,(b.lt g rfl).1,H.top V.hv aA g (by rw[e];rfl),fun i=>bg b H.blk ai g rfl i.symm,fun i=>bg b H.iF.blk ai g rfl i.symm,(b.lt g rfl).2,fun k m=>⟨?_,b.frozenAt k⟩,f H.row ai,f H.xs ai,f H.jd ai,f H.iF.row ai⟩;have d:=b.cellAt k aa;rw[KI h m]at d;exact d
theorem dM.nN (H:dM w lo hi tb fb R h cnt V) {g n c:Nat} (i:V.hv=ax g n c) {k:Nat} (j:k<(aW R.length).length) (v:Option Nat):
  dM (w.setCell (af g k) (.int .i64 (oh v))) lo hi tb fb R (gz h k v) cnt V:=by
 have K:ay (fun k=>k=g) w (w.setCell (af g k) (.int .i64 (oh v))):=(ay.refl (fun k=>k=g) w).set (a:=(af g k)) _ (.inl rfl);have e:=H.og;rw[i]at e;have l:n=(aW R.length).length:=by
  rcases e.2 with⟨d,-⟩|⟨p,m,o,d,-⟩
  .cases d
  .injection d with _ d _
 subst l;have⟨cs,fr,b⟩:=qF e;have f:=(e.stored k (.int .i64 (oh v))).1;rw[KJ h j v]at f;refine⟨EY H.blk K b ai,aP H.fu,fe H.row K b ai,fe H.xs K b ai,yG H.iF K b ai ai,fe H.jd K b ai,?_,H.top⟩;rw[i];exact f
theorem dM.BB (H:dM w lo hi tb fb R h cnt V) (m:Int):dM (w.setCell (af tb 5) (.int .i64 m)) lo hi tb fb R h m V:=by
 have K:ay (fun k=>k=tb) w (w.setCell (af tb 5) (.int .i64 m)):=(ay.refl (fun k=>k=tb) w).set (a:=(af tb 5)) _ (.inl rfl);have b:=H.blk;exact⟨dC w tb 5 _ _ _ H.blk,aP H.fu,fe H.row K b ai,fe H.xs K b ai,yG H.iF K b ai ai,fe H.jd K b ai,fe H.og K b ai,H.top⟩
end
end
section
open Go.RowKit Go.Sort Go.Shelf Go.Lib Go.Maps
attribute [local irreducible] wpQuiet
attribute [local go_sem] Oper.eT
structure O5 (w:World) (tb:Nat) (R:List Pt):Prop where
 lt:tb<w.heap.size
 row:∃ra rc,w.cell? (af tb 0)=some (.slice ra R.length rc)/\bV dw 3 w ra R
theorem O5.below {w w':World} {tb:Nat} {R:List Pt} (H:O5 w tb R) (a:Below w.heap.size w w'):O5 w' tb R:=by
 have⟨d,e,b,c⟩:=H.row;exact⟨bT H.lt a.size,d,e,(a.cell (p:=(af tb 0)) H.lt).trans b,c.below a⟩
theorem dM.Q9 {w:World} {lo hi tb fb:Nat} {cnt:Int} {R:List Pt} {h:iI} {V:ni} (H:dM w lo hi tb fb R h cnt V):O5 w tb R:=by
 obtain⟨c,d,b,-,-,e⟩:=bV.aG bf ai H.row;have a:=H.blk;rw[b]at a;exact⟨H.FD,c,d,aD a,e⟩
theorem yQ {w:World} {tb:Nat} {R:List Pt} (H:O5 w tb R) (P:R.length<=20000) (g d:Option Nat) (B:∀i,g=some i->i<R.length) (C:∀i,d=some i->i<R.length):
  aK 103 #[aj tb,ae (oh g),ae (oh d)] w (fV w (ae (oh (lowO R g d)))):=by
 obtain⟨ao,ap,ar,J,K⟩:=H;have N:=ag K;have y:Hid (∀n,Below w.heap.size w (w.drewN n)):=fun n=>Below.bn _ n;clear K;cases g with
 |none=>
  have v:lowO R none d=d:=rfl;rw[v];generalize oh d=k at*;show Calls _ _ #[_,ae (-1),_] _ _;go_enter func103,ntmps103
  go_upto_region 1 with fail
  go_quiet (fail)
  go_wp2;go_ret;exact⟨rfl,y.o _⟩
 |some i=>
  have hi:=B i rfl;have al:((i:Int)==-1)=false:=by first|(simp;done)|(simp;omega)
  have am:decide ((i:Int)=-1)=false:=by first|(simp;done)|(simp;omega)
  cases d with
  |none=>
   have v:lowO R (some i) none=some i:=rfl;rw[v];show Calls _ _ #[_,ae (i:Int),ae (-1)] _ fun e w'=>e=.returned (ae (i:Int))/\_;go_enter func103,ntmps103
   go_upto_region 1 with fail
   go_quiet (fail)
   go_wp2;go_ret;exact⟨rfl,y.o _⟩
  |some j=>
   have f:=C j rfl;have f1:((j:Int)==-1)=false:=by first|(simp;done)|(simp;omega)
   have f2:decide ((j:Int)=-1)=false:=by first|(simp;done)|(simp;omega)
   have f3:((j:Int)!=-1)=true:=by first|(simp;done)|(simp;omega)
   have a:lowO R (some i) (some j)=if CR R j i then some j else some i:=rfl;obtain⟨aq,au,O,an,c⟩:=N.o.get aa;have m:=c i hi 0 aa;have r:=c i hi 1 aa;have s:=c i hi 2 aa;have t:=c j f 0 aa;have v1:=c j f 1 aa;have u:=c j f 2 aa;simp only[dw,fG,dx,dH]at m r s t v1 u;rw[<-dE hi]at m r s;rw[<-dE f]at t v1 u;subst O;have z:Hid (CR R j i=decide (nX (bU R j) (bU R i)<0)):=by
    show _=_;unfold CR;rw[uQ,qA]
   rw[z.o]at a;have A:=ag a;obtain⟨I,F⟩:∃I,I=R.length:=⟨_,rfl⟩;rw[<-F]at J P hi f;clear c z B C F a;generalize bU R i=p at*;generalize bU R j=q at*;have L:=ag (fun W=>OW q p W);generalize nX q p=l at*;obtain⟨ab,ac,Z⟩:=p;obtain⟨af,ak,ad⟩:=q;simp only at m r s t v1 u;have M:Hid (∀b:aR w,aK 71 #[iV af ak ad,iV ab ac Z] b.W fun e w'=>e=.returned (ae l)/\Below b.W.heap.size b.W w'):=fun b=>L.o b.W;generalize lowO R (some i) (some j)=res at*;simp only[oh];have Q:=ah J;have S:=ah m;have T:=ah r;have U:=ah s;have V:=ah t;have X:=ah v1;have Y:=ah u;go_enter func103,ntmps103
   go_upto_region 1 with fail
   refine bI aN aN ?_
   repeat(quiet_step ((go_at_call 71;exact dK (M.o _))))
   refine jN ?_;intro w4 G;have D:Below w.heap.size w w4:=by obtain⟨b,rfl⟩:=G;exact b.h
   have x:=ag D;clear G D Q S T U V X Y;by_cases E:l<0
   .have d1:decide (l<0)=true:=by simp[E]
    have a:=A.o;rw[d1,aO rfl]at a;subst a;go_wp2;go_ret;exact⟨rfl,x.o⟩
   .have d1:decide (l<0)=false:=by simp[E]
    have a:=A.o;rw[d1,aM ai]at a;subst a;go_wp2;go_ret;exact⟨rfl,x.o⟩
def om (R:List Pt) (x1 x2:Int):List Nat×Nat:=
 if R.length=0\/x2<x1 then([],0)
 else if jh R x1<lY R x2 then(((dN 0 R.length).canon 0 (jh R x1) (lY R x2)).1,(aV (bS R) x1).2+(aS (bS R) x2).2+((dN 0 R.length).canon 0 (jh R x1) (lY R x2)).2)
 else([],(aV (bS R) x1).2+(aS (bS R) x2).2)
theorem Ra {R:List Pt} {x1 x2:Int} (a:R.length=0\/x2<x1):om R x1 x2=([],0):=by unfold om;rw[aO a]
def Rb (w:World) (r:List Nat×Nat) (e:Ending) (w':World):Prop:=
 ∃v,e=.returned (.tuple #[v,ae (r.2:Nat)])/\w'.ownsRow w.heap.size 3 1 v r.1.length (r.1.map fB)/\Below w.heap.size w w'
theorem MB {W:World} {lo hi tb fb:Nat} {cnt:Int} {R:List Pt} {h:iI} {V:ni} (b:dM W lo hi tb fb R h cnt V) (ap:R.length<=20000) (x1 x2:Int):
  aK 110 #[aj tb,ae x1,ae x2] W (Rb W (om R x1 x2)):=by
 have L:=b.FD;have d:=b.blk;obtain⟨ai,ak,A⟩:=fF b.row;obtain⟨D,E,B,-,-,s⟩:=Rd.aG b.xs;rw[A,B]at d;have j:(bS R).length=R.length:=by unfold bS;rw[bR]
 rw[j]at d;have Q:W.cell? (af tb 0)=some (.slice ai R.length ak):=aD d;have y:W.cell? (af tb 1)=some (.slice D R.length E):=aD d;have z:W.cell? (af tb 2)=some (aj fb):=aD d;by_cases q:R.length=0\/x2<x1
 .rw[Ra q];have G:Hid (Rb W ([],0) (.returned (.tuple #[aL,ae 0])) W):=⟨_,rfl,dA _ _ _ _,aJ _ _⟩;clear b d s A B y z;generalize R.length=n at*;by_cases a:n=0
  .have d0:((n:Int)==0)=true:=by simp[a]
   have d1:(n==0)=true:=by simp[a]
   have d2:decide (n=0)=true:=by simp[a]
   clear a q j;go_enter func110,ntmps110;go_wp2;go_ret2;exact G.o
  .have d0:((n:Int)==0)=false:=by simp[a]
   have d1:(n==0)=false:=by simp[a]
   have d2:decide (n=0)=false:=by simp[a]
   have f1:decide (x1>x2)=true:=aF;have f2:decide (x2<x1)=true:=aF;clear a q j;go_enter func110,ntmps110;go_wp2;go_ret2;exact G.o
 .have a:0<R.length:=aa;have t:=ag (fun W' (m:Below W.heap.size W W')=>EK D (bS R) E x1 W' (s.below m) aa);have u:=ag (fun W' (m:Below W.heap.size W W')=>EL D (bS R) E x2 W' (s.below m) aa);have ad:=gu (fun i=>decide (x1<=(bS R).getD i 0)) (bS R).length;have ah:=gu (fun i=>decide (x2<(bS R).getD i 0)) (bS R).length;have aq:(aV (bS R) x1).2<=20000:=by unfold aV;omega
  have ar:(aS (bS R) x2).2<=20000:=by unfold aS;omega
  obtain⟨al,am,an⟩:=bK 0 R.length a;have X:=fq 0 R.length a;have Y:=(FT.qI (jh R x1) (lY R x2) (dN 0 R.length) 0).1;have M:=QT R x2;have k:Hid (jh R x1<lY R x2->∀W',Below W.heap.size W W'->aK 175 #[aj fb,ae (jh R x1),ae (lY R x2)] W' (QU W' R.length (jh R x1) (lY R x2))):=fun f W' m=>
   Gw lo fb R.length (jh R x1) (lY R x2) V.fv aa f M W' (b.below m b.fu.2.2.2.2).iF
  have l:Hid (om R x1 x2=if jh R x1<lY R x2 then(((dN 0 R.length).canon 0 (jh R x1) (lY R x2)).1,(aV (bS R) x1).2+(aS (bS R) x2).2+((dN 0 R.length).canon 0 (jh R x1) (lY R x2)).2)else([],(aV (bS R) x1).2+(aS (bS R) x2).2)):=by
   show om R x1 x2=_
   conv=>lhs;unfold om
   rw[aM q]
  have x:Hid (jh R x1=(aV (bS R) x1).1/\lY R x2=(aS (bS R) x2).1):=⟨rfl,rfl⟩;rw[<-x.o.1,j]at t;rw[<-x.o.2,j]at u;have f1:decide (x1>x2)=false:=aF;have f2:decide (x2<x1)=false:=aF;unfold QU at k;have Z:((dN 0 R.length).canon 0 (jh R x1) (lY R x2)).2<=40000:=aa;obtain⟨dg,J⟩:∃dg,dg=(dN 0 R.length).canon 0 (jh R x1) (lY R x2):=⟨_,rfl⟩;rw[<-J]at k l Z;clear b d s A B q ad ah al am an X j J Y M;generalize jh R x1=fr at*;generalize lY R x2=tu at*;generalize ab:(aV (bS R) x1).2=N at*;generalize ac:(aS (bS R) x2).2=O at*;generalize om R x1 x2=ask at*;clear ab ac x;generalize R.length=n at*;have d0:((n:Int)==0)=false:=aF;have d1:(n==0)=false:=aF;have d2:decide (n=0)=false:=aF;go_enter func110,ntmps110
  go_wp2_with fail
  refine(t.o W (aJ _ _)).mono ?_;rintro e w1 ⟨rfl,C⟩;have S:=(C.cell (p:=(af tb 1)) L).trans y;have r:=ag C;clear C
  go_wp2_with fail
  refine(u.o w1 r.o).mono ?_;rintro e w2 ⟨rfl,H⟩;have g:Hid (Below W.heap.size W w2):=r.o.trans (H.mono r.o.size);have ao:=(g.o.cell (p:=(af tb 2)) L).trans z;clear H S t u r Q y z;by_cases f:fr<tu
  .have T:decide ((tu:Int)<=(fr:Int))=false:=aF;have U:decide (tu<=fr)=false:=aF;have c:=l.o;rw[aO f]at c;have P:=ag c;have F:=ag (k.o f w2 g.o);clear c f k l
   go_wp2_with fail
   refine F.o.mono ?_;rintro e w3 ⟨v,rfl,K,I⟩;have w:Hid (Rb W ask (.returned (.tuple #[v,ae ((N+O+dg.2:Nat):Int)])) w3):=by
    rw[P.o];exact⟨v,rfl,bJ K g.o.size,g.o.trans (I.mono g.o.size)⟩
   clear K I F;go_wp2;go_ret2;exact w.o
  .have T:decide ((tu:Int)<=(fr:Int))=true:=aF;have U:decide (tu<=fr)=true:=aF;have c:=l.o;rw[aM f]at c;have w:Hid (Rb W ask (.returned (.tuple #[aL,ae ((N+O:Nat):Int)])) w2):=by
    rw[c];exact⟨_,rfl,dA _ _ _ _,g.o⟩
   clear c f k l;go_wp2;go_ret2;exact w.o
theorem Rc {R:List Pt} {x1 x2:Int}:∀k∈(om R x1 x2).1,k<(aW R.length).length:=fun k a=>by
 unfold om at a;by_cases b:R.length=0\/x2<x1
 .rw[aO b]at a;exact absurd a iA
 .rw[aM b]at a;by_cases c:jh R x1<lY R x2
  .rw[aO c]at a;exact FT.OT _ 0 (jU R.length aa) k a
  .rw[aM c]at a;exact absurd a iA
theorem MC {R:List Pt} (d:R.length<=20000) (x1 x2:Int):(om R x1 x2).1.length<=40000/\(om R x1 x2).2<=100000:=by
 unfold om;by_cases a:R.length=0\/x2<x1
 .rw[aO a];simp
 .rw[aM a];have f:=gu (fun i=>decide (x1<=(bS R).getD i 0)) (bS R).length;have h:=gu (fun i=>decide (x2<(bS R).getD i 0)) (bS R).length;have k:(bS R).length=R.length:=by unfold bS;rw[bR]
  have g:(aV (bS R) x1).2<=20000:=by unfold aV;omega
  have j:(aS (bS R) x2).2<=20000:=by unfold aS;omega
  have e:=fq 0 R.length aa;have c:=FT.qI (jh R x1) (lY R x2) (dN 0 R.length) 0;by_cases b:jh R x1<lY R x2
  .rw[aO b];exact⟨bA c.2 aa,by have:=c.1;simp only;omega⟩
  .rw[aM b];exact⟨aA,by show _+_<=_;omega⟩
theorem KO {R:List Pt} {gone:List Bool} {YS:List Nat} {N:List Nd} (b:cz R gone YS) (c:List Nat):∀i,sH R N YS c=some i->i<R.length:=by
 intro i h;have a:=GD (N:=N) b c none (fun _=>False) (fun _ h=>h.elim) (fun _ h=>h);unfold sH at h;rw[h]at a;rcases a.1 with h2|h2
 .exact h2.elim
 .obtain⟨k,-,d⟩:=xO.1 h2;exact DD b d
theorem oo {P:Program} {fn:Func} {p q r:Tmp} {ty:TypeId} (h:fn.results=#[.cell p ty,.tmp q,.tmp r]) (a:Array Value) (w:World) (g:Nat) (t:TypeId) (cs:Array Value) (fr:Nat×Nat) (d:TypeDesc) (b c:Value)
  (hp:a.getD p undef=aj g) (e:a.getD q undef=b) (i:a.getD r undef=c) (k:w.heap[g]? =some (.cells cs t fr))
  (hu:P.underlying ty=some d) (hd:(match d with|.struct _|.array _ _=>true|_=>false)=true) (hi:(P.info? ty).map (·.size)=some cs.size):
  (results fn a).run P w=.ok (.tuple #[.agg cs,b,c]) w:=by
 have l:a[p]?.getD undef=aj g:=aP hp;have f:a[q]?.getD undef=b:=aP e;have j:a[r]?.getD undef=c:=aP i;simp[results,h,l,f,j,asAddr,run_loadVar_row w g t ty cs fr d k hu hd hi]
theorem JB {w:World} {lo hi tb fb:Nat} {cnt:Int} {R:List Pt} {gone:List Bool} {YS:List Nat} {V:ni} (f:dM w lo hi tb fb R (kW (aW R.length) YS) cnt V) (ah:cz R gone YS) (I:R.length<=20000) (x1 x2:Int):
  aK 42 #[aj tb,ae x1,ae x2] w fun e w'=>(∃p:Pt,p=((sH R (aW R.length) YS (om R x1 x2).1).map (bU R)).getD (0,0,0)/\e=.returned (.tuple #[iV p.1 p.2.1 p.2.2,.bool (sH R (aW R.length) YS (om R x1 x2).1).isSome,ae ((om R x1 x2).2:Nat)]))/\Below w.heap.size w w':=by
 obtain⟨aw,ay⟩:=MC I x1 x2;have F:=ag (Rc (R:=R) (x1:=x1) (x2:=x2));have C:=ag (fun W (aQ:Below w.heap.size w W)=>MB (f.below aQ f.fu.2.2.2.2) I x1 x2);obtain⟨ask,ai⟩:∃ask,ask=om R x1 x2:=⟨_,rfl⟩;rw[<-ai]at C F aw ay |-;clear ai;obtain⟨a,eH⟩:=ask;simp only at aw ay F |-;have g:=ag f;have G:=ag ah;have a5:=f.FD;obtain⟨w1,q⟩:∃w1,w1=w.alloc (.cells #[ae 0,ae 0,ak 0] 29):=⟨_,rfl⟩;have al:Below w.heap.size w w1:=by rw[q];exact(aJ _ _).alloc (aB _) _
 have az:w1.heap[w.heap.size]? =some (zB (0,0,0)):=by rw[q];exact df w _
 have l:=ag al;have H:=ag az;have S:=ag q;clear q al az f ah;go_enter func42,ntmps42
 go_upto_region 1 with fail
 rw[<-S.o];clear S
 go_wp2_with fail
 refine(C.o w1 l.o).mono ?_;rintro e w2 ⟨v,rfl,av,K⟩;have m:=ag (l.o.trans (K.mono l.o.size));have aS:w.heap.size<w1.heap.size:=(aY.1 H.o).1;have Z:=ag ((K.block w.heap.size aS).trans H.o);have aT:w.heap.size<w2.heap.size:=(aY.1 Z.o).1;obtain⟨a6,a7,rfl,-,-,aq⟩:=Rd.aG (enc:=fB) av;have aE:=ag aq;clear av aq K C l H;go_wp2
 go_loopw [11,23] (fun bv O wr=>∃j:Nat,O=.int .i64 j/\j<=a.length/\bv=.int .i64 (oh (sH R (aW R.length) YS (a.take j)))/\Hid (Below w2.heap.size w2 wr)) (fun _ O _=>a.length-(intOf O).toNat)
 case atStart=>exact⟨0,rfl,bH _,rfl,ag (aJ _ _)⟩
 case round=>
  obtain⟨j,rfl,a1,rfl,c⟩:=hrel;by_cases L:j<a.length
  .have a2:(j:Int)<(a.length:Int):=aa;have ap:=F.o a[j] (bG L);have aP:0<R.length:=by have:=cZ R.length;omega
   have aC:=ag (m.o.trans (c.o.mono (by have:=m.o.size;omega)));have r:=g.o.below aC.o (by have:=g.o.fu;omega);obtain⟨aO,ch,ac,-,-,-,-,a0,an,-⟩:=r.holds aP;have J:=r.blk;rw[ac]at J;have aH:wr.cell? (af tb 4)=some (ax aO (aW R.length).length ch):=aD J;have aI:=(an a[j] ap).1;have P:=ag (yQ r.Q9 I (sH R (aW R.length) YS (a.take j)) (kW (aW R.length) YS a[j]) (KO G.o _) (fun i h=>BM G.o h));have aF:Hid (sH R (aW R.length) YS (a.take (j+1))=lowO R (sH R (aW R.length) YS (a.take j)) (kW (aW R.length) YS a[j])):=by
    show _=_;rw[ig L,Mk]
   obtain⟨b,off,ab,aZ,ao⟩:=(aE.o.below c.o).get aa;have aU:=ao j L;simp only[fB]at aU;have Q:=ag ab;have aR:(aW R.length).length<=40000:=by rw[cZ];omega
   obtain⟨M,ad⟩:∃M,M=(aW R.length).length:=⟨_,rfl⟩;rw[<-ad]at aH ap aR;clear an ao J ac r ab ad;generalize lowO R (sH R (aW R.length) YS (a.take j)) (kW (aW R.length) YS a[j])=a8 at*;generalize kW (aW R.length) YS a[j]=bk at*;generalize sH R (aW R.length) YS (a.take j)=aV at*;generalize a[j]=k at*;obtain rfl:=Q.o;clear Q
   go_wp2_with fail
   refine P.o.mono ?_;rintro e w3 ⟨rfl,am⟩;have d:=ag (c.o.trans (am.mono c.o.size));clear am P;go_wp2;go_roundw
   case rel=>exact⟨j+1,by go_num,aa,by rw[aF.o],d⟩
   case measure=>exact dX
  .obtain rfl:j=a.length:=aa;rw[jK]at*;have au:=KO (N:=aW R.length) G.o a;generalize ar:sH R (aW R.length) YS a=o at*;have HO:=ag ar;clear ar;have d:=ag (m.o.trans (c.o.mono (by have:=m.o.size;omega)));have n:=ag ((c.o.block w.heap.size aT).trans Z.o);obtain⟨w3,aM⟩:∃w3:World,w3=wr:=⟨_,rfl⟩;subst aM;cases o with
   |none=>
    simp only[oh,lJ,mK,Option.isSome_none];have T:=p9 w3 w.heap.size _ #[ae 0,ae 0,ak 0] _ _ n.o;have U:=x9 d.o (aB w.heap.size) #[ae 0,ae 0,ak 0];have D:=ag T;have E:=ag U;clear T U
    go_wp2_with (refine rC rfl 29 (.tmp 6) (.tmp 40) rfl rfl w.heap.size #[ae 0,ae 0,ak 0] rfl rfl _ _ n.o aN rfl (by simp[Value.oneCell']) ?_)
    refine jM (oo rfl _ _ w.heap.size _ _ _ _ (.bool false) (.int .i64 (eH:Nat)) rfl rfl rfl D.o underlying29 rfl aN) rfl ?_;exact⟨⟨(0,0,0),by first|rfl|(rw[HO.o];rfl),by first|rfl|(rw[HO.o];rfl)⟩,E.o⟩
   |some i=>
    have s:=au i rfl;have aI:((i:Int)==-1)=false:=by first|(simp;done)|(simp;omega)
    have aX:decide ((i:Int)=-1)=false:=by first|(simp;done)|(simp;omega)
    obtain⟨a3,ba,bc,a9,aA⟩:=(g.o.below d.o (by have:=g.o.fu;omega)).Q9;obtain⟨bb,bd,aL,a4,t⟩:=aA.get aa;have z:=t i s 0 aa;have A:=t i s 1 aa;have B:=t i s 2 aa;simp only[dw,fG,dx,dH]at z A B;rw[<-dE s]at z A B;subst aL;simp only[oh,fP,gG,Option.isSome_some];have X:Hid (∃p,p=bU R i):=⟨_,rfl⟩;obtain⟨p,hp⟩:=X.o;have Y:=ag hp;rw[<-hp]at z A B;clear hp X;obtain⟨u,x,y⟩:=p;simp only at z A B;clear t aA au;have D:=ag (p9 w3 w.heap.size _ #[ae u,ae x,ak y] _ _ n.o);have E:=ag (x9 d.o (aB w.heap.size) #[ae u,ae x,ak y])
    go_wp2_with (refine rC rfl 29 (.tmp 6) (.tmp 48) rfl rfl w.heap.size #[ae u,ae x,ak y] rfl rfl _ _ n.o aN rfl (by simp[Value.oneCell']) ?_)
    refine jM (oo rfl _ _ w.heap.size _ _ _ _ (.bool true) (.int .i64 (eH:Nat)) rfl rfl rfl D.o underlying29 rfl aN) rfl ?_;exact⟨⟨(u,x,y),by first|exact Y.o|(rw[HO.o];exact Y.o),by first|rfl|(rw[HO.o];rfl)⟩,E.o⟩
end
section
open Go Go.RowKit
namespace FT
theorem vR:∀(t:FT) (s x:Nat),t.wf->t.lo<=x->x<t.hi->
  (∀i k,(t.path s x)[i]? =some k->i+1<(t.path s x).length->∃l r b,(node l r,b)∈t.subs s/\(node l r).root b=k)/\
  ∃L k,t.path s x=L++[k]/\(leaf x,k)∈t.subs s
 |leaf a,s,x,h,g,j=>by
  have o:a=x:=by simp only[lo,hi]at g j;omega
  subst o;refine⟨fun i k hi c=>?_,[],s,by rw[path];rfl,by simp[subs]⟩;rw[path]at c;simp at c
 |node l r,s,x,h,g,j=>by
  have w:=h.2.2;have key:∀(t:FT) (b:Nat),(∀p∈t.subs b,p∈(node l r).subs s)->(node l r).path s x=(node l r).root s::t.path b x->
    ((∀i k,(t.path b x)[i]? =some k->i+1<(t.path b x).length->∃l r f,(node l r,f)∈t.subs b/\(node l r).root f=k)/\∃L k,t.path b x=L++[k]/\(leaf x,k)∈t.subs b)->
    (∀i k,((node l r).path s x)[i]? =some k->i+1<((node l r).path s x).length->∃l' d b,(node l' d,b)∈(node l r).subs s/\(node l' d).root b=k)/\∃L k,(node l r).path s x=L++[k]/\(leaf x,k)∈(node l r).subs s:=fun t b n e ⟨q,L,k,u,v⟩=>by
   rw[e];refine⟨fun i k hi c=>?_,(node l r).root s::L,k,by rw[u];rfl,n _ v⟩
   match i with
   |0=>
    simp only[fG]at hi;injection hi with hi;exact⟨l,r,s,by simp[subs],hi⟩
   |i+1=>
    simp only[dx]at hi;have⟨l',d,f,m1,m2⟩:=q i k hi (aP c);exact⟨l',d,f,n _ m1,m2⟩
  by_cases m:x<l.hi
  .exact key l s (fun p hp=>by simp[subs,hp]) (by rw[path,aO m]) (vR l s x h.1 g m)
  .exact key r (s+l.size) (fun p hp=>by simp[subs,hp]) (by rw[path,aM m]) (vR r _ x h.2.1 aa j)
end FT
def yR (N:List Nd) (YS Wh:List Nat) (P:List Nat) (m:Nat):iI:=fun k=>if k∈P.take m then kW N YS k else kW N Wh k
section
variable {R:List Pt} {gone R3:List Bool} {YS:List Nat} {x:Nat}
theorem ME (g:x<R.length) {k:Nat} (c:k<(aW R.length).length) (hP:k∉(dN 0 R.length).path 0 x):kW (aW R.length) (dW YS x) k=kW (aW R.length) YS k:=by
 have b:0<R.length:=aa;have⟨t,s,a,e⟩:=tH c;subst e;have⟨w1,w2,w3⟩:=bK 0 R.length b;have d:=FT.at_mem (fI b▸a);have f:¬(t.lo<=x/\x<t.hi):=fun h=>hP (FT.wM _ 0 x w1 (t,s) d h.1 h.2);unfold kW;rw[BL a,BL a];congr 1;unfold nl dW;rw[rA];apply oG;intro i _;by_cases e:i=x
 .subst e;simp[f]
 .simp[e]
structure O6 (R:List Pt) (YS:List Nat) (x:Nat) (P:List Nat):Prop where
 lt:∀k∈P,k<(aW R.length).length
 down:P.Pairwise (·>·)
 aside:∀k,k<(aW R.length).length->k∉P->kW (aW R.length) (dW YS x) k=kW (aW R.length) YS k
 inner:∀i (h:i+1<P.length),∃l r s,FT.At (aW R.length) (.node l r) s/\(FT.node l r).wf/\(FT.node l r).root s=P[i]'(rD h)
 last:∃h:P.length-1<P.length,FT.At (aW R.length) (.leaf x) P[P.length-1]
theorem Tt (YS:List Nat) (m:x<R.length):O6 R YS x ((dN 0 R.length).path 0 x):=by
 have a:0<R.length:=aa;have⟨w1,w2,w3⟩:=bK 0 R.length a;have g:=jU R.length a;have d:=g;rw[fI a]at d;have c:∀p∈(dN 0 R.length).subs 0,FT.At (aW R.length) p.1 p.2:=fun p hp=>by rw[fI a];exact FT.kS _ 0 d _ hp
 have⟨n,L,k,f,o⟩:=FT.vR (dN 0 R.length) 0 x w1 aa aa;refine⟨fun k b=>?_,FT.sZ _ 0 x w1 aa aa,fun k b hP=>ME m b hP,fun i h=>?_,?_⟩
 .obtain⟨p,hp,e,-⟩:=FT.mW _ 0 x w1 aa aa k b;rw[<-e];exact(c p hp).lt
 .obtain⟨l,r,s,m1,m2⟩:=n i _ (bZ (rD h)) h;exact⟨l,r,s,c _ m1,FT.qx _ 0 w1 _ m1,m2⟩
 .have j:((dN 0 R.length).path 0 x).length-1<((dN 0 R.length).path 0 x).length:=by rw[f];simp
  refine⟨j,?_⟩;have e:((dN 0 R.length).path 0 x)[((dN 0 R.length).path 0 x).length-1]=k:=by simp[f]
  rw[e];exact c _ o
variable {P:List Nat} (hP:O6 R YS x P)
include hP
theorem O6.sorted {i j:Nat} (a:i<j) (b:j<P.length):P[j]<P[i]:=fZ.1 hP.down i j aa b a
theorem O6.BX {m k:Nat} (b:m<P.length) (d:k<=P[m]) (h:k∈P.take m):False:=by
 have⟨i,hi,e⟩:=jb h;have a:i<m:=by simp at hi;omega
 have c:P[i]'aa=k:=by rw[<-e];simp
 have:=hP.sorted a b;omega
theorem MF (c:cz R R3 (dW YS x)) (k:Nat) (g:k<(aW R.length).length):gz (kW (aW R.length) YS) (P[P.length-1]'hP.last.1) none k=yR (aW R.length) YS (dW YS x) P (P.length-1) k:=by
 have⟨j,d⟩:=hP.last;unfold yR;by_cases e:k=P[P.length-1]
 .subst e;rw[fU,aM (fun h=>hP.BX j (aB _) h),BN c d,aM (by simp[dW])]
 .rw[iq e];by_cases h:k∈P.take (P.length-1)
  .rw[aO h]
  .rw[aM h];refine(hP.aside k g fun b=>?_).symm;have⟨i,hi,a⟩:=jb b;by_cases f:i=P.length-1
   .subst f;exact e a.symm
   .exact h (by rw[<-a];exact List.mem_take_iff_getElem.2 ⟨i,aa,rfl⟩)
theorem O7 (g:cz R R3 (dW YS x)) {m:Nat} (a:m+1<P.length):∃l r s,FT.At (aW R.length) (.node l r) s/\(FT.node l r).root s=P[m]'(rD a)/\
  yR (aW R.length) YS (dW YS x) P (m+1) (l.root s)=kW (aW R.length) (dW YS x) (l.root s)/\yR (aW R.length) YS (dW YS x) P (m+1) (r.root (s+l.size))=kW (aW R.length) (dW YS x) (r.root (s+l.size))/\
  ∀k,gz (yR (aW R.length) YS (dW YS x) P (m+1)) (P[m]'(rD a)) (lowO R (kW (aW R.length) (dW YS x) (l.root s)) (kW (aW R.length) (dW YS x) (r.root (s+l.size)))) k=yR (aW R.length) YS (dW YS x) P m k:=by
 have⟨l,r,s,c,i,e⟩:=hP.inner m a;have d:l.root s<(FT.node l r).root s/\r.root (s+l.size)<(FT.node l r).root s:=by
  have:=l.size_pos;have:=r.size_pos;have j:(FT.node l r).size=l.size+r.size+1:=rfl;unfold FT.root;omega
 have f:∀k,k<(FT.node l r).root s->k∉P.take (m+1):=fun k b h=>by
  rw[e]at b;rw[ig (rD a),bO,ji]at h;rcases h with h|h
  .exact hP.BX (rD a) (vg b) h
  .omega
 refine⟨l,r,s,c,e,aM (f _ d.1),aM (f _ d.2),fun k=>?_⟩;by_cases b:k=P[m]
 .subst b;rw[fU];unfold yR;rw[aM (fun h=>hP.BX (rD a) (aB _) h),<-e,GA g c i]
 .rw[iq b];unfold yR;have:k∈P.take (m+1)↔k∈P.take m:=by
   rw[ig (rD a),bO,ji];exact⟨fun h=>h.resolve_right b,.inl⟩
  simp only[this]
theorem O8:yR (aW R.length) YS (dW YS x) P 0=kW (aW R.length) (dW YS x):=by
 have _:=hP;funext k;unfold yR;rw[lK,aM iA]
end
end
section
open Go.RowKit Go.Sort Go.Shelf Go.Lib Go.Maps
attribute [local irreducible] wpQuiet
attribute [local go_sem] Oper.eT
theorem BZ:gF 103:=dh func103 aN rfl
def JC (w:World) (lo hi tb fb:Nat) (R:List Pt) (YS:List Nat) (cnt:Int) (V:ni) (x:Nat) (e:Ending) (w':World):Prop:=
 (x∉YS/\e=.returned (.bool false)/\Below w.heap.size w w')\/(x∈YS/\e=.returned (.bool true)/\dM w' lo hi tb fb R (kW (aW R.length) (dW YS x)) (cnt-1) V/\ay (fun k=>lo<=k/\k<hi) w w')
theorem GQ {w:World} {lo hi tb fb:Nat} {R:List Pt} {gone:List Bool} {YS:List Nat} {cnt:Int} {V:ni} (H:dM w lo hi tb fb R (kW (aW R.length) YS) cnt V) (aS:cz R gone YS) (c5:R.length<=20000) (dJ:0<=cnt) (dL:cnt<=20000) {x:Nat} (J:x<R.length) (p:Pt) (hp:R[x]=p):
  aK 127 #[aj tb,iV p.1 p.2.1 p.2.2] w (JC w lo hi tb fb R YS cnt V x):=by
 have A:=H.blk;have dg:=H.FD;have B:=H.fu;obtain⟨bP,bQ,b3,-,-,bF⟩:=bV.aG bf ai H.row;rw[b3]at A;have CB:=ag (fun W (A:Below w.heap.size w W)=>OA bP R R.length bQ p W rfl aa (bF.below A) aS.AU);have aX:=E5 aS.AU J;rw[hp]at aX;rw[aX.1,aX.2]at CB;have cK:=ag bF;have cm:bU R x=p:=by rw[dE J];exact hp
 have cJ:=ag cm;have az:=ag J;obtain⟨bd,be,bc⟩:=p;obtain⟨w1,aE⟩:∃w1,w1=w.alloc (.cells #[ae bd,ae be,ak bc] 29):=⟨_,rfl⟩;have bu:Below w.heap.size w w1:=by rw[aE];exact(aJ _ _).alloc (aB _) _
 have ac:w1.heap[w.heap.size]? =some (.cells #[ae bd,ae be,ak bc] 29 (0,0)):=by rw[aE];exact df w _
 have bE:w.heap.size<w1.heap.size:=(aY.1 ac).1;have a0:=(bu.block tb dg).trans A;have T:w1.cell? (af tb 0)=some (.slice bP R.length bQ):=aD a0;have a9:w1.cell? (af w.heap.size 0)=some (ae bd):=aD ac;have ba:w1.cell? (af w.heap.size 1)=some (ae be):=aD ac;have bb:w1.cell? (af w.heap.size 2)=some (ak bc):=aD ac;have de:0<R.length:=aa;have cr:=J;obtain⟨n,bD⟩:∃n,n=R.length:=⟨_,rfl⟩;rw[<-bD]at c5 T CB de cr;have u:=ag bD;have ao:=ag bu;have bX:=ag H;have bm:=ag aS;have b1:=ag (Tt YS J);have dh:tb<w1.heap.size:=aa;clear H bF A b3 bD bu ac a0 aX hp J aS cm;have d0:((n:Int)==0)=false:=aF;have d1:(n==0)=false:=aF;have d2:decide (n=0)=false:=aF;go_enter func127,ntmps127
 go_upto_region 1 with fail
 rw[<-aE];clear aE
 go_upto_region 3 with fail
 have bZ:Hid (∀b:aR w1,aK 191 #[.slice bP n bQ,iV bd be bc,.func (.func 94) #[] #[]] b.W fun e w'=>e=.returned (.tuple #[ae (x:Nat),.bool true])/\Below b.W.heap.size b.W w'):=fun b=>CB.o b.W (ao.o.trans (b.h.mono ao.o.size));clear CB;have cY:=ah T;have c0:=ah a9;have c1:=ah ba;have c2:=ah bb;refine bI aN aN ?_
 repeat(quiet_step ((go_at_call 191;exact dK (bZ.o _))))
 refine jN ?_;intro wc cq;have I:Below w1.heap.size w1 wc:=by obtain⟨b,rfl⟩:=cq;exact b.h
 have T:=(I.cell (p:=(af tb 0)) dh).trans T;have a9:=(I.cell (p:=(af w.heap.size 0)) bE).trans a9;have ba:=(I.cell (p:=(af w.heap.size 1)) bE).trans ba;have bb:=(I.cell (p:=(af w.heap.size 2)) bE).trans bb;have Q:Hid (Below w.heap.size w wc):=ao.o.trans (I.mono ao.o.size);clear cq I cY c0 c1 c2 bZ;have av:Hid (dM wc lo hi tb fb R (kW (aW R.length) YS) cnt V):=bX.o.below Q.o B.2.2.2.2;have cf:=av.o.blk;have bo:wc.cell? (af tb 2)=some (aj fb):=aD cf;obtain⟨b,off,cV,c7,c⟩:=(cK.o.below Q.o).get (by have:=u.o;omega);have bM:=c x az.o 0 aa;have bN:=c x az.o 1 aa;have bO:=c x az.o 2 aa;rw[<-dE az.o,cJ.o]at bM bN bO;simp only[dw,fG,dx,dH]at bM bN bO;subst cV;clear c cf bX
 go_upto_region 4 with fail
 go_quiet (fail)
 obtain⟨w3,aL⟩:∃w3,w3=wc.drewN nq:=⟨_,rfl⟩;have bv:Below wc.heap.size wc w3:=by rw[aL];exact Below.bn _ _
 have bo:w3.cell? (af tb 2)=some (aj fb):=by rw[aL];exact bo
 have ar:Hid (dM w3 lo hi tb fb R (kW (aW R.length) YS) cnt V):=av.o.below bv av.o.fu.2.2.2.2;have ap:Hid (Below w.heap.size w w3):=Q.o.trans (bv.mono Q.o.size);have bT:=ag (vG lo fb n x V.fv aa cr w3 (by rw[u.o];exact ar.o.iF))
 go_upto_region 6 with fail
 rw[<-aL];clear aL bv av Q bM bN bO a9 ba bb T c7
 go_wp2_with fail
 refine bT.o.mono ?_;rintro e w4 ⟨pv,rfl,a4,bw⟩;have S:Hid (dM w4 lo hi tb fb R (kW (aW R.length) YS) cnt V):=ar.o.below bw ar.o.fu.2.2.2.2;have bY:Hid (Below w.heap.size w w4):=ap.o.trans (bw.mono ap.o.size);have dY:w.heap.size<=w3.heap.size:=ap.o.size;obtain⟨P,aQ⟩:∃P,P=(dN 0 n).path 0 x:=⟨_,rfl⟩;have dG:P.length<=n+1:=by
  have b4:=FT.oH (dN 0 n) 0 x;have dF:=vC 0 n n (vg (Eg));rw[aQ];omega
 rw[<-aQ]at a4;have D:Hid (O6 R YS x P):=by rw[aQ,u.o];exact b1.o
 clear aQ;obtain⟨dz,cv,rfl,-,-,ad⟩:=Rd.aG (enc:=fB) a4;have bl:Hid (w4.ownsRow w3.heap.size 3 1 (.slice dz P.length cv) P.length (P.map fB)):=a4;obtain⟨ck,b6⟩:=D.o.last;have a2:=D.o.lt _ (bG ck);obtain⟨aA,bL,cW,dI,b8⟩:=ad.get aa;have bi:=b8 (P.length-1) ck;simp only[fB]at bi;obtain⟨F,ch,br,cg,ci,da,-,dO,c,-⟩:=S.o.holds (by have:=u.o;omega);obtain⟨q,O⟩:=c _ a2;rw[show kW (aW R.length) YS P[P.length-1]=if x∈YS then some x else none from BN bm.o b6]at q;have Z:=S.o.blk;rw[br]at Z;have E:w4.cell? (af tb 4)=some (ax F (aW R.length).length ch):=aD Z;have cS:w4.cell? (af tb 5)=some (ae cnt):=aD Z;have dB:w4.frozen? (af tb 5)=false:=aD Z;have cB:=ag br;have cG:Hid (P[P.length-1]=P[P.length-1]):=rfl;have c4:(aW R.length).length<=40000:=by have:=u.o;rw[cZ];omega
 have cU:((P.length-1:Nat):Int)=(P.length:Int)-1:=aa;have dZ:=S.o.FD;have dP:F≠tb:=da;obtain⟨lf,bB⟩:∃lf,lf=P[P.length-1]:=⟨_,rfl⟩;obtain⟨M,bt⟩:∃M,M=(aW R.length).length:=⟨_,rfl⟩;rw[<-bB]at bi q O a2;rw[<-bt]at E a2 c4;have cF:=ag bB;have bk:=ag bt;obtain⟨m1,bC⟩:∃m1,m1=P.length-1:=⟨_,rfl⟩;rw[<-bC]at bi;have dT:(P.length:Int)-1=(m1:Int):=aa;have dU:(m1:Int)<(P.length:Int):=aa;have dV:m1<P.length:=aa;have cH:=ag bC;clear bC;subst cW;clear Z br c a4 ad bw bT ar ap bo b8 bB bt b6 cU cG;by_cases z:x∈YS
 .rw[aO z]at q;simp only[oh]at q;have b5:=bm.o.drop ((bm.o.live x).1 z);have aw:=ag b5;have dC:((x:Int)==-1)=false:=by first|(simp;done)|(simp;omega)
  have dD:decide ((x:Int)=-1)=false:=by first|(simp;done)|(simp;omega)
  have cN:=ag z;obtain⟨bR,U⟩:∃bR,bR=w4.setCell (af F lf) (.int .i64 (-1)):=⟨_,rfl⟩;obtain⟨w6,X⟩:∃w6,w6=bR.setCell (af tb 5) (.int .i64 (cnt-1)):=⟨_,rfl⟩;have cI:Hid (dM w6 lo hi tb fb R (yR (aW R.length) YS (dW YS x) P m1) (cnt-1) V):=by
   rw[X,U];have b4:=((S.o.nN cB.o (by rw[<-bk.o];exact a2) none).BB (cnt-1));refine b4.congr fun k dd=>?_;rw[cF.o,cH.o];exact(MF D.o aw.o k dd).symm
  have cD:Hid (ay (fun k=>lo<=k/\k<hi) w w6):=by
   rw[X,U];exact((((ay.refl _ w).below bY.o).set (a:=(af F lf)) _ (.inl ⟨cg,ci⟩)).set (a:=(af tb 5)) _ (.inl ⟨B.1,B.2.1⟩))
  have b2:Hid (w6.ownsRow w3.heap.size 3 1 (.slice (some (af aA bL)) P.length cv) P.length (P.map fB)):=by
   have bK:ay (fun k=>lo<=k/\k<hi) w4 w6:=by rw[X,U];exact(((ay.refl _ w4).set (a:=(af F lf)) _ (.inl ⟨cg,ci⟩)).set (a:=(af tb 5)) _ (.inl ⟨B.1,B.2.1⟩))
   exact aU bl.o bK (fun g e G=>by have:=(bl.o.lt g e).1;have:=G.2;have:=B.2.2.2.2;omega)
  have b0:Hid (w6=(w4.setCell (af F lf) (.int .i64 (-1))).setCell (af tb 5) (.int .i64 (cnt-1))):=by rw[X,U];rfl
  clear U X b5 z S bl b1
  go_upto_region 12 with fail
  rw[<-b0.o];clear b0 E cS dB q O bi;go_wp2
  go_loopw [10] (fun bH wr=>∃(m:Nat) (i:Int),bH=.int .i64 i/\i=(m:Int)-1/\m<=m1/\Hid (dM wr lo hi tb fb R (yR (aW R.length) YS (dW YS x) P m) (cnt-1) V)/\Hid (ay (fun k=>lo<=k/\k<hi) w6 wr)) (fun bH _=>(intOf bH+1).toNat)
  case atStart=>exact⟨m1,_,rfl,aa,aB _,cI,ag (ay.refl _ _)⟩
  case round=>
   obtain⟨m,i,rfl,dc,dX,t,bj⟩:=hrel;by_cases dS:0<m
   .obtain⟨j,rfl⟩:∃j,m=j+1:=⟨m-1,aa⟩;obtain rfl:i=(j:Int):=aa;clear dc;obtain⟨l,r,s,aT,ce,cc,cd,cp⟩:=O7 D.o aw.o (m:=j) aa;have cj:j<P.length:=aa;have dR:(j:Int)<(P.length:Int):=aa;have cx:=aU b2.o bj.o (fun g e G=>by have:=(b2.o.lt g e).1;have:=G.2;have:=B.2.2.2.2;omega);obtain⟨_,_,aC,-,-,ad⟩:=Rd.aG (enc:=fB) cx;injection aC with aC _ _;obtain⟨cP,dy,bq,c9,b9⟩:=ad.get aa;obtain⟨rfl,rfl⟩:aA=cP/\bL=dy:=by rw[<-aC]at bq;simpa using bq
    have an:=b9 j cj;simp only[fB]at an;obtain⟨c3,dv,cn,env,cw⟩:=t.o.nodes (by have:=u.o;omega);obtain⟨v,cT,bs,a0,db,dQ,-,a1,c,-⟩:=t.o.holds (by have:=u.o;omega);obtain⟨-,n0,al,am,a5,a6,a7,a8⟩:=mR cw aT.get;have a3:=D.o.lt _ (bG cj);have cl:=aT.left.lt;have co:=aT.right.lt;obtain⟨q,O⟩:=c _ a3;obtain⟨y1,-⟩:=c _ cl;obtain⟨y2,-⟩:=c _ co;rw[cc]at y1;rw[cd]at y2;have aV:=t.o.blk;rw[env,bs]at aV;have bp:wr.cell? (af tb 3)=some (.slice (some (af c3 dv)) (aW R.length).length cn):=aD aV;have E:wr.cell? (af tb 4)=some (ax v (aW R.length).length cT):=aD aV;have ca:((FT.node l r).top s).l=((l.root s:Nat):Int):=by show((s+l.size:Nat):Int)-1=_;unfold FT.root;have:=l.size_pos;omega
    have cb:((FT.node l r).top s).r=((r.root (s+l.size):Nat):Int):=by show((s+l.size+r.size:Nat):Int)-1=_;unfold FT.root;have:=r.size_pos;omega
    rw[ca]at al;rw[cb]at am;have c6:=t.o.FD;have bS:=ag (fun W (A:Below wr.heap.size wr W)=>yQ (t.o.Q9.below A) (by have:=u.o;omega) (kW (aW R.length) (dW YS x) (l.root s)) (kW (aW R.length) (dW YS x) (r.root (s+l.size))) (fun i h=>BM aw.o h) (fun i h=>BM aw.o h));have cL:=ag cp;have cC:=ag bs;rw[ce]at n0 al am a5 a6 a7 a8;rw[<-bk.o]at bp E a3 cl co;obtain⟨N,bA⟩:∃N,N=P[j]:=⟨_,rfl⟩;have cE:=ag bA;rw[<-bA]at an n0 al am a5 a6 a7 a8 q O a3;clear bA ce cp cc cd aV env bs c cw b9 cx ad aC bq ca cb aT;generalize lowO R (kW (aW R.length) (dW YS x) (l.root s)) (kW (aW R.length) (dW YS x) (r.root (s+l.size)))=cu at*;generalize kW (aW R.length) (dW YS x) (l.root s)=cO at*;generalize kW (aW R.length) (dW YS x) (r.root (s+l.size))=cQ at*;generalize l.root s=kl at*;generalize r.root (s+l.size)=kr at*;generalize(FT.node l r).top s=d at*;obtain⟨f,aP⟩:∃f,f=(wr.alloc (.cells #[.int .u8 d.kind,ae kl,ae kr,ae d.fr,ae d.J8,ae 0,ae d.item] 163)).drew:=⟨_,rfl⟩;have y:Below wr.heap.size wr f:=by rw[aP];exact((aJ _ _).alloc (aB _) _).drew
    have L:f.heap[wr.heap.size]? =some (.cells #[.int .u8 d.kind,ae kl,ae kr,ae d.fr,ae d.J8,ae 0,ae d.item] 163 (0,0)):=by rw[aP];exact df wr _
    have aq:=ag y;have cM:=ag L;have bW:=ag aP;clear aP y L;have bJ:=ah bp;have du:=ah an;have dl:=ah n0;have dm:=ah al;have dn:=ah am;have dp:=ah a5;have dq:=ah a6;have dr:=ah a7;have ds:=ah a8
    go_upto_region 15 with fail
    refine au (fun W=>∃p:aR wr,W=p.W) [11] [(0,false),(1,false),(2,false),(3,true),(4,false),(5,false),(6,false),(7,true),(8,false),(9,true)] ⟨⟨_,(aJ _ _).drew⟩,rfl⟩ 2 ?_;refine aH 10 rfl fun K Y=>?_;go_simp;refine Y _ _ (fun _ _=>⟨⟨_,((aJ _ _).drew).alloc (aB _) _⟩,rfl⟩) ?_;clear Y K;refine aI [11] ?_;clear bJ du dl dm dn dp dq dr ds n0 al am a5 a6 a7 a8 bp
    go_upto_region 16 with fail
    rw[<-bW.o];clear bW;have L:=cM.o;have y:=aq.o;have c8:aA<wr.heap.size:=c9;have cs:f.cell? (af wr.heap.size 1)=some (ae kl):=aD L;have ct:f.cell? (af wr.heap.size 2)=some (ae kr):=aD L;have cR:=(y.cell (p:=(af tb 4)) c6).trans E;have dA:=(y.cell (p:=(af aA (bL+j))) c8).trans an;have cy:=(y.cell (p:=(af v kl)) a1).trans y1;have cA:=(y.cell (p:=(af v kr)) a1).trans y2;have di:=ah cs;have dj:=ah ct;have bJ:=ah cR;have dk:=ah dA;have bK:=ah cy;have dt:=ah cA;clear L y cs ct cy cA y1 y2 E an;refine au (fun W=>∃p:aR f,W=p.W) [26,27] [(0,false),(1,false),(2,false),(3,true),(4,false),(5,false),(6,false),(7,true),(8,false),(9,false),(10,false),(11,false),(12,true),(13,false),(14,true),(15,false),(16,true),(17,false),(18,false),(19,false),(20,true),(21,false),(22,true),(23,false),(24,true)] ⟨⟨_,(aJ _ _).drew⟩,rfl⟩ 3 ?_;refine aH 25 rfl fun K Y=>?_;refine aZ BZ rfl _ _ rfl (vals:=#[aj tb,ae (oh cO),ae (oh cQ)]) rfl (bS.o f.drew aq.o.drew) ?_;rintro e bg ⟨rfl,b7⟩;have bx:Below f.heap.size f bg:=((aJ f.heap.size f).drew).trans b7;refine⟨_,rfl,Y _ _ (fun _ _=>⟨⟨_,bx⟩,rfl⟩) ?_⟩;clear Y K;refine aI [26,27] ?_;have ab:Below wr.heap.size wr bg:=aq.o.trans (bx.mono aq.o.size);have d3:=(ab.cell (p:=(af v N)) a1).trans q;have d4:bg.frozen? (af v N)=false:=by
     have G:=O;simp only[World.frozen?]at G |-;rw[ab.block v a1];exact G
    have C:Hid (∀bh,bh=bg.setCell (af v N) (.int .i64 (oh cu))->dM bh lo hi tb fb R (yR (aW R.length) YS (dW YS x) P j) (cnt-1) V/\ay (fun k=>lo<=k/\k<hi) w6 bh):=fun bh cX=>by
     subst cX;refine⟨((t.o.below ab t.o.fu.2.2.2.2).nN cC.o (by rw[<-bk.o];exact a3) cu).congr fun k _=>?_,(bj.o.below ab).set (a:=(af v N)) _ (.inl ⟨a0,db⟩)⟩;rw[cE.o];exact(cL.o k).symm
    clear ab bx b7 q O di dj bJ dk bK dt bS;go_wp2;exact⟨⟨j,by first|rfl|omega,aa,(C.o _ rfl).1,(C.o _ rfl).2⟩,by simp[intOf];omega⟩
   .obtain rfl:m=0:=aa;have d9:decide (0<=i)=false:=aF;have bz:=t.o;rw[O8 D.o]at bz;have C:Hid (JC w lo hi tb fb R YS cnt V x (.returned (.bool true)) wr):=.inr ⟨cN.o,rfl,bz,cD.o.trans bj.o⟩;clear bz;go_wp2;go_ret;exact C.o
 .rw[aM z]at q;simp only[oh]at q;have C:Hid (JC w lo hi tb fb R YS cnt V x (.returned (.bool false)) w4):=.inl ⟨z,rfl,bY.o⟩;clear z;go_wp2;go_ret;exact C.o
theorem JD (a:Option Addr) (c:Nat) (l:List Pt) (w:World) (s:bV dw 3 w a l) (O:l.length<=1000000) (x:HZ l):
  aK 102 #[.slice a l.length c] w (fV w (.bool (lF l))):=by
 have B:=ag s;have E:=ag x;clear s x;have N:=@run_makeMap prog;go_enter func102,ntmps102;go_wp2
 go_loopw [9] (fun k wr=>∃i:Nat,k=.int .i64 i/\i<=l.length/\Below w.heap.size w wr/\Hid (∃(D:DataW Unit),wr.ownsMap prog 27 (plainElem prog 3) w.heap.size i D/\nL D l i)) (fun k _=>l.length-(intOf k).toNat)
 case atStart=>exact⟨0,rfl,bH _,(aJ _ _).alloc (aB _) _,⟨.map [],xK _ _ _ _,[],IsM.empty _ _⟩⟩
 case round=>
  obtain⟨i,rfl,hi,e,HO⟩:=hrel;by_cases g:i<l.length
  .obtain⟨b,off,q,M,f⟩:=(B.o.below e).get aa;have K:=f i g 0 aa;have x1:=f i g 1 aa;have x2:=f i g 2 aa;simp only[dw,fG,dx,dH]at K x1 x2;have G:Hid (keyOf prog 27 (.int .u32 l[i].2.2)=some (.int .u32 l[i].2.2)):=x8 underlying27 (E.o _ (bG _));obtain⟨D,t,d⟩:=HO.o;have n:=ag (d.put g);have L:=e.size;have m:=ag q;clear HO f d q;generalize l[i]=p at*;obtain⟨I,J,H⟩:=p;obtain rfl:=m.o;clear m;have h:=t.kept (qN wr (.cells #[ae I,ae J,ak H] 29) none) aA
   go_wp2_with (at_mapUpdate;refine xD _ rfl _ _ _ 26 rfl 27 3 (int_keyed underlying27) underlying26 _ w.heap.size i _ rfl h dI _ _ _ rfl rfl G.o _ [] (uY underlying3 (by simp[Lit.wf,IntKind.min,IntKind.max,IntKind.bits,IntKind.signed];omega)) ?_;intro w3 u r)
   have y:Below w.heap.size wr w3:=(((aJ _ wr).alloc aa _)).grown r aF (fun j F=>by cases F;omega);have A:Hid (∃(D:DataW Unit),w3.ownsMap prog 27 (plainElem prog 3) w.heap.size (i+1) D/\nL D l (i+1)):=⟨_,u,n.o⟩;have z:=e.trans y;clear u r h t n;go_wp2;go_roundw
   case rel=>exact⟨i+1,by go_num,aa,z,A⟩
   case measure=>exact dX
  .obtain rfl:i=l.length:=aa;obtain⟨D,h,d⟩:=HO.o;have v:=d.size;have C:=ag v;clear v d HO
   go_wp2_with (at_len;refine wpList_len_own _ rfl _ 26 rfl 27 3 underlying26 _ w.heap.size _ _ rfl h ?_)
   go_ret;exact⟨by rw[C.o];rfl,e⟩
theorem dM.grow {w:World} {lo hi a tb fb:Nat} {R:List Pt} {h:iI} {cnt:Int} {V:ni} (H:dM w lo hi tb fb R h cnt V) (b:hi<=a) (c:a<=w.heap.size):dM w lo a tb fb R h cnt V:=
 ⟨H.blk,⟨H.fu.1,by have:=H.fu.2.1;omega,H.fu.2.2.1,by have:=H.fu.2.2.2.1;omega,c⟩,H.row,H.xs,H.iF,H.jd,H.og,fun v d g e=>bT (H.top v d g e) b⟩
theorem O9 (n:Nat):H5 (fun _=>some 0) n=List.replicate n (.int .i64 0):=by
 unfold H5;refine rF aA fun i a b=>?_;simp[oh]
def KP (w:World) (R:List Pt) (e:Ending) (w':World):Prop:=
 ∃tb fb V,e=.returned (.tuple #[aj tb,ae 0])/\dM w' w.heap.size w'.heap.size tb fb R (kW (aW R.length) (dQ R)) R.length V/\Below w.heap.size w w'
structure Tu (w:World) (lo fb n:Nat) (rv nv fv:Value) (l:List Pt):Prop where
 row:w.ownsRow lo 29 3 rv n (l.flatMap dw)
 jd:w.ownsRow lo 163 7 nv (aW n).length ((aW n).flatMap oM)
 iF:nJ w lo fb n fv
 Qb:lo<=fb
theorem Tu.kept {S:Nat->Prop} {w w':World} {lo fb n:Nat} {j i g:Value} {l:List Pt} (h:Tu w lo fb n j i g l) (K:ay S w w') (hS:∀k,k<w.heap.size->S k->∃cs t fr,w.heap[k]? =some (.cells cs t fr)/\t≠29/\t≠163/\t≠236):Tu w' lo fb n j i g l:=by
 refine⟨oW h.row K fun k f e=>?_,oW h.jd K fun k f e=>?_,⟨bz K h.iF.blk fun e=>?_,oW h.iF.row K fun k f e=>?_⟩,h.Qb⟩
 .obtain⟨cs,t,fr,a,b,c,d⟩:=hS k f e;exact⟨cs,t,fr,a,b⟩
 .obtain⟨cs,t,fr,a,b,c,d⟩:=hS k f e;exact⟨cs,t,fr,a,c⟩
 .have m:=(aY.1 h.iF.blk).1;have⟨cs,t,fr,a,b,c,d⟩:=hS fb m e;have:=a.symm.trans h.iF.blk;injection this with this;injection this with _ this _;exact d this
 .obtain⟨cs,t,fr,a,b,c,d⟩:=hS k f e;exact⟨cs,t,fr,a,c⟩
def xk (N:List Nd) (YS:List Nat) (i:Nat):iI:=fun k=>if k<i then kW N YS k else some 0
theorem UE {n:Nat} {t:FT} {s:Nat} (b:FT.At (aW n) t s):t.wf/\t.hi<=n:=by
 have a:=kV b;have⟨w1,w2,w3⟩:=bK 0 n a;have c:=FT.at_mem (fI a▸b);have:=FT.sj (dN 0 n) 0 w1 _ c;exact⟨FT.qx _ 0 w1 _ c,by simp only at this;omega⟩
theorem MG (a:Option Addr) (c:Nat) (l:List Pt) (w:World) (bn:bV dw 3 w a l) (eh:l.length<=20000) (dj:HZ l) (hu:lF l=true):
  aK 38 #[.slice a l.length c] w (KP w (eQ l)):=by
 have a6:=JD a c l w bn aa dj;rw[hu]at a6;have et:=ag bn;obtain⟨n,bo⟩:∃n,n=l.length:=⟨_,rfl⟩;have cw:=ag (fun W (ee:Below w.heap.size w W)=>oP a l n c W bo.symm (bn.below ee) aa);have cH:=ag bo;rw[<-bo]at eh a6 |-;have cx:=ag (fun W=>yo n aa W);clear bo bn;have d1:decide ((n:Int)>2147483648)=false:=aF;have d2:decide ((2147483648:Int)<(n:Int))=false:=aF;have d3:decide (2147483648<n)=false:=aF;have c7:(ids l).Nodup:=by unfold lF at hu;simpa using hu
 have bE:=ag c7;clear c7 hu dj;go_enter func38,ntmps38
 go_wp2_with (go_at_call 102;refine a6.mono ?_;rintro e w1 ⟨rfl,bk⟩;clear a6)
 go_wp2_with fail
 refine(cx.o w1).mono ?_;rintro e w2 ⟨rfl,bb⟩;have aN:Hid (Below w.heap.size w w2):=by rw[bb];exact bk.alloc bk.size _
 have bB:Hid (w2.heap[w1.heap.size]? =some (lq 0 0 (aL) n)):=by rw[bb];exact df w1 _
 obtain⟨fb,b2⟩:∃fb,fb=w1.heap.size:=⟨_,rfl⟩;have bm:w.heap.size<=fb/\fb<w2.heap.size:=by rw[bb,b2];exact⟨bk.size,aA⟩
 rw[<-b2]at bB |-;clear bb bk b2 cx
 go_wp2_with fail
 refine(cw.o w2 aN.o).mono ?_;rintro e w3 ⟨eU,rfl,b8,bT⟩;have b1:=(bT.block fb bm.2).trans bB.o;have bv:Hid (Below w.heap.size w w3):=aN.o.trans (bT.mono aN.o.size);have cI:=ag (bJ b8 aN.o.size);have cz:=ag (gJ fb n aa w3 b1);have cD:=ag b1;obtain⟨x,u,rfl⟩:=fF b8;clear b8 bT b1 cw bB aN
 go_wp2_with fail
 refine cz.o.mono ?_;rintro e w4 ⟨G,eo,rfl,jh,b6,c2,J⟩;have b9:=bv.o.size;have cM:Hid (w4.ownsRow w.heap.size 29 3 (.slice x n u) n (l.flatMap dw)):=I7 cI.o ai cD.o J;have bD:Hid (nJ w4 w.heap.size fb n G):=⟨c2,bJ jh b9⟩;have cG:Hid (w4.ownsRow w.heap.size 163 7 eo (aW n).length ((aW n).flatMap oM)):=bJ b6 b9;have P:Hid (Below w.heap.size w w4):=bv.o.trans (J.toBelow b9 (fun k h=>by have:=bm.1;omega));obtain⟨A,nc,rfl⟩:=fF b6;obtain⟨M,bi⟩:∃M,M=(aW n).length:=⟨_,rfl⟩;have a9:=ag bi;have ez:M<=40000:=by rw[bi,cZ];omega
 rw[<-bi];clear jh b6 c2 J cz bi cI cD bv
 go_upto_region 9 with fail
 obtain⟨wc,bh⟩:∃wc,wc=w4.alloc (.cells #[.slice x n u,aL,aj fb,.slice A M nc,aL,ae n] 161):=⟨_,rfl⟩;have bU:Below w4.heap.size w4 wc:=by rw[bh];exact(aJ _ _).alloc (aB _) _
 obtain⟨tb,bq⟩:∃tb,tb=w4.heap.size:=⟨_,rfl⟩;have cU:wc.heap[tb]? =some (Mx (.slice x n u) (aL) fb (.slice A M nc) (aL) n):=by rw[bh,bq];exact df w4 _
 rw[<-bh,<-bq];have aQ:Hid (Tu wc w.heap.size fb n (.slice x n u) (.slice A M nc) G l):=by
  have K:ay (fun _=>False) w4 wc:=(ay.refl _ w4).below bU;exact⟨aU cM.o K (fun _ _ h=>h),by rw[<-a9.o];have:=aU cG.o K (fun _ _ h=>h);rwa [<-a9.o]at this,⟨bz K bD.o.blk (fun h=>h),aU bD.o.row K (fun _ _ h=>h)⟩,bm.1⟩
 have aS:=ag cU;have bu:Hid (Below w.heap.size w wc):=P.o.trans (bU.mono P.o.size);have ei:w.heap.size<=tb:=by rw[bq];exact P.o.size
 clear bh bU cU cM bD cG P bq;have dh:=(aY.1 aS.o).1;have cA:=ag (yA cH.o.symm aa aQ.o.row bE.o);have cV:=aS.o;have bL:wc.cell? (af tb 0)=some (.slice x n u):=aD cV;clear cV
 go_wp2_with fail
 refine cA.o.mono ?_;rintro e w4 ⟨rfl,db,J⟩;have cS:Tu w4 w.heap.size fb n (.slice x n u) (.slice A M nc) G (eQ l):=by
  have h:=aQ.o;refine⟨db,oW h.jd J fun k aw y=>?_,⟨bz J h.iF.blk fun y=>?_,oW h.iF.row J fun k aw y=>?_⟩,h.Qb⟩
  .obtain⟨cs,fr,e⟩:=BV h.row y;exact⟨cs,_,fr,e,ai⟩
  .exact bg h.row h.iF.blk ai fb y rfl
  .obtain⟨cs,fr,e⟩:=BV h.row y;exact⟨cs,_,fr,e,ai⟩
 have aT:Hid (w4.heap[tb]? =some (Mx (.slice x n u) (aL) fb (.slice A M nc) (aL) n)):=bz J aS.o (fun h=>bg aQ.o.row aS.o ai tb h rfl);have P:Hid (Below w.heap.size w w4):=bu.o.trans (J.toBelow bu.o.size (fun k h=>(aQ.o.row.lt k h).1));have bF:=ag cS;have X:(eQ l).length=n:=by rw[(dO l).length_eq];exact cH.o.symm
 have cT:(ids (eQ l)).Nodup:=((dO l).map _).nodup_iff.2 bE.o;have cL:Hid ((eQ l).Pairwise kH/\(ids (eQ l)).Nodup):=⟨fQ bE.o,cT⟩;clear db J cS aQ aS bu cA cT bL dh;generalize ea:eQ l=R at*;clear ea;have dh:=(aY.1 aT.o).1;have di:=aT.o;have bL:w4.cell? (af tb 0)=some (.slice x n u):=aD di;clear di
 go_wp2_with fail
 go_loopg [44] n (fun en eq wr=>∃(i:Nat) (cu:Value),eq=.int .i64 i/\i<=n/\n-i<=en/\Hid (wr.heap[tb]? =some (Mx (.slice x n u) cu fb (.slice A M nc) (aL) n))/\Hid (wr.ownsRow w4.heap.size 2 1 cu i (((bS R).take i).map (Value.int .i64)))/\Hid (ay (fun k=>k=tb) w4 wr))
 case atStart=>exact⟨0,_,rfl,bH _,aa,aT,dA _ _ _ _,ay.refl _ _⟩
 case round=>
  obtain⟨i,cu,rfl,hi,eK,ab,ar,Y⟩:=hrel;by_cases eH:i<n
  .have de:=aU bF.o.row Y.o (fun g h y=>bg bF.o.row aT.o ai g h y.symm);obtain⟨_,_,d4,-,-,dc⟩:=bV.aG bf ai de;injection d4 with dW dY dZ;subst dW;clear dY dZ;obtain⟨b,off,d0,eA,ap⟩:=dc.get aa;have ct:=ap i aa 0 aa;have x1:=ap i aa 1 aa;have x2:=ap i aa 2 aa;simp only[dw,fG,dx,dH]at ct x1 x2;have dl:(bS R).take (i+1)=(bS R).take i++[R[i].1]:=by
    have h:i<(bS R).length:=by unfold bS;simp;omega
    rw[ig h];simp[bS]
   have cP:=ag dl;subst d0;clear ap dc dl de;generalize R[i]=p at*;obtain⟨a5,du,dt⟩:=p;simp only at cP ct x1 x2;have cd:=ab.o;have br:=(aY.1 cd).1;obtain⟨E,F,rfl⟩:=fF ar.o
   go_upto_region 13 with fail
   obtain⟨w6,bc⟩:∃w6,w6=wr.alloc (.cells #[ae a5,ae du,ak dt] 29):=⟨_,rfl⟩;have a2:Below wr.heap.size wr w6:=by rw[bc];exact(aJ _ _).alloc (aB _) _
   have dk:w6.heap[wr.heap.size]? =some (.cells #[ae a5,ae du,ak dt] 29 (0,0)):=by rw[bc];exact df wr _
   have cb:=(a2.block tb br).trans cd;have eM:=Y.o.size;have eN:=a2.size;have ce:∀g,(Value.slice E i F).ownBlock=some g->w4.heap.size<=g/\g<wr.heap.size:=fun g h=>ar.o.lt g h;have d8:=ah (w:=w6) (ad:=(af tb 1)) (v:=.slice E i F) (aD cb);have d9:=ah (w:=w6) (ad:=(af wr.heap.size 0)) (v:=.int .i64 a5) (aD dk);have cO:=ag (az ar.o a2);have cE:Hid (ay (fun k=>k=tb) w4 w6):=Y.o.below a2;have cN:=ag cb;rw[<-bc];clear bc a2 dk cb cd ct x1 x2;refine au (fun W=>∃p:aR w6,W=p.W) [8,9,10,11] [(0,false),(1,false),(2,false),(3,false),(4,true),(5,false),(6,true)] ⟨⟨_,(aJ _ _).drew⟩,rfl⟩ 5 ?_;refine aH 7 rfl fun K U=>?_;go_simp;refine U _ _ (fun _ _=>⟨⟨_,((aJ _ w6).alloc (aB _) _).drew⟩,rfl⟩) ?_;clear U K;refine aH 8 rfl fun K U=>?_;refine bC zG w4.heap.size (w:=(w6.alloc (.cells #[ae a5] 2)).drew) (az cO.o ((aJ _ w6).alloc (aB _) _|>.drew)) [.int .i64 a5] rfl (by simp[Value.oneCell']) rfl (.tmp 52) (.tmp 55) rfl rfl w6.heap.size rfl (kZ _ _) dI aa aF ?_;intro am al f b7 c4 eB eL;have c3:w6.grownBy f (Value.slice E i F).ownBlock:=dP (bM ((aJ _ w6).alloc (aB _) _|>.drew)) c4;have bI:ay (fun k=>(Value.slice E i F).ownBlock=some k) w6 f:=(ay.refl _ w6).grown c3 (fun k aC=>.inl aC);refine U _ _ (fun _ h=>absurd aA h) ?_;clear U K;refine aI [9,10,11] ?_;have bp:=bz bI cN.o (fun h=>by have:=(ce tb h).1;omega);have eT:f.cell? (af tb 1)=some (.slice E i F):=aD bp;have f8:f.frozen? (af tb 1)=false:=aD bp;have dK:Hid ((f.setCell (af tb 1) (ax am (i+1) al)).heap[tb]? =some (Mx (.slice (some (af b off)) n u) (ax am (i+1) al) fb (.slice A M nc) (aL) n)):=dC f tb 1 _ _ _ bp;have cQ:ay (fun k=>k=tb) f (f.setCell (af tb 1) (ax am (i+1) al)):=(ay.refl (fun k=>k=tb) f).set (a:=(af tb 1)) (ax am (i+1) al) (.inl rfl);have dN:Hid ((f.setCell (af tb 1) (ax am (i+1) al)).ownsRow w4.heap.size 2 1 (ax am (i+1) al) (i+1) (((bS R).take (i+1)).map (Value.int .i64))):=by
    have z:=aU (S:=fun k=>k=tb) b7 cQ (fun g h y=>by have:=(b7.lt g h).1;omega);show World.ownsRow _ _ _ _ _ _ _;rw[cP.o,bP];exact z
   have dJ:Hid (ay (fun k=>k=tb) w4 (f.setCell (af tb 1) (ax am (i+1) al))):=((cE.o.mono (S':=fun k=>k=tb\/w4.heap.size<=k) (fun k h=>.inl h)).trans (bI.mono (fun k h=>.inr (ce k h).1))).strip.set (a:=(af tb 1)) _ (.inl rfl);clear bI c3 c4 b7 bp d8 d9 cO cN cE ce ar ab Y cQ;go_wp2
   go_roundg (n-(i+1))
   case measure=>omega
   case rel=>exact⟨i+1,_,by go_num,aa,aB _,dK,dN,dJ⟩
  .obtain rfl:i=n:=aa;have cJ:Hid (Tu wr w.heap.size fb i (.slice x i u) (.slice A M nc) G R):=bF.o.kept Y.o (fun k aw y=>by subst y;exact⟨_,_,_,aT.o,ai,ai,ai⟩);have bw:Hid (Below w.heap.size w wr):=P.o.trans (Y.o.toBelow P.o.size (fun k h=>aa));have bj:=ar.o;rw[jJ (by unfold bS;simp;omega)]at bj;have bG:=ag (bJ bj P.o.size);have a4:=ab.o;have dV:wr.cell? (af tb 3)=some (.slice A M nc):=aD a4;have ac:wr.cell? (af tb 4)=some (aL):=aD a4;have f4:wr.frozen? (af tb 4)=false:=aD a4;have br:=(aY.1 a4).1;obtain⟨E,F,rfl⟩:=fF bj;have eg:=KL M aa;clear bj a4 ar Y bL
   go_upto_region 16 with fail
   obtain⟨m,c5⟩:∃m,m=wr.heap.size:=⟨_,rfl⟩;obtain⟨B,a1⟩:∃B,B=(wr.setCell (af tb 4) (ax wr.heap.size M M)).alloc (Obj.cells (madeCells #[ae 0] M) 3):=⟨_,rfl⟩;have ba:ay (fun k=>k=tb) wr B:=by rw[a1];exact((ay.refl (fun k=>k=tb) wr).set (a:=(af tb 4)) _ (.inl rfl)).alloc _
   have ca:(wr.setCell (af tb 4) (ax wr.heap.size M M)).heap.size=wr.heap.size:=aA;have b4:B.heap[wr.heap.size]? =some (.cells (List.replicate M (ae 0)).toArray 3 (0,0)):=by
    have z:=BU (wr.setCell (af tb 4) (ax wr.heap.size M M)) M;rw[ca]at z;rw[a1];exact z
   have eO:wr.heap.size<B.heap.size:=(aY.1 b4).1;have cc:B.heap[tb]? =some (Mx (.slice x i u) (.slice E i F) fb (.slice A M nc) (ax wr.heap.size M M) i):=by
    rw[a1];exact(bW _ _ tb (by rw[ca];exact br)).trans (dC wr tb 4 _ _ _ ab.o)
   have V:Tu B w.heap.size fb i (.slice x i u) (.slice A M nc) G R:=cJ.o.kept ba (fun k aw y=>by subst y;exact⟨_,_,_,ab.o,ai,ai,ai⟩);have bQ:=aU bG.o ba (fun g h y=>bg bG.o ab.o ai g h y.symm);have dg:=bw.o.size;have bO:=DF (w:=B) (base:=w.heap.size) (n:=M) (xs:=List.replicate M (ae 0)) b4 dg aA dI;have cF:Hid (dM B w.heap.size B.heap.size tb fb R (fun _=>some 0) i ⟨.slice x i u,.slice E i F,.slice A M nc,ax wr.heap.size M M,G⟩):=by
    refine⟨cc,⟨ei,aa,bm.1,(aY.1 V.iF.blk).1,aB _⟩,by rw[X];exact V.row,by rw[X];exact bQ,by rw[X];exact V.iF,by rw[X];exact V.jd,?_,?_⟩
    .rw[X,<-a9.o,O9];exact bO
    .rintro v (rfl|rfl|rfl|rfl|rfl) g e
     .exact(V.row.lt g e).2
     .exact(bQ.lt g e).2
     .exact(V.jd.lt g e).2
     .exact(bO.lt g e).2
     .exact(V.iF.row.lt g e).2
   have dF:Hid (Below w.heap.size w B):=bw.o.trans (ba.toBelow dg (fun k h=>aa));have aV:=ag (qB cL.o.1 cL.o.2);rw[<-a1];have eu:B.cell? (af tb 3)=some (.slice A M nc):=aD cc;have I:Hid (M=(aW R.length).length):=by show _=_;rw[X];exact a9.o
   have eb:R.length<=20000:=aa;have dR:Hid (∀a,a<R.length->a∈dQ R):=fun a ed=>(aV.o.live a).2 (by rw[ru,aO ed]);rw[<-c5]at cF;clear a1 c5 ba ca b4 cc V bQ bO cJ bG ab bw dV ac f4 eg br;generalize cW:dQ R=YS at*;have dS:=ag cW;have cK:=ag X;clear cW X;go_wp2
   go_loopw [74] (fun cf wr=>∃j:Nat,cf=.int .i64 j/\j<=M/\Hid (dM wr w.heap.size B.heap.size tb fb R (xk (aW R.length) YS j) i ⟨.slice x i u,.slice E i F,.slice A M nc,ax m M M,G⟩)/\Hid (Below w.heap.size w wr)) (fun cf _=>M-(intOf cf).toNat)
   case atStart=>exact⟨0,rfl,bH _,cF,dF⟩
   case round=>
    obtain⟨j,rfl,eI,N,a8⟩:=hrel;by_cases a3:j<M
    .have eJ:(j:Int)<(M:Int):=aa;obtain⟨t,s,bR,b0⟩:=tH (show j<(aW R.length).length by rw[<-I.o];exact a3);obtain⟨bN,cp,cn,env,dv⟩:=N.o.nodes (by have:=cZ R.length;rw[<-I.o]at this;omega);simp only at env;injection env with env aX a0;clear aX a0;obtain⟨ex,ev,Q,eD,eE,eF,-,c6,ap,-⟩:=N.o.holds (by have:=cZ R.length;rw[<-I.o]at this;omega);simp only at Q;injection Q with Q aX a0;injection Q with Q;injection Q with Q d5 d6;subst Q;clear aX a0;obtain⟨-,n0,ci,cj,ck,cl,dm,cm⟩:=mR dv bR.get;have bZ:=N.o.blk;simp only at bZ;have ac:wr.cell? (af tb 4)=some (ax m M M):=aD bZ;obtain⟨dy,dB⟩:=ap j (by rw[<-I.o];exact a3);have ec:=N.o.FD;rw[b0]at n0 ci cj ck cl dm cm;subst env;obtain⟨d,hd⟩:∃d,d=t.top s:=⟨_,rfl⟩;rw[<-hd]at n0 ci cj ck cl cm;obtain⟨f,bd⟩:∃f,f=wr.alloc (.cells #[.int .u8 d.kind,ae d.l,ae d.r,ae d.fr,ae d.J8,ae 0,ae d.item] 163):=⟨_,rfl⟩;have an:Below wr.heap.size wr f:=by rw[bd];exact(aJ _ _).alloc (aB _) _
     have O:f.heap[wr.heap.size]? =some (.cells #[.int .u8 d.kind,ae d.l,ae d.r,ae d.fr,ae d.J8,ae 0,ae d.item] 163 (0,0)):=by rw[bd];exact df wr _
     have a7:=ag an;have dL:=ag O;have cB:=ag bd;have aE:=ag bR;have bx:=ag b0;have aP:=ag hd;clear bd an O bZ ap dv bR b0 hd
     go_upto_region 19 with fail
     rw[<-cB.o];clear cB n0 ci cj ck cl dm cm;have O:=dL.o;have an:=a7.o;have co:wr.heap.size<f.heap.size:=(aY.1 O).1;have dp:f.cell? (af wr.heap.size 0)=some (.int .u8 d.kind):=aD O;have dq:f.cell? (af wr.heap.size 1)=some (ae d.l):=aD O;have dr:f.cell? (af wr.heap.size 2)=some (ae d.r):=aD O;have ds:f.cell? (af wr.heap.size 3)=some (ae d.fr):=aD O;have cR:=(an.cell (p:=(af tb 4)) ec).trans ac;have dz:=(an.cell (p:=(af m j)) c6).trans dy;have dD:f.frozen? (af m j)=false:=by
      have z:=dB;simp only[World.frozen?]at z |-;rw[an.block m c6];exact z
     have cg:=ah ds;have ch:=ah cR;clear O an ac dy dB;have b5:m≠wr.heap.size:=aa;have eC:m<f.heap.size:=aa;refine au (fun W=>∃p:aR f,W=p.W) [7,8] [(0,false),(1,false),(2,false),(3,true),(4,false),(5,false),(6,true)] ⟨⟨_,(aJ _ _).drew⟩,rfl⟩ 2 ?_;refine aI [7,8] ?_;have er:f.drew.cell? (af m j)=_:=dz;have es:f.drew.frozen? (af m j)=false:=dD;obtain⟨H,be⟩:∃H,H=(f.setCell (af m j) (.int .i64 d.fr)).drew:=⟨_,rfl⟩;have av:ay (fun k=>k=m) f H:=by rw[be];exact((ay.refl (fun k=>k=m) f).set (a:=(af m j)) _ (.inl rfl)).drew
     obtain⟨ej,eG⟩:=UE aE.o;obtain⟨f0,c1,ef⟩:∃f0:Nat,d.fr=(f0:Int)/\f0=t.lo:=by rw[aP.o];cases t<;>exact⟨_,rfl,rfl⟩
     have Z:Hid (dM H w.heap.size B.heap.size tb fb R (gz (xk (aW R.length) YS j) j (some f0)) i ⟨.slice x i u,.slice E i F,.slice (some (af bN cp)) M nc,ax m M M,G⟩):=by
      rw[be,c1];exact((N.o.below a7.o N.o.fu.2.2.2.2).nN rfl (by rw[<-I.o];exact a3) (some f0)).below (aJ _ _).drew (by have:=N.o.fu.2.2.2.2;have:=a7.o.size;simp;omega)
     have L:Hid (Below w.heap.size w H):=(a8.o.trans (a7.o.mono a8.o.size)).trans (av.toBelow (by have:=a8.o.size;omega) (fun k h=>aa));have ep:=((bY av co (fun h=>b5 h.symm)).1 0).trans dp;have cq:=((bY av co (fun h=>b5 h.symm)).1 1).trans dq;have cr:=((bY av co (fun h=>b5 h.symm)).1 2).trans dr;have eP:=av.size;have cC:=ag be;clear be cg ch av dp dq dr ds c1
     go_upto_region 20 with fail
     rw[<-cC.o];clear cC er es dz dD cR;cases t with
     |leaf bK=>
      have aC:(d.kind==(2:Int))=false:=by rw[aP.o];rfl
      have aq:Hid (dM H w.heap.size B.heap.size tb fb R (xk (aW R.length) YS (j+1)) i ⟨.slice x i u,.slice E i F,.slice (some (af bN cp)) M nc,ax m M M,G⟩):=by
       refine Z.o.congr fun k aC=>?_;unfold xk;by_cases e:k=j
       .subst e;have aw:=BN aV.o aE.o;rw[aO (dR.o bK (by have:(FT.leaf bK).hi=bK+1:=rfl;omega))]at aw;have y:s=k:=by have:=bx.o;unfold FT.root at this;simpa[FT.size]using this
        rw[fU,aO aa,<-y,aw,ef];rfl
       .rw[iq e];by_cases z:k<j
        .rw[aO z,aO aa]
        .rw[aM z,aM aa]
      go_wp2;go_roundw
      case rel=>first|exact⟨j+1,by go_num,aa,aq,L⟩|(refine⟨_,?_,rfl⟩;exact⟨j+1,by go_num,aa,aq,L⟩)|(refine⟨_,_,?_,rfl,rfl⟩;exact⟨j+1,by go_num,aa,aq,L⟩)|(refine⟨_,_,_,?_,rfl,rfl,rfl⟩;exact⟨j+1,by go_num,aa,aq,L⟩)|(refine⟨_,_,_,_,?_,rfl,rfl,rfl,rfl⟩;exact⟨j+1,by go_num,aa,aq,L⟩)|(refine⟨_,_,_,_,_,?_,rfl,rfl,rfl,rfl,rfl⟩;exact⟨j+1,by go_num,aa,aq,L⟩)
      case measure=>exact dX
     |node q D=>
      have aC:(d.kind==(2:Int))=true:=by rw[aP.o];rfl
      have c9:=aE.o.left.lt;have dd:=aE.o.right.lt;have da:q.root s<j/\D.root (s+q.size)<j:=by
       rw[<-bx.o];have:=q.size_pos;have:=D.size_pos;have eR:(FT.node q D).size=q.size+D.size+1:=rfl;unfold FT.root;omega
      have cY:d.l=((q.root s:Nat):Int):=by rw[aP.o];show((s+q.size:Nat):Int)-1=_;unfold FT.root;have:=q.size_pos;omega
      have c0:d.r=((D.root (s+q.size):Nat):Int):=by rw[aP.o];show((s+q.size+D.size:Nat):Int)-1=_;unfold FT.root;have:=D.size_pos;omega
      rw[cY]at cq;rw[c0]at cr;obtain⟨ey,ew,T,-,-,-,-,c8,bl,-⟩:=Z.o.holds (by have:=cZ R.length;rw[<-I.o]at this;omega);simp only at T;injection T with T aX a0;injection T with T;injection T with T d5 d6;subst T;clear aX a0;obtain⟨y1,-⟩:=bl _ c9;obtain⟨y2,-⟩:=bl _ dd;obtain⟨cv,dE⟩:=bl j (by rw[<-I.o];exact a3);rw[show gz (xk (aW R.length) YS j) j (some f0) (q.root s)=kW (aW R.length) YS (q.root s) by rw[iq aa];exact aO da.1]at y1;rw[show gz (xk (aW R.length) YS j) j (some f0) (D.root (s+q.size))=kW (aW R.length) YS (D.root (s+q.size)) by rw[iq aa];exact aO da.2]at y2;rw[fU]at cv;have bX:=Z.o.blk;simp only at bX;have ac:H.cell? (af tb 4)=some (ax m M M):=aD bX;have cy:=ag (yQ (Z.o.Q9.below (aJ _ _).drew) eb (kW (aW R.length) YS (q.root s)) (kW (aW R.length) YS (D.root (s+q.size))) (fun i h=>BM aV.o h) (fun i h=>BM aV.o h));have dG:Hid (kW (aW R.length) YS j=lowO R (kW (aW R.length) YS (q.root s)) (kW (aW R.length) YS (D.root (s+q.size)))):=by
       show _=_;rw[<-GA aV.o aE.o ej,bx.o]
      rw[<-I.o]at c9 dd;have eS:=Z.o.FD;clear bX bl cY c0;generalize lowO R (kW (aW R.length) YS (q.root s)) (kW (aW R.length) YS (D.root (s+q.size)))=dn at*;generalize kW (aW R.length) YS (q.root s)=dT at*;generalize kW (aW R.length) YS (D.root (s+q.size))=dU at*;generalize q.root s=kl at*;generalize D.root (s+q.size)=kr at*;have ek:=ah cq;have el:=ah cr;have cg:=ah ac;have ch:=ah y1;have em:=ah y2
      go_upto_region 21 with fail
      refine au (fun W=>∃p:aR H,W=p.W) [23,24] [(0,false),(1,false),(2,false),(3,true),(4,false),(5,false),(6,false),(7,false),(8,false),(9,true),(10,false),(11,true),(12,false),(13,true),(14,false),(15,false),(16,false),(17,true),(18,false),(19,true),(20,false),(21,true)] ⟨⟨_,(aJ _ _).drew⟩,rfl⟩ 3 ?_;refine aH 22 rfl fun K U=>?_;refine aZ BZ rfl _ _ rfl (vals:=#[aj tb,ae (oh dT),ae (oh dU)]) rfl cy.o ?_;rintro e bs ⟨rfl,cX⟩;have ao:Below H.heap.size H bs:=((aJ H.heap.size H).drew).trans cX;refine⟨_,rfl,U _ _ (fun _ _=>⟨⟨_,ao⟩,rfl⟩) ?_⟩;clear U K;refine aI [23,24] ?_;have eV:=(ao.cell (p:=(af m j)) c8).trans cv;have eW:bs.frozen? (af m j)=false:=by
       have z:=dE;simp only[World.frozen?]at z |-;rw[ao.block m c8];exact z
      have C:Hid (∀bt,bt=bs.setCell (af m j) (.int .i64 (oh dn))->Hid (dM bt w.heap.size B.heap.size tb fb R (xk (aW R.length) YS (j+1)) i ⟨.slice x i u,.slice E i F,.slice (some (af bN cp)) M nc,ax m M M,G⟩)/\Hid (Below w.heap.size w bt)):=fun bt d7=>by
       subst d7;refine⟨((Z.o.below ao Z.o.fu.2.2.2.2).nN rfl (by rw[<-I.o];exact a3) dn).congr fun k _=>?_,?_⟩
       .unfold xk;by_cases e:k=j
        .subst e;rw[fU,aO aa,dG.o]
        .rw[iq e,iq e];by_cases z:k<j
         .rw[aO z,aO aa]
         .rw[aM z,aM aa]
       .exact(L.o.trans (ao.mono L.o.size)).trans (((ay.refl (fun k=>k=m) bs).set (a:=(af m j)) _ (.inl rfl)).toBelow (bA L.o.size ao.size) (fun k h=>aa))
      clear ao cX cv dE y1 y2 ac ep cq cr ek el cg ch em cy;go_wp2;go_roundw
      case rel=>first|exact⟨j+1,by go_num,aa,(C.o _ rfl).1,(C.o _ rfl).2⟩|(refine⟨_,?_,rfl⟩;exact⟨j+1,by go_num,aa,(C.o _ rfl).1,(C.o _ rfl).2⟩)|(refine⟨_,_,?_,rfl,rfl⟩;exact⟨j+1,by go_num,aa,(C.o _ rfl).1,(C.o _ rfl).2⟩)|(refine⟨_,_,_,?_,rfl,rfl,rfl⟩;exact⟨j+1,by go_num,aa,(C.o _ rfl).1,(C.o _ rfl).2⟩)|(refine⟨_,_,_,_,?_,rfl,rfl,rfl,rfl⟩;exact⟨j+1,by go_num,aa,(C.o _ rfl).1,(C.o _ rfl).2⟩)|(refine⟨_,_,_,_,_,?_,rfl,rfl,rfl,rfl,rfl⟩;exact⟨j+1,by go_num,aa,(C.o _ rfl).1,(C.o _ rfl).2⟩)
      case measure=>exact dX
    .obtain rfl:j=M:=aa;have b3:dM wr w.heap.size wr.heap.size tb fb R (kW (aW R.length) YS) i ⟨.slice x i u,.slice E i F,.slice A j nc,ax m j j,G⟩:=
      (N.o.congr fun k aC=>by unfold xk;rw[aO (by rw[I.o];exact aC)]).grow N.o.fu.2.2.2.2 (aB _)
     have C:Hid (KP w R (.returned (.tuple #[aj tb,ae 0])) wr):=by
      refine⟨tb,fb,⟨.slice x i u,.slice E i F,.slice A j nc,ax m j j,G⟩,rfl,?_,a8.o⟩;rw[dS.o,cK.o];rw[cK.o]at b3;exact b3
     clear b3;go_wp2;go_ret2;exact C.o
end
section
open Go.RowKit Go.Sort Go.Shelf Go.Lib Go.Maps
def uA (w:World) (lo hi tb n0:Nat) (l:List Pt):Prop:=
 ∃fb R gone YS V,dM w lo hi tb fb R (kW (aW R.length) YS) l.length V/\cz R gone YS/\su R YS l/\R.length=n0/\n0<=20000
def uB (n:Nat):Nat:=6*Lib.bitLen n+1
theorem MH {R:List Pt} (h:R.length<=100000) (x1 x2:Int):(om R x1 x2).2<=uB R.length:=by
 unfold om uB;by_cases b:R.length=0\/x2<x1
 .rw[aO b];exact bH _
 .rw[aM b];have e:0<R.length:=aa;have f:(bS R).length=R.length:=by simp[bS]
  have c:=kT (bS R) x1 aa;have d:=kU (bS R) x2 aa;rw[f]at c d;by_cases a:jh R x1<lY R x2
  .rw[aO a];have⟨w1,w2,w3⟩:=bK 0 R.length e;have i:=(bB R.length aa aa).2.2;have j:=vC 0 R.length (Lib.bitLen R.length) aa;have g:=FT.AQ (dN 0 R.length) w1 0 (jh R x1) (lY R x2);simp only;omega
  .rw[aM a];simp only;omega
section
variable {w w':World} {lo hi tb n0:Nat} {l:List Pt}
theorem uA.kept {S:Nat->Prop} (h:uA w lo hi tb n0 l) (K:ay S w w') (hS:∀k,lo<=k->k<hi->¬S k):uA w' lo hi tb n0 l:=by
 have⟨fb,R,gone,YS,V,a,b⟩:=h;exact⟨fb,R,gone,YS,V,a.kept K hS,b⟩
theorem uA.Fe (h:uA w lo hi tb n0 l):l.length<=n0/\n0<=20000:=by
 have⟨fb,R,gone,YS,V,c,a,b,d,e⟩:=h;have:=a.Qy;have:=b.len a;omega
theorem MI {R:List Pt} {gone:List Bool} {YS:List Nat} (a:cz R gone YS) (c:su R YS l) (x1 x2:Int):(sH R (aW R.length) YS (om R x1 x2).1).map (bU R)=(Nu l x1 x2).head?:=by
 have d:∀h:(Nu l x1 x2)=[],(sH R (aW R.length) YS []).map (bU R)=(Nu l x1 x2).head?:=fun h=>by rw[h];rfl
 unfold om;by_cases h0:R.length=0\/x2<x1
 .rw[aO h0];refine d ?_;rcases h0 with h0|h0
  .have b:=a.Qy;have f:=c.len a;have g:=QZ l x1 x2;exact gU aa
  .exact OU l h0
 .rw[aM h0];have e:=Q0 a c x1 x2;by_cases b:jh R x1<lY R x2
  .rw[aO b];simp only;rw[Jo a aa,<-e,List.head?_map]
  .rw[aM b];refine d ?_;rw[<-e];have:Tm YS (jh R x1) (lY R x2)=[]:=uD.2 fun i _=>aF;rw[this];rfl
theorem Tv (a:Option Addr) (c:Nat) (l:List Pt) (w:World) (k:bV dw 3 w a l) (m:l.length<=20000) (o:HZ l) (hu:lF l=true):
  aK 38 #[.slice a l.length c] w fun e w'=>∃tb,e=.returned (.tuple #[aj tb,ae 0])/\uA w' w.heap.size w'.heap.size tb l.length l/\Below w.heap.size w w':=
 (MG a c l w k m o hu).mono fun e w' ⟨tb,fb,V,j,d,h⟩=>by
  have b:(ids l).Nodup:=by unfold lF at hu;simpa using hu
  have n:=fQ b;have hid:(ids (eQ l)).Nodup:=((dO l).map _).nodup_iff.2 b;have g:=qB n hid;have f:(eQ l).length=l.length:=(dO l).length_eq;rw[show((eQ l).length:Int)=(l.length:Int) by rw[f]]at d;refine⟨tb,j,⟨fb,_,_,_,V,d,g,zg b _ (fun i=>?_),f,aa⟩,h⟩;rw[g.live,ru];split<;>simp_all
theorem Re (h:uA w lo hi tb n0 l) (x1 x2:Int):
  aK 42 #[aj tb,ae x1,ae x2] w fun e w'=>(∃p:Pt,p=(Nu l x1 x2).head?.getD (0,0,0)/\∃c:Nat,e=.returned (.tuple #[iV p.1 p.2.1 p.2.2,.bool (Nu l x1 x2).head?.isSome,ae c])/\c<=uB n0)/\Below w.heap.size w w':=by
 have⟨fb,R,gone,YS,V,d,a,f,g,k⟩:=h;refine(JB d a aa x1 x2).mono ?_;rintro e w' ⟨⟨p,hp,j⟩,i⟩;have b:=MI a f x1 x2;refine⟨⟨p,by rw[hp,b],(om R x1 x2).2,?_,by rw[<-g];exact MH aa x1 x2⟩,i⟩;rw[<-b,Option.isSome_map];exact j
end
end
end Go.Proofs.YtkjdbndekceffaaGreat
