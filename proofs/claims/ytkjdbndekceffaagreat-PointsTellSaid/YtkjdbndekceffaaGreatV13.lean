/- Made small by a program. -/
import Derived.Test.YtkjdbndekceffaaGreatV12
set_option linter.unusedSimpArgs false
set_option linter.unusedVariables false
set_option maxRecDepth 100000
set_option maxHeartbeats 16000000
namespace Go.Proofs.YtkjdbndekceffaaGreat
open Tryz
section
open Go.RowKit Go.Sort Go.Shelf Go.Lib Go.Maps
attribute [local irreducible] wpQuiet
abbrev NQ (rv xv:Value) (fb:Nat) (nv hv:Value) (n:Int):Obj:=.cells #[rv,xv,aj fb,nv,hv,ae n] 161 (0,0)
structure dS (w:World) (lo hi tb fb:Nat) (R:List Pt) (h:iV) (cnt:Int) (V:mQ):Prop where
 blk:w.heap[tb]? =some (NQ V.rv V.xv fb V.nv V.hv cnt)
 fM:lo<=tb/\tb<hi/\lo<=fb/\fb<hi/\hi<=w.heap.size
 row:w.ownsRow lo 29 3 V.rv R.length (R.flatMap bX)
 xs:w.ownsRow lo 2 1 V.xv R.length ((cz R).map (Value.int .i64))
 iU:om w lo fb R.length V.fv
 jD:w.ownsRow lo 163 7 V.nv (bf R.length).length ((bf R.length).flatMap pR)
 oU:w.ownsRow lo 3 1 V.hv (bf R.length).length (Jy h (bf R.length).length)
 top:∀v,v=V.rv\/v=V.xv\/v=V.nv\/v=V.hv\/v=V.fv->∀g,v.ownBlock=some g->g<hi
section
variable {w w':World} {lo hi tb fb:Nat} {R:List Pt} {h:iV} {cnt:Int} {V:mQ}
theorem dS.congr {h':iV} (H:dS w lo hi tb fb R h cnt V) (e:∀k,k<(bf R.length).length->h' k=h k):dS w lo hi tb fb R h' cnt V:=
 ⟨H.blk,H.fM,H.row,H.xs,H.iU,H.jD,by rw[NG e];exact H.oU,H.top⟩
theorem dS.kept {S:Nat->Prop} (H:dS w lo hi tb fb R h cnt V) (K:aB S w w') (hS:∀k,lo<=k->k<hi->¬S k):dS w' lo hi tb fb R h cnt V:=by
 have ht:=H.top;have a:∀{e:TypeId} {sz:Nat} {v:Value} {n:Nat} {xs:List Value},w.ownsRow lo e sz v n xs->(∀g,v.ownBlock=some g->g<hi)->w'.ownsRow lo e sz v n xs:=fun a b=>aU a K fun g e=>hS g (a.lt g e).1 (b g e);exact⟨bu K H.blk (hS tb H.fM.1 H.fM.2.1),⟨H.fM.1,H.fM.2.1,H.fM.2.2.1,H.fM.2.2.2.1,bA H.fM.2.2.2.2 K.size⟩,
  a H.row (ht _ ax),a H.xs (ht _ ax),
  ⟨bu K H.iU.blk (hS fb H.fM.2.2.1 H.fM.2.2.2.1),a H.iU.row (ht _ ax)⟩,a H.jD (ht _ ax),a H.oU (ht _ ax),H.top⟩
theorem dS.below {B:Nat} (H:dS w lo hi tb fb R h cnt V) (a:Below B w w') (e:hi<=B):dS w' lo hi tb fb R h cnt V:=
 H.kept (S:=fun k=>hi<=k) ⟨a.os,a.tape,a.output,a.size,fun k f g=>a.block k aa⟩ fun k b c d=>aa
theorem dS.GV (H:dS w lo hi tb fb R h cnt V):tb<w.heap.size:=cO H.fM.2.1 H.fM.2.2.2.2
theorem dS.nodes (H:dS w lo hi tb fb R h cnt V) (l:0<R.length):∃g off c,V.nv=.slice (some (ag g off)) (bf R.length).length c/\bV pR 7 w (some (ag g off)) (bf R.length):=by
 have m:=dB R.length;have⟨g,c,e,_⟩:=aS H.jD aa;obtain⟨a,i,b,-,-,d⟩:=bV.aD jO ai H.jD;rw[e]at b;injection b with f j k;rw[<-f]at d;exact⟨g,0,c,e,d⟩
theorem dS.holds (H:dS w lo hi tb fb R h cnt V) (r:0<R.length):∃g c,V.hv=aC g (bf R.length).length c/\lo<=g/\g<hi/\g≠tb/\g≠fb/\g<w.heap.size/\(∀k,k<(bf R.length).length->w.cell? (ag g k)=some (ae (oW (h k)))/\w.frozen? (ag g k)=false)/\
  (∀a,V.rv.ownBlock=some a->a≠g)/\(∀a,V.xv.ownBlock=some a->a≠g)/\(∀a,V.nv.ownBlock=some a->a≠g)/\∀a,V.fv.ownBlock=some a->a≠g:=by
 have x:=dB R.length;have⟨g,c,e,y,u,s,t⟩:=aS H.oU aa;have b:=H.oU;rw[e]at b;have p:(aC g (bf R.length).length c).ownBlock=some g:=rfl;have f:∀{j:TypeId} {sz n:Nat} {v:Value} {xs:List Value},w.ownsRow lo j sz v n xs->j≠3->∀a,v.ownBlock=some a->a≠g:=fun q o a d l=>bB q b o a d (l▸p);refine⟨g,c,e,(b.lt g rfl).1,H.top V.hv ax g (by rw[e];rfl),fun i=>bz b H.blk ai g rfl i.symm,fun i=>bz b H.iU.blk ai g rfl i.symm,(b.lt g rfl).2,fun k m=>⟨?_,b.frozenAt k⟩,f H.row ai,f H.xs ai,f H.jD ai,f H.iU.row ai⟩;have d:=b.cellAt k aa;rw[Md h m]at d;exact d
theorem dS.ou (H:dS w lo hi tb fb R h cnt V) {g n c:Nat} (i:V.hv=aC g n c) {k:Nat} (j:k<(bf R.length).length) (v:Option Nat):
  dS (w.setCell (ag g k) (.int .i64 (oW v))) lo hi tb fb R (gU h k v) cnt V:=by
 have K:aB (fun k=>k=g) w (w.setCell (ag g k) (.int .i64 (oW v))):=(aB.refl (fun k=>k=g) w).set (a:=(ag g k)) _ (.inl rfl);have e:=H.oU;rw[i]at e;have l:n=(bf R.length).length:=by
  rcases e.2 with⟨d,-⟩|⟨p,m,o,d,-⟩
  .cases d
  .injection d with _ d _
 subst l;have⟨cs,fr,b⟩:=rC e;have f:=(e.stored k (.int .i64 (oW v))).1;rw[Me h j v]at f;refine⟨Gm H.blk K b ai,aQ H.fM,fH H.row K b ai,fH H.xs K b ai,zK H.iU K b ai ai,fH H.jD K b ai,?_,H.top⟩;rw[i];exact f
theorem dS.CY (H:dS w lo hi tb fb R h cnt V) (m:Int):dS (w.setCell (ag tb 5) (.int .i64 m)) lo hi tb fb R h m V:=by
 have K:aB (fun k=>k=tb) w (w.setCell (ag tb 5) (.int .i64 m)):=(aB.refl (fun k=>k=tb) w).set (a:=(ag tb 5)) _ (.inl rfl);have b:=H.blk;exact⟨dC w tb 5 _ _ _ H.blk,aQ H.fM,fH H.row K b ai,fH H.xs K b ai,zK H.iU K b ai ai,fH H.jD K b ai,fH H.oU K b ai,H.top⟩
end
end
section
open Go.RowKit Go.Sort Go.Shelf Go.Lib Go.Maps
attribute [local irreducible] wpQuiet
attribute [local go_sem] Oper.dZ
structure Qw (w:World) (tb:Nat) (R:List Pt):Prop where
 lt:tb<w.heap.size
 row:∃ra rc,w.cell? (ag tb 0)=some (.slice ra R.length rc)/\bV bX 3 w ra R
theorem Qw.below {w w':World} {tb:Nat} {R:List Pt} (H:Qw w tb R) (a:Below w.heap.size w w'):Qw w' tb R:=by
 have⟨d,e,b,c⟩:=H.row;exact⟨cO H.lt a.size,d,e,(a.cell (p:=(ag tb 0)) H.lt).trans b,c.below a⟩
theorem dS.SQ {w:World} {lo hi tb fb:Nat} {cnt:Int} {R:List Pt} {h:iV} {V:mQ} (H:dS w lo hi tb fb R h cnt V):Qw w tb R:=by
 obtain⟨c,d,b,-,-,e⟩:=bV.aD bq ai H.row;have a:=H.blk;rw[b]at a;exact⟨H.GV,c,d,aI a,e⟩
theorem zV {w:World} {tb:Nat} {R:List Pt} (H:Qw w tb R) (P:R.length<=20000) (g d:Option Nat) (B:∀i,g=some i->i<R.length) (C:∀i,d=some i->i<R.length):
  aK 103 #[aj tb,ae (oW g),ae (oW d)] w (gD w (ae (oW (lowO R g d)))):=by
 obtain⟨ao,ap,ar,J,K⟩:=H;have N:=af K;have y:Hid (∀n,Below w.heap.size w (w.drewN n)):=fun n=>Below.aX _ n;clear K;cases g with
 |none=>
  have v:lowO R none d=d:=rfl;rw[v];generalize oW d=k at*;show Calls _ _ #[_,ae (-1),_] _ _;go_enter func103,ntmps103
  go_upto_region 1 with fail
  go_quiet (fail)
  go_wp2;go_ret;exact⟨rfl,y.o _⟩
 |some i=>
  have hi:=B i rfl;have al:((i:Int)==-1)=false:=by first|(simp;done)|(simp;omega)
  have am:decide ((i:Int)=-1)=false:=by first|(simp;done)|(simp;omega)
  cases d with
  |none=>
   have v:lowO R (some i) none=some i:=rfl;rw[v];show Calls _ _ #[_,ae (i:Int),ae (-1)] _ fun e w'=>e=.returned (ae (i:Int))/\_;go_enter func103,ntmps103
   go_upto_region 1 with fail
   go_quiet (fail)
   go_wp2;go_ret;exact⟨rfl,y.o _⟩
  |some j=>
   have f:=C j rfl;have f1:((j:Int)==-1)=false:=by first|(simp;done)|(simp;omega)
   have f2:decide ((j:Int)=-1)=false:=by first|(simp;done)|(simp;omega)
   have f3:((j:Int)!=-1)=true:=by first|(simp;done)|(simp;omega)
   have a:lowO R (some i) (some j)=if D9 R j i then some j else some i:=rfl;obtain⟨aq,au,O,an,c⟩:=N.o.get aa;have m:=c i hi 0 aa;have r:=c i hi 1 aa;have s:=c i hi 2 aa;have t:=c j f 0 aa;have v1:=c j f 1 aa;have u:=c j f 2 aa;simp only[bX,eG,eQ,df]at m r s t v1 u;rw[<-dK hi]at m r s;rw[<-dK f]at t v1 u;subst O;have z:Hid (D9 R j i=decide (oO (cu R j) (cu R i)<0)):=by
    show _=_;unfold D9;rw[pF,rq]
   rw[z.o]at a;have A:=af a;obtain⟨I,F⟩:∃I,I=R.length:=⟨_,rfl⟩;rw[<-F]at J P hi f;clear c z B C F a;generalize cu R i=p at*;generalize cu R j=q at*;have L:=af (fun W=>Qo q p W);generalize oO q p=l at*;obtain⟨ab,ac,Z⟩:=p;obtain⟨ag,ak,ad⟩:=q;simp only at m r s t v1 u;have M:Hid (∀b:aR w,aK 71 #[jb ag ak ad,jb ab ac Z] b.W fun e w'=>e=.returned (ae l)/\Below b.W.heap.size b.W w'):=fun b=>L.o b.W;generalize lowO R (some i) (some j)=res at*;simp only[oW];have Q:=ah J;have S:=ah m;have T:=ah r;have U:=ah s;have V:=ah t;have X:=ah v1;have Y:=ah u;go_enter func103,ntmps103
   go_upto_region 1 with fail
   refine bG aL aL ?_
   repeat(quiet_step ((go_at_call 71;exact dH (M.o _))))
   refine jS ?_;intro w4 G;have D:Below w.heap.size w w4:=by obtain⟨b,rfl⟩:=G;exact b.h
   have x:=af D;clear G D Q S T U V X Y;by_cases E:l<0
   .have d1:decide (l<0)=true:=by simp[E]
    have a:=A.o;rw[d1,aO rfl]at a;subst a;go_wp2;go_ret;exact⟨rfl,x.o⟩
   .have d1:decide (l<0)=false:=by simp[E]
    have a:=A.o;rw[d1,aN ai]at a;subst a;go_wp2;go_ret;exact⟨rfl,x.o⟩
def oZ (R:List Pt) (x1 x2:Int):List Nat×Nat:=
 if R.length=0\/x2<x1 then([],0)
 else if jG R x1<mH R x2 then(((dU 0 R.length).canon 0 (jG R x1) (mH R x2)).1,(aZ (cz R) x1).2+(aV (cz R) x2).2+((dU 0 R.length).canon 0 (jG R x1) (mH R x2)).2)
 else([],(aZ (cz R) x1).2+(aV (cz R) x2).2)
theorem SS {R:List Pt} {x1 x2:Int} (a:R.length=0\/x2<x1):oZ R x1 x2=([],0):=by unfold oZ;rw[aO a]
def SV (w:World) (r:List Nat×Nat) (e:Ending) (w':World):Prop:=
 ∃v,e=.returned (.tuple #[v,ae (r.2:Nat)])/\w'.ownsRow w.heap.size 3 1 v r.1.length (r.1.map fT)/\Below w.heap.size w w'
theorem NR {W:World} {lo hi tb fb:Nat} {cnt:Int} {R:List Pt} {h:iV} {V:mQ} (b:dS W lo hi tb fb R h cnt V) (ap:R.length<=20000) (x1 x2:Int):
  aK 110 #[aj tb,ae x1,ae x2] W (SV W (oZ R x1 x2)):=by
 have L:=b.GV;have d:=b.blk;obtain⟨ai,ak,A⟩:=fK b.row;obtain⟨D,E,B,-,-,s⟩:=Rd.aD b.xs;rw[A,B]at d;have j:(cz R).length=R.length:=by unfold cz;rw[bK]
 rw[j]at d;have Q:W.cell? (ag tb 0)=some (.slice ai R.length ak):=aI d;have y:W.cell? (ag tb 1)=some (.slice D R.length E):=aI d;have z:W.cell? (ag tb 2)=some (aj fb):=aI d;by_cases q:R.length=0\/x2<x1
 .rw[SS q];have G:Hid (SV W ([],0) (.returned (.tuple #[aM,ae 0])) W):=⟨_,rfl,cZ _ _ _ _,aJ _ _⟩;clear b d s A B y z;generalize R.length=n at*;by_cases a:n=0
  .have d0:((n:Int)==0)=true:=by simp[a]
   have d1:(n==0)=true:=by simp[a]
   have d2:decide (n=0)=true:=by simp[a]
   clear a q j;go_enter func110,ntmps110;go_wp2;go_ret2;exact G.o
  .have d0:((n:Int)==0)=false:=by simp[a]
   have d1:(n==0)=false:=by simp[a]
   have d2:decide (n=0)=false:=by simp[a]
   have f1:decide (x1>x2)=true:=aH;have f2:decide (x2<x1)=true:=aH;clear a q j;go_enter func110,ntmps110;go_wp2;go_ret2;exact G.o
 .have a:0<R.length:=aa;have t:=af (fun W' (m:Below W.heap.size W W')=>Ga D (cz R) E x1 W' (s.below m) aa);have u:=af (fun W' (m:Below W.heap.size W W')=>Gb D (cz R) E x2 W' (s.below m) aa);have ad:=gN (fun i=>decide (x1<=(cz R).getD i 0)) (cz R).length;have ah:=gN (fun i=>decide (x2<(cz R).getD i 0)) (cz R).length;have aq:(aZ (cz R) x1).2<=20000:=by unfold aZ;omega
  have ar:(aV (cz R) x2).2<=20000:=by unfold aV;omega
  obtain⟨al,am,an⟩:=bR 0 R.length a;have X:=fJ 0 R.length a;have Y:=(FT.rF (jG R x1) (mH R x2) (dU 0 R.length) 0).1;have M:=Sy R x2;have k:Hid (jG R x1<mH R x2->∀W',Below W.heap.size W W'->aK 175 #[aj fb,ae (jG R x1),ae (mH R x2)] W' (Sz W' R.length (jG R x1) (mH R x2))):=fun f W' m=>
   Iz lo fb R.length (jG R x1) (mH R x2) V.fv aa f M W' (b.below m b.fM.2.2.2.2).iU
  have l:Hid (oZ R x1 x2=if jG R x1<mH R x2 then(((dU 0 R.length).canon 0 (jG R x1) (mH R x2)).1,(aZ (cz R) x1).2+(aV (cz R) x2).2+((dU 0 R.length).canon 0 (jG R x1) (mH R x2)).2)else([],(aZ (cz R) x1).2+(aV (cz R) x2).2)):=by
   show oZ R x1 x2=_
   conv=>lhs;unfold oZ
   rw[aN q]
  have x:Hid (jG R x1=(aZ (cz R) x1).1/\mH R x2=(aV (cz R) x2).1):=⟨rfl,rfl⟩;rw[<-x.o.1,j]at t;rw[<-x.o.2,j]at u;have f1:decide (x1>x2)=false:=aH;have f2:decide (x2<x1)=false:=aH;unfold Sz at k;have Z:((dU 0 R.length).canon 0 (jG R x1) (mH R x2)).2<=40000:=aa;obtain⟨dg,J⟩:∃dg,dg=(dU 0 R.length).canon 0 (jG R x1) (mH R x2):=⟨_,rfl⟩;rw[<-J]at k l Z;clear b d s A B q ad ah al am an X j J Y M;generalize jG R x1=fr at*;generalize mH R x2=tu at*;generalize ab:(aZ (cz R) x1).2=N at*;generalize ac:(aV (cz R) x2).2=O at*;generalize oZ R x1 x2=ask at*;clear ab ac x;generalize R.length=n at*;have d0:((n:Int)==0)=false:=aH;have d1:(n==0)=false:=aH;have d2:decide (n=0)=false:=aH;go_enter func110,ntmps110
  go_wp2_with fail
  refine(t.o W (aJ _ _)).mono ?_;rintro e w1 ⟨rfl,C⟩;have S:=(C.cell (p:=(ag tb 1)) L).trans y;have r:=af C;clear C
  go_wp2_with fail
  refine(u.o w1 r.o).mono ?_;rintro e w2 ⟨rfl,H⟩;have g:Hid (Below W.heap.size W w2):=r.o.trans (H.mono r.o.size);have ao:=(g.o.cell (p:=(ag tb 2)) L).trans z;clear H S t u r Q y z;by_cases f:fr<tu
  .have T:decide ((tu:Int)<=(fr:Int))=false:=aH;have U:decide (tu<=fr)=false:=aH;have c:=l.o;rw[aO f]at c;have P:=af c;have F:=af (k.o f w2 g.o);clear c f k l
   go_wp2_with fail
   refine F.o.mono ?_;rintro e w3 ⟨v,rfl,K,I⟩;have w:Hid (SV W ask (.returned (.tuple #[v,ae ((N+O+dg.2:Nat):Int)])) w3):=by
    rw[P.o];exact⟨v,rfl,bM K g.o.size,g.o.trans (I.mono g.o.size)⟩
   clear K I F;go_wp2;go_ret2;exact w.o
  .have T:decide ((tu:Int)<=(fr:Int))=true:=aH;have U:decide (tu<=fr)=true:=aH;have c:=l.o;rw[aN f]at c;have w:Hid (SV W ask (.returned (.tuple #[aM,ae ((N+O:Nat):Int)])) w2):=by
    rw[c];exact⟨_,rfl,cZ _ _ _ _,g.o⟩
   clear c f k l;go_wp2;go_ret2;exact w.o
theorem SX {R:List Pt} {x1 x2:Int}:∀k∈(oZ R x1 x2).1,k<(bf R.length).length:=fun k a=>by
 unfold oZ at a;by_cases b:R.length=0\/x2<x1
 .rw[aO b]at a;exact absurd a iO
 .rw[aN b]at a;by_cases c:jG R x1<mH R x2
  .rw[aO c]at a;exact FT.Qh _ 0 (kH R.length aa) k a
  .rw[aN c]at a;exact absurd a iO
theorem NS {R:List Pt} (d:R.length<=20000) (x1 x2:Int):(oZ R x1 x2).1.length<=40000/\(oZ R x1 x2).2<=100000:=by
 unfold oZ;by_cases a:R.length=0\/x2<x1
 .rw[aO a];simp
 .rw[aN a];have f:=gN (fun i=>decide (x1<=(cz R).getD i 0)) (cz R).length;have h:=gN (fun i=>decide (x2<(cz R).getD i 0)) (cz R).length;have k:(cz R).length=R.length:=by unfold cz;rw[bK]
  have g:(aZ (cz R) x1).2<=20000:=by unfold aZ;omega
  have j:(aV (cz R) x2).2<=20000:=by unfold aV;omega
  have e:=fJ 0 R.length aa;have c:=FT.rF (jG R x1) (mH R x2) (dU 0 R.length) 0;by_cases b:jG R x1<mH R x2
  .rw[aO b];exact⟨bA c.2 aa,by have:=c.1;simp only;omega⟩
  .rw[aN b];exact⟨ax,by show _+_<=_;omega⟩
theorem Mh {R:List Pt} {gone:List Bool} {YS:List Nat} {N:List Nd} (b:dm R gone YS) (c:List Nat):∀i,uo R N YS c=some i->i<R.length:=by
 intro i h;have a:=IG (N:=N) b c none (fun _=>False) (fun _ h=>h.elim) (fun _ h=>h);unfold uo at h;rw[h]at a;rcases a.1 with h2|h2
 .exact h2.elim
 .obtain⟨k,-,d⟩:=yX.1 h2;exact EL b d
theorem o5 {P:Program} {fn:Func} {p q r:Tmp} {ty:TypeId} (h:fn.results=#[.cell p ty,.tmp q,.tmp r]) (a:Array Value) (w:World) (g:Nat) (t:TypeId) (cs:Array Value) (fr:Nat×Nat) (d:TypeDesc) (b c:Value)
  (hp:a.getD p undef=aj g) (e:a.getD q undef=b) (i:a.getD r undef=c) (k:w.heap[g]? =some (.cells cs t fr))
  (hu:P.underlying ty=some d) (hd:(match d with|.struct _|.array _ _=>true|_=>false)=true) (hi:(P.info? ty).map (·.size)=some cs.size):
  (results fn a).run P w=.ok (.tuple #[.agg cs,b,c]) w:=by
 have l:a[p]?.getD undef=aj g:=aQ hp;have f:a[q]?.getD undef=b:=aQ e;have j:a[r]?.getD undef=c:=aQ i;simp[results,h,l,f,j,asAddr,run_loadVar_row w g t ty cs fr d k hu hd hi]
theorem KS {w:World} {lo hi tb fb:Nat} {cnt:Int} {R:List Pt} {gone:List Bool} {YS:List Nat} {V:mQ} (f:dS w lo hi tb fb R (lK (bf R.length) YS) cnt V) (ah:dm R gone YS) (I:R.length<=20000) (x1 x2:Int):
  aK 42 #[aj tb,ae x1,ae x2] w fun e w'=>(∃p:Pt,p=((uo R (bf R.length) YS (oZ R x1 x2).1).map (cu R)).getD (0,0,0)/\e=.returned (.tuple #[jb p.1 p.2.1 p.2.2,.bool (uo R (bf R.length) YS (oZ R x1 x2).1).isSome,ae ((oZ R x1 x2).2:Nat)]))/\Below w.heap.size w w':=by
 obtain⟨aw,ax⟩:=NS I x1 x2;have F:=af (SX (R:=R) (x1:=x1) (x2:=x2));have C:=af (fun W (aQ:Below w.heap.size w W)=>NR (f.below aQ f.fM.2.2.2.2) I x1 x2);obtain⟨ask,ai⟩:∃ask,ask=oZ R x1 x2:=⟨_,rfl⟩;rw[<-ai]at C F aw ax |-;clear ai;obtain⟨a,eT⟩:=ask;simp only at aw ax F |-;have g:=af f;have G:=af ah;have a4:=f.GV;obtain⟨w1,q⟩:∃w1,w1=w.alloc (.cells #[ae 0,ae 0,ak 0] 29):=⟨_,rfl⟩;have al:Below w.heap.size w w1:=by rw[q];exact(aJ _ _).alloc (aA _) _
 have ay:w1.heap[w.heap.size]? =some (vD (0,0,0)):=by rw[q];exact bY w _
 have l:=af al;have H:=af ay;have S:=af q;clear q al ay f ah;go_enter func42,ntmps42
 go_upto_region 1 with fail
 rw[<-S.o];clear S
 go_wp2_with fail
 refine(C.o w1 l.o).mono ?_;rintro e w2 ⟨v,rfl,av,K⟩;have m:=af (l.o.trans (K.mono l.o.size));have aS:w.heap.size<w1.heap.size:=(bg.1 H.o).1;have Z:=af ((K.block w.heap.size aS).trans H.o);have aU:w.heap.size<w2.heap.size:=(bg.1 Z.o).1;obtain⟨a5,a6,rfl,-,-,aq⟩:=Rd.aD (enc:=fT) av;have aE:=af aq;clear av aq K C l H;go_wp2
 go_loopw [11,23] (fun bv O wr=>∃j:Nat,O=.int .i64 j/\j<=a.length/\bv=.int .i64 (oW (uo R (bf R.length) YS (a.take j)))/\Hid (Below w2.heap.size w2 wr)) (fun _ O _=>a.length-(intOf O).toNat)
 case atStart=>exact⟨0,rfl,aT _,rfl,af (aJ _ _)⟩
 case round=>
  obtain⟨j,rfl,a0,rfl,c⟩:=hrel;by_cases L:j<a.length
  .have a1:(j:Int)<(a.length:Int):=aa;have ap:=F.o a[j] (bC L);have aP:0<R.length:=by have:=dB R.length;omega
   have aB:=af (m.o.trans (c.o.mono (by have:=m.o.size;omega)));have r:=g.o.below aB.o (by have:=g.o.fM;omega);obtain⟨aO,ch,ac,-,-,-,-,aZ,an,-⟩:=r.holds aP;have J:=r.blk;rw[ac]at J;have aG:wr.cell? (ag tb 4)=some (aC aO (bf R.length).length ch):=aI J;have aH:=(an a[j] ap).1;have P:=af (zV r.SQ I (uo R (bf R.length) YS (a.take j)) (lK (bf R.length) YS a[j]) (Mh G.o _) (fun i h=>Df G.o h));have aF:Hid (uo R (bf R.length) YS (a.take (j+1))=lowO R (uo R (bf R.length) YS (a.take j)) (lK (bf R.length) YS a[j])):=by
    show _=_;rw[gT L,NF]
   obtain⟨b,off,ab,aY,ao⟩:=(aE.o.below c.o).get aa;have aV:=ao j L;simp only[fT]at aV;have Q:=af ab;have aR:(bf R.length).length<=40000:=by rw[dB];omega
   obtain⟨M,ad⟩:∃M,M=(bf R.length).length:=⟨_,rfl⟩;rw[<-ad]at aG ap aR;clear an ao J ac r ab ad;generalize lowO R (uo R (bf R.length) YS (a.take j)) (lK (bf R.length) YS a[j])=a7 at*;generalize lK (bf R.length) YS a[j]=bk at*;generalize uo R (bf R.length) YS (a.take j)=aW at*;generalize a[j]=k at*;obtain rfl:=Q.o;clear Q
   go_wp2_with fail
   refine P.o.mono ?_;rintro e w3 ⟨rfl,am⟩;have d:=af (c.o.trans (am.mono c.o.size));clear am P;go_wp2;go_roundw
   case rel=>exact⟨j+1,by go_num,aa,by rw[aF.o],d⟩
   case measure=>exact bZ
  .obtain rfl:j=a.length:=aa;rw[iE]at*;have au:=Mh (N:=bf R.length) G.o a;generalize ar:uo R (bf R.length) YS a=o at*;have HO:=af ar;clear ar;have d:=af (m.o.trans (c.o.mono (by have:=m.o.size;omega)));have n:=af ((c.o.block w.heap.size aU).trans Z.o);obtain⟨w3,aN⟩:∃w3:World,w3=wr:=⟨_,rfl⟩;subst aN;cases o with
   |none=>
    simp only[oW,mh,nC,Option.isSome_none];have T:=nG w3 w.heap.size _ #[ae 0,ae 0,ak 0] _ _ n.o;have U:=oK d.o (aA w.heap.size) #[ae 0,ae 0,ak 0];have D:=af T;have E:=af U;clear T U
    go_wp2_with (refine oF rfl 29 (.tmp 6) (.tmp 40) rfl rfl w.heap.size #[ae 0,ae 0,ak 0] rfl rfl _ _ n.o aL rfl (by simp[Value.oneCell']) ?_)
    refine kC (o5 rfl _ _ w.heap.size _ _ _ _ (.bool false) (.int .i64 (eT:Nat)) rfl rfl rfl D.o underlying29 rfl aL) rfl ?_;exact⟨⟨(0,0,0),by first|rfl|(rw[HO.o];rfl),by first|rfl|(rw[HO.o];rfl)⟩,E.o⟩
   |some i=>
    have s:=au i rfl;have aH:((i:Int)==-1)=false:=by first|(simp;done)|(simp;omega)
    have aX:decide ((i:Int)=-1)=false:=by first|(simp;done)|(simp;omega)
    obtain⟨a2,a9,bb,a8,az⟩:=(g.o.below d.o (by have:=g.o.fM;omega)).SQ;obtain⟨ba,bc,aM,a3,t⟩:=az.get aa;have z:=t i s 0 aa;have A:=t i s 1 aa;have B:=t i s 2 aa;simp only[bX,eG,eQ,df]at z A B;rw[<-dK s]at z A B;subst aM;simp only[oW,eP,ic,Option.isSome_some];have X:Hid (∃p,p=cu R i):=⟨_,rfl⟩;obtain⟨p,hp⟩:=X.o;have Y:=af hp;rw[<-hp]at z A B;clear hp X;obtain⟨u,x,y⟩:=p;simp only at z A B;clear t az au;have D:=af (nG w3 w.heap.size _ #[ae u,ae x,ak y] _ _ n.o);have E:=af (oK d.o (aA w.heap.size) #[ae u,ae x,ak y])
    go_wp2_with (refine oF rfl 29 (.tmp 6) (.tmp 48) rfl rfl w.heap.size #[ae u,ae x,ak y] rfl rfl _ _ n.o aL rfl (by simp[Value.oneCell']) ?_)
    refine kC (o5 rfl _ _ w.heap.size _ _ _ _ (.bool true) (.int .i64 (eT:Nat)) rfl rfl rfl D.o underlying29 rfl aL) rfl ?_;exact⟨⟨(u,x,y),by first|exact Y.o|(rw[HO.o];exact Y.o),by first|rfl|(rw[HO.o];rfl)⟩,E.o⟩
end
section
open Go Go.RowKit
namespace FT
theorem wU:∀(t:FT) (s x:Nat),t.wf->t.lo<=x->x<t.hi->
  (∀i k,(t.path s x)[i]? =some k->i+1<(t.path s x).length->∃l r b,(node l r,b)∈t.subs s/\(node l r).root b=k)/\
  ∃L k,t.path s x=L++[k]/\(leaf x,k)∈t.subs s
 |leaf a,s,x,h,g,j=>by
  have o:a=x:=by simp only[lo,hi]at g j;omega
  subst o;refine⟨fun i k hi c=>?_,[],s,by rw[path];rfl,by simp[subs]⟩;rw[path]at c;simp at c
 |node l r,s,x,h,g,j=>by
  have w:=h.2.2;have key:∀(t:FT) (b:Nat),(∀p∈t.subs b,p∈(node l r).subs s)->(node l r).path s x=(node l r).root s::t.path b x->
    ((∀i k,(t.path b x)[i]? =some k->i+1<(t.path b x).length->∃l r f,(node l r,f)∈t.subs b/\(node l r).root f=k)/\∃L k,t.path b x=L++[k]/\(leaf x,k)∈t.subs b)->
    (∀i k,((node l r).path s x)[i]? =some k->i+1<((node l r).path s x).length->∃l' d b,(node l' d,b)∈(node l r).subs s/\(node l' d).root b=k)/\∃L k,(node l r).path s x=L++[k]/\(leaf x,k)∈(node l r).subs s:=fun t b n e ⟨q,L,k,u,v⟩=>by
   rw[e];refine⟨fun i k hi c=>?_,(node l r).root s::L,k,by rw[u];rfl,n _ v⟩
   match i with
   |0=>
    simp only[eG]at hi;injection hi with hi;exact⟨l,r,s,by simp[subs],hi⟩
   |i+1=>
    simp only[eQ]at hi;have⟨l',d,f,m1,m2⟩:=q i k hi (aQ c);exact⟨l',d,f,n _ m1,m2⟩
  by_cases m:x<l.hi
  .exact key l s (fun p hp=>by simp[subs,hp]) (by rw[path,aO m]) (wU l s x h.1 g m)
  .exact key r (s+l.size) (fun p hp=>by simp[subs,hp]) (by rw[path,aN m]) (wU r _ x h.2.1 aa j)
end FT
def zW (N:List Nd) (YS XM:List Nat) (P:List Nat) (m:Nat):iV:=fun k=>if k∈P.take m then lK N YS k else lK N XM k
section
variable {R:List Pt} {gone TR:List Bool} {YS:List Nat} {x:Nat}
theorem NT (g:x<R.length) {k:Nat} (c:k<(bf R.length).length) (hP:k∉(dU 0 R.length).path 0 x):lK (bf R.length) (eF YS x) k=lK (bf R.length) YS k:=by
 have b:0<R.length:=aa;have⟨t,s,a,e⟩:=uM c;subst e;have⟨w1,w2,w3⟩:=bR 0 R.length b;have d:=FT.at_mem (gm b▸a);have f:¬(t.lo<=x/\x<t.hi):=fun h=>hP (FT.xN _ 0 x w1 (t,s) d h.1 h.2);unfold lK;rw[De a,De a];congr 1;unfold nl eF;rw[sK];apply l9;intro i _;by_cases e:i=x
 .subst e;simp[f]
 .simp[e]
structure Qx (R:List Pt) (YS:List Nat) (x:Nat) (P:List Nat):Prop where
 lt:∀k∈P,k<(bf R.length).length
 down:P.Pairwise (·>·)
 aside:∀k,k<(bf R.length).length->k∉P->lK (bf R.length) (eF YS x) k=lK (bf R.length) YS k
 inner:∀i (h:i+1<P.length),∃l r s,FT.At (bf R.length) (.node l r) s/\(FT.node l r).wf/\(FT.node l r).root s=P[i]'(sM h)
 last:∃h:P.length-1<P.length,FT.At (bf R.length) (.leaf x) P[P.length-1]
theorem UZ (YS:List Nat) (m:x<R.length):Qx R YS x ((dU 0 R.length).path 0 x):=by
 have a:0<R.length:=aa;have⟨w1,w2,w3⟩:=bR 0 R.length a;have g:=kH R.length a;have d:=g;rw[gm a]at d;have c:∀p∈(dU 0 R.length).subs 0,FT.At (bf R.length) p.1 p.2:=fun p hp=>by rw[gm a];exact FT.lG _ 0 d _ hp
 have⟨n,L,k,f,o⟩:=FT.wU (dU 0 R.length) 0 x w1 aa aa;refine⟨fun k b=>?_,FT.uJ _ 0 x w1 aa aa,fun k b hP=>NT m b hP,fun i h=>?_,?_⟩
 .obtain⟨p,hp,e,-⟩:=FT.nM _ 0 x w1 aa aa k b;rw[<-e];exact(c p hp).lt
 .obtain⟨l,r,s,m1,m2⟩:=n i _ (cK (sM h)) h;exact⟨l,r,s,c _ m1,FT.q8 _ 0 w1 _ m1,m2⟩
 .have j:((dU 0 R.length).path 0 x).length-1<((dU 0 R.length).path 0 x).length:=by rw[f];simp
  refine⟨j,?_⟩;have e:((dU 0 R.length).path 0 x)[((dU 0 R.length).path 0 x).length-1]=k:=by simp[f]
  rw[e];exact c _ o
variable {P:List Nat} (hP:Qx R YS x P)
include hP
theorem Qx.sorted {i j:Nat} (a:i<j) (b:j<P.length):P[j]<P[i]:=gH.1 hP.down i j aa b a
theorem Qx.Dq {m k:Nat} (b:m<P.length) (d:k<=P[m]) (h:k∈P.take m):False:=by
 have⟨i,hi,e⟩:=iN h;have a:i<m:=by simp at hi;omega
 have c:P[i]'aa=k:=by rw[<-e];simp
 have:=hP.sorted a b;omega
theorem NU (c:dm R TR (eF YS x)) (k:Nat) (g:k<(bf R.length).length):gU (lK (bf R.length) YS) (P[P.length-1]'hP.last.1) none k=zW (bf R.length) YS (eF YS x) P (P.length-1) k:=by
 have⟨j,d⟩:=hP.last;unfold zW;by_cases e:k=P[P.length-1]
 .subst e;rw[gG,aN (fun h=>hP.Dq j (aA _) h),Dg c d,aN (by simp[eF])]
 .rw[iL e];by_cases h:k∈P.take (P.length-1)
  .rw[aO h]
  .rw[aN h];refine(hP.aside k g fun b=>?_).symm;have⟨i,hi,a⟩:=iN b;by_cases f:i=P.length-1
   .subst f;exact e a.symm
   .exact h (by rw[<-a];exact List.mem_take_iff_getElem.2 ⟨i,aa,rfl⟩)
theorem Qy (g:dm R TR (eF YS x)) {m:Nat} (a:m+1<P.length):∃l r s,FT.At (bf R.length) (.node l r) s/\(FT.node l r).root s=P[m]'(sM a)/\
  zW (bf R.length) YS (eF YS x) P (m+1) (l.root s)=lK (bf R.length) (eF YS x) (l.root s)/\zW (bf R.length) YS (eF YS x) P (m+1) (r.root (s+l.size))=lK (bf R.length) (eF YS x) (r.root (s+l.size))/\
  ∀k,gU (zW (bf R.length) YS (eF YS x) P (m+1)) (P[m]'(sM a)) (lowO R (lK (bf R.length) (eF YS x) (l.root s)) (lK (bf R.length) (eF YS x) (r.root (s+l.size)))) k=zW (bf R.length) YS (eF YS x) P m k:=by
 have⟨l,r,s,c,i,e⟩:=hP.inner m a;have d:l.root s<(FT.node l r).root s/\r.root (s+l.size)<(FT.node l r).root s:=by
  have:=l.size_pos;have:=r.size_pos;have j:(FT.node l r).size=l.size+r.size+1:=rfl;unfold FT.root;omega
 have f:∀k,k<(FT.node l r).root s->k∉P.take (m+1):=fun k b h=>by
  rw[e]at b;rw[gT (sM a),bW,lS]at h;rcases h with h|h
  .exact hP.Dq (sM a) (wm b) h
  .omega
 refine⟨l,r,s,c,e,aN (f _ d.1),aN (f _ d.2),fun k=>?_⟩;by_cases b:k=P[m]
 .subst b;rw[gG];unfold zW;rw[aN (fun h=>hP.Dq (sM a) (aA _) h),<-e,IE g c i]
 .rw[iL b];unfold zW;have:k∈P.take (m+1)↔k∈P.take m:=by
   rw[gT (sM a),bW,lS];exact⟨fun h=>h.resolve_right b,.inl⟩
  simp only[this]
theorem Qz:zW (bf R.length) YS (eF YS x) P 0=lK (bf R.length) (eF YS x):=by
 have _:=hP;funext k;unfold zW;rw[lh,aN iO]
end
end
section
open Go.RowKit Go.Sort Go.Shelf Go.Lib Go.Maps
attribute [local irreducible] wpQuiet
attribute [local go_sem] Oper.dZ
theorem Dr:eU 103:=bP func103 aL rfl
def KT (w:World) (lo hi tb fb:Nat) (R:List Pt) (YS:List Nat) (cnt:Int) (V:mQ) (x:Nat) (e:Ending) (w':World):Prop:=
 (x∉YS/\e=.returned (.bool false)/\Below w.heap.size w w')\/(x∈YS/\e=.returned (.bool true)/\dS w' lo hi tb fb R (lK (bf R.length) (eF YS x)) (cnt-1) V/\aB (fun k=>lo<=k/\k<hi) w w')
theorem IU {w:World} {lo hi tb fb:Nat} {R:List Pt} {gone:List Bool} {YS:List Nat} {cnt:Int} {V:mQ} (H:dS w lo hi tb fb R (lK (bf R.length) YS) cnt V) (aS:dm R gone YS) (c5:R.length<=20000) (dI:0<=cnt) (dJ:cnt<=20000) {x:Nat} (J:x<R.length) (p:Pt) (hp:R[x]=p):
  aK 127 #[aj tb,jb p.1 p.2.1 p.2.2] w (KT w lo hi tb fb R YS cnt V x):=by
 have A:=H.blk;have dg:=H.GV;have B:=H.fM;obtain⟨bP,bQ,b4,-,-,bH⟩:=bV.aD bq ai H.row;rw[b4]at A;have CB:=af (fun W (A:Below w.heap.size w W)=>PW bP R R.length bQ p W rfl aa (bH.below A) aS.Cm);have aW:=Gp aS.Cm J;rw[hp]at aW;rw[aW.1,aW.2]at CB;have cL:=af bH;have co:cu R x=p:=by rw[dK J];exact hp
 have cK:=af co;have ax:=af J;obtain⟨bc,bd,bb⟩:=p;obtain⟨w1,aG⟩:∃w1,w1=w.alloc (.cells #[ae bc,ae bd,ak bb] 29):=⟨_,rfl⟩;have bu:Below w.heap.size w w1:=by rw[aG];exact(aJ _ _).alloc (aA _) _
 have ac:w1.heap[w.heap.size]? =some (.cells #[ae bc,ae bd,ak bb] 29 (0,0)):=by rw[aG];exact bY w _
 have bF:w.heap.size<w1.heap.size:=(bg.1 ac).1;have aZ:=(bu.block tb dg).trans A;have T:w1.cell? (ag tb 0)=some (.slice bP R.length bQ):=aI aZ;have a8:w1.cell? (ag w.heap.size 0)=some (ae bc):=aI ac;have a9:w1.cell? (ag w.heap.size 1)=some (ae bd):=aI ac;have ba:w1.cell? (ag w.heap.size 2)=some (ak bb):=aI ac;have de:0<R.length:=aa;have cs:=J;obtain⟨n,bE⟩:∃n,n=R.length:=⟨_,rfl⟩;rw[<-bE]at c5 T CB de cs;have u:=af bE;have ao:=af bu;have bW:=af H;have bm:=af aS;have b2:=af (UZ YS J);have dh:tb<w1.heap.size:=aa;clear H bH A b4 bE bu ac aZ aW hp J aS co;have d0:((n:Int)==0)=false:=aH;have d1:(n==0)=false:=aH;have d2:decide (n=0)=false:=aH;go_enter func127,ntmps127
 go_upto_region 1 with fail
 rw[<-aG];clear aG
 go_upto_region 3 with fail
 have b0:Hid (∀b:aR w1,aK 191 #[.slice bP n bQ,jb bc bd bb,.func (.func 94) #[] #[]] b.W fun e w'=>e=.returned (.tuple #[ae (x:Nat),.bool true])/\Below b.W.heap.size b.W w'):=fun b=>CB.o b.W (ao.o.trans (b.h.mono ao.o.size));clear CB;have cZ:=ah T;have c0:=ah a8;have c1:=ah a9;have c2:=ah ba;refine bG aL aL ?_
 repeat(quiet_step ((go_at_call 191;exact dH (b0.o _))))
 refine jS ?_;intro wc cr;have I:Below w1.heap.size w1 wc:=by obtain⟨b,rfl⟩:=cr;exact b.h
 have T:=(I.cell (p:=(ag tb 0)) dh).trans T;have a8:=(I.cell (p:=(ag w.heap.size 0)) bF).trans a8;have a9:=(I.cell (p:=(ag w.heap.size 1)) bF).trans a9;have ba:=(I.cell (p:=(ag w.heap.size 2)) bF).trans ba;have Q:Hid (Below w.heap.size w wc):=ao.o.trans (I.mono ao.o.size);clear cr I cZ c0 c1 c2 b0;have av:Hid (dS wc lo hi tb fb R (lK (bf R.length) YS) cnt V):=bW.o.below Q.o B.2.2.2.2;have cg:=av.o.blk;have bn:wc.cell? (ag tb 2)=some (aj fb):=aI cg;obtain⟨b,off,cW,c7,c⟩:=(cL.o.below Q.o).get (by have:=u.o;omega);have bM:=c x ax.o 0 aa;have bN:=c x ax.o 1 aa;have bO:=c x ax.o 2 aa;rw[<-dK ax.o,cK.o]at bM bN bO;simp only[bX,eG,eQ,df]at bM bN bO;subst cW;clear c cg bW
 go_upto_region 4 with fail
 go_quiet (fail)
 obtain⟨w3,aM⟩:∃w3,w3=wc.drewN nq:=⟨_,rfl⟩;have bv:Below wc.heap.size wc w3:=by rw[aM];exact Below.aX _ _
 have bn:w3.cell? (ag tb 2)=some (aj fb):=by rw[aM];exact bn
 have ar:Hid (dS w3 lo hi tb fb R (lK (bf R.length) YS) cnt V):=av.o.below bv av.o.fM.2.2.2.2;have ap:Hid (Below w.heap.size w w3):=Q.o.trans (bv.mono Q.o.size);have bT:=af (wI lo fb n x V.fv aa cs w3 (by rw[u.o];exact ar.o.iU))
 go_upto_region 6 with fail
 rw[<-aM];clear aM bv av Q bM bN bO a8 a9 ba T c7
 go_wp2_with fail
 refine bT.o.mono ?_;rintro e w4 ⟨pv,rfl,a3,bw⟩;have S:Hid (dS w4 lo hi tb fb R (lK (bf R.length) YS) cnt V):=ar.o.below bw ar.o.fM.2.2.2.2;have bZ:Hid (Below w.heap.size w w4):=ap.o.trans (bw.mono ap.o.size);have dW:w.heap.size<=w3.heap.size:=ap.o.size;obtain⟨P,aQ⟩:∃P,P=(dU 0 n).path 0 x:=⟨_,rfl⟩;have dF:P.length<=n+1:=by
  have b5:=FT.pG (dU 0 n) 0 x;have dE:=wE 0 n n (wm (Fy));rw[aQ];omega
 rw[<-aQ]at a3;have D:Hid (Qx R YS x P):=by rw[aQ,u.o];exact b2.o
 clear aQ;obtain⟨dy,cx,rfl,-,-,ad⟩:=Rd.aD (enc:=fT) a3;have bl:Hid (w4.ownsRow w3.heap.size 3 1 (.slice dy P.length cx) P.length (P.map fT)):=a3;obtain⟨cl,b7⟩:=D.o.last;have a1:=D.o.lt _ (bC cl);obtain⟨az,bL,cX,dG,b9⟩:=ad.get aa;have bi:=b9 (P.length-1) cl;simp only[fT]at bi;obtain⟨F,ch,br,ci,cj,da,-,dL,c,-⟩:=S.o.holds (by have:=u.o;omega);obtain⟨q,O⟩:=c _ a1;rw[show lK (bf R.length) YS P[P.length-1]=if x∈YS then some x else none from Dg bm.o b7]at q;have Z:=S.o.blk;rw[br]at Z;have E:w4.cell? (ag tb 4)=some (aC F (bf R.length).length ch):=aI Z;have cT:w4.cell? (ag tb 5)=some (ae cnt):=aI Z;have dA:w4.frozen? (ag tb 5)=false:=aI Z;have cC:=af br;have cH:Hid (P[P.length-1]=P[P.length-1]):=rfl;have c4:(bf R.length).length<=40000:=by have:=u.o;rw[dB];omega
 have cV:((P.length-1:Nat):Int)=(P.length:Int)-1:=aa;have dX:=S.o.GV;have dM:F≠tb:=da;obtain⟨lf,bB⟩:∃lf,lf=P[P.length-1]:=⟨_,rfl⟩;obtain⟨M,bt⟩:∃M,M=(bf R.length).length:=⟨_,rfl⟩;rw[<-bB]at bi q O a1;rw[<-bt]at E a1 c4;have cG:=af bB;have bk:=af bt;obtain⟨m1,bD⟩:∃m1,m1=P.length-1:=⟨_,rfl⟩;rw[<-bD]at bi;have dQ:(P.length:Int)-1=(m1:Int):=aa;have dR:(m1:Int)<(P.length:Int):=aa;have dT:m1<P.length:=aa;have cI:=af bD;clear bD;subst cX;clear Z br c a3 ad bw bT ar ap bn b9 bB bt b7 cV cH;by_cases z:x∈YS
 .rw[aO z]at q;simp only[oW]at q;have b6:=bm.o.drop ((bm.o.live x).1 z);have aw:=af b6;have dC:((x:Int)==-1)=false:=by first|(simp;done)|(simp;omega)
  have dD:decide ((x:Int)=-1)=false:=by first|(simp;done)|(simp;omega)
  have cO:=af z;obtain⟨bR,U⟩:∃bR,bR=w4.setCell (ag F lf) (.int .i64 (-1)):=⟨_,rfl⟩;obtain⟨w6,X⟩:∃w6,w6=bR.setCell (ag tb 5) (.int .i64 (cnt-1)):=⟨_,rfl⟩;have cJ:Hid (dS w6 lo hi tb fb R (zW (bf R.length) YS (eF YS x) P m1) (cnt-1) V):=by
   rw[X,U];have b5:=((S.o.ou cC.o (by rw[<-bk.o];exact a1) none).CY (cnt-1));refine b5.congr fun k dd=>?_;rw[cG.o,cI.o];exact(NU D.o aw.o k dd).symm
  have cE:Hid (aB (fun k=>lo<=k/\k<hi) w w6):=by
   rw[X,U];exact((((aB.refl _ w).below bZ.o).set (a:=(ag F lf)) _ (.inl ⟨ci,cj⟩)).set (a:=(ag tb 5)) _ (.inl ⟨B.1,B.2.1⟩))
  have b3:Hid (w6.ownsRow w3.heap.size 3 1 (.slice (some (ag az bL)) P.length cx) P.length (P.map fT)):=by
   have bK:aB (fun k=>lo<=k/\k<hi) w4 w6:=by rw[X,U];exact(((aB.refl _ w4).set (a:=(ag F lf)) _ (.inl ⟨ci,cj⟩)).set (a:=(ag tb 5)) _ (.inl ⟨B.1,B.2.1⟩))
   exact aU bl.o bK (fun g e G=>by have:=(bl.o.lt g e).1;have:=G.2;have:=B.2.2.2.2;omega)
  have b1:Hid (w6=(w4.setCell (ag F lf) (.int .i64 (-1))).setCell (ag tb 5) (.int .i64 (cnt-1))):=by rw[X,U];rfl
  clear U X b6 z S bl b2
  go_upto_region 12 with fail
  rw[<-b1.o];clear b1 E cT dA q O bi;go_wp2
  go_loopw [10] (fun bI wr=>∃(m:Nat) (i:Int),bI=.int .i64 i/\i=(m:Int)-1/\m<=m1/\Hid (dS wr lo hi tb fb R (zW (bf R.length) YS (eF YS x) P m) (cnt-1) V)/\Hid (aB (fun k=>lo<=k/\k<hi) w6 wr)) (fun bI _=>(intOf bI+1).toNat)
  case atStart=>exact⟨m1,_,rfl,aa,aA _,cJ,af (aB.refl _ _)⟩
  case round=>
   obtain⟨m,i,rfl,dc,dV,t,bj⟩:=hrel;by_cases dP:0<m
   .obtain⟨j,rfl⟩:∃j,m=j+1:=⟨m-1,aa⟩;obtain rfl:i=(j:Int):=aa;clear dc;obtain⟨l,r,s,aT,cf,cd,ce,cq⟩:=Qy D.o aw.o (m:=j) aa;have ck:j<P.length:=aa;have dO:(j:Int)<(P.length:Int):=aa;have cz:=aU b3.o bj.o (fun g e G=>by have:=(b3.o.lt g e).1;have:=G.2;have:=B.2.2.2.2;omega);obtain⟨_,_,aE,-,-,ad⟩:=Rd.aD (enc:=fT) cz;injection aE with aE _ _;obtain⟨cQ,dx,bp,c9,ca⟩:=ad.get aa;obtain⟨rfl,rfl⟩:az=cQ/\bL=dx:=by rw[<-aE]at bp;simpa using bp
    have an:=ca j ck;simp only[fT]at an;obtain⟨c3,dw,cn,env,cy⟩:=t.o.nodes (by have:=u.o;omega);obtain⟨v,cU,bs,aZ,db,dN,-,a0,c,-⟩:=t.o.holds (by have:=u.o;omega);obtain⟨-,n0,al,am,a4,a5,a6,a7⟩:=nJ cy aT.get;have a2:=D.o.lt _ (bC ck);have cm:=aT.left.lt;have cp:=aT.right.lt;obtain⟨q,O⟩:=c _ a2;obtain⟨y1,-⟩:=c _ cm;obtain⟨y2,-⟩:=c _ cp;rw[cd]at y1;rw[ce]at y2;have aV:=t.o.blk;rw[env,bs]at aV;have bo:wr.cell? (ag tb 3)=some (.slice (some (ag c3 dw)) (bf R.length).length cn):=aI aV;have E:wr.cell? (ag tb 4)=some (aC v (bf R.length).length cU):=aI aV;have cb:((FT.node l r).top s).l=((l.root s:Nat):Int):=by show((s+l.size:Nat):Int)-1=_;unfold FT.root;have:=l.size_pos;omega
    have cc:((FT.node l r).top s).r=((r.root (s+l.size):Nat):Int):=by show((s+l.size+r.size:Nat):Int)-1=_;unfold FT.root;have:=r.size_pos;omega
    rw[cb]at al;rw[cc]at am;have c6:=t.o.GV;have bS:=af (fun W (A:Below wr.heap.size wr W)=>zV (t.o.SQ.below A) (by have:=u.o;omega) (lK (bf R.length) (eF YS x) (l.root s)) (lK (bf R.length) (eF YS x) (r.root (s+l.size))) (fun i h=>Df aw.o h) (fun i h=>Df aw.o h));have cM:=af cq;have cD:=af bs;rw[cf]at n0 al am a4 a5 a6 a7;rw[<-bk.o]at bo E a2 cm cp;obtain⟨N,bA⟩:∃N,N=P[j]:=⟨_,rfl⟩;have cF:=af bA;rw[<-bA]at an n0 al am a4 a5 a6 a7 q O a2;clear bA cf cq cd ce aV env bs c cy ca cz ad aE bp cb cc aT;generalize lowO R (lK (bf R.length) (eF YS x) (l.root s)) (lK (bf R.length) (eF YS x) (r.root (s+l.size)))=cw at*;generalize lK (bf R.length) (eF YS x) (l.root s)=cP at*;generalize lK (bf R.length) (eF YS x) (r.root (s+l.size))=cR at*;generalize l.root s=kl at*;generalize r.root (s+l.size)=kr at*;generalize(FT.node l r).top s=d at*;obtain⟨f,aP⟩:∃f,f=(wr.alloc (.cells #[.int .u8 d.kind,ae kl,ae kr,ae d.fr,ae d.Lu,ae 0,ae d.item] 163)).drew:=⟨_,rfl⟩;have y:Below wr.heap.size wr f:=by rw[aP];exact((aJ _ _).alloc (aA _) _).drew
    have L:f.heap[wr.heap.size]? =some (.cells #[.int .u8 d.kind,ae kl,ae kr,ae d.fr,ae d.Lu,ae 0,ae d.item] 163 (0,0)):=by rw[aP];exact bY wr _
    have aq:=af y;have cN:=af L;have bU:=af aP;clear aP y L;have bJ:=ah bo;have dv:=ah an;have dl:=ah n0;have dn:=ah al;have dp:=ah am;have dq:=ah a4;have dr:=ah a5;have ds:=ah a6;have dt:=ah a7
    go_upto_region 15 with fail
    refine au (fun W=>∃p:aR wr,W=p.W) [11] [(0,false),(1,false),(2,false),(3,true),(4,false),(5,false),(6,false),(7,true),(8,false),(9,true)] ⟨⟨_,(aJ _ _).drew⟩,rfl⟩ 2 ?_;refine ay 10 rfl fun K Y=>?_;go_simp;refine Y _ _ (fun _ _=>⟨⟨_,((aJ _ _).drew).alloc (aA _) _⟩,rfl⟩) ?_;clear Y K;refine aF [11] ?_;clear bJ dv dl dn dp dq dr ds dt n0 al am a4 a5 a6 a7 bo
    go_upto_region 16 with fail
    rw[<-bU.o];clear bU;have L:=cN.o;have y:=aq.o;have c8:az<wr.heap.size:=c9;have ct:f.cell? (ag wr.heap.size 1)=some (ae kl):=aI L;have cv:f.cell? (ag wr.heap.size 2)=some (ae kr):=aI L;have cS:=(y.cell (p:=(ag tb 4)) c6).trans E;have dz:=(y.cell (p:=(ag az (bL+j))) c8).trans an;have cA:=(y.cell (p:=(ag v kl)) a0).trans y1;have cB:=(y.cell (p:=(ag v kr)) a0).trans y2;have di:=ah ct;have dj:=ah cv;have bJ:=ah cS;have dk:=ah dz;have bK:=ah cA;have du:=ah cB;clear L y ct cv cA cB y1 y2 E an;refine au (fun W=>∃p:aR f,W=p.W) [26,27] [(0,false),(1,false),(2,false),(3,true),(4,false),(5,false),(6,false),(7,true),(8,false),(9,false),(10,false),(11,false),(12,true),(13,false),(14,true),(15,false),(16,true),(17,false),(18,false),(19,false),(20,true),(21,false),(22,true),(23,false),(24,true)] ⟨⟨_,(aJ _ _).drew⟩,rfl⟩ 3 ?_;refine ay 25 rfl fun K Y=>?_;refine aY Dr rfl _ _ rfl (vals:=#[aj tb,ae (oW cP),ae (oW cR)]) rfl (bS.o f.drew aq.o.drew) ?_;rintro e be ⟨rfl,b8⟩;have bx:Below f.heap.size f be:=((aJ f.heap.size f).drew).trans b8;refine⟨_,rfl,Y _ _ (fun _ _=>⟨⟨_,bx⟩,rfl⟩) ?_⟩;clear Y K;refine aF [26,27] ?_;have ab:Below wr.heap.size wr be:=aq.o.trans (bx.mono aq.o.size);have dY:=(ab.cell (p:=(ag v N)) a0).trans q;have dZ:be.frozen? (ag v N)=false:=by
     have G:=O;simp only[World.frozen?]at G |-;rw[ab.block v a0];exact G
    have C:Hid (∀bh,bh=be.setCell (ag v N) (.int .i64 (oW cw))->dS bh lo hi tb fb R (zW (bf R.length) YS (eF YS x) P j) (cnt-1) V/\aB (fun k=>lo<=k/\k<hi) w6 bh):=fun bh cY=>by
     subst cY;refine⟨((t.o.below ab t.o.fM.2.2.2.2).ou cD.o (by rw[<-bk.o];exact a2) cw).congr fun k _=>?_,(bj.o.below ab).set (a:=(ag v N)) _ (.inl ⟨aZ,db⟩)⟩;rw[cF.o];exact(cM.o k).symm
    clear ab bx b8 q O di dj bJ dk bK du bS;go_wp2;exact⟨⟨j,by first|rfl|omega,aa,(C.o _ rfl).1,(C.o _ rfl).2⟩,by simp[intOf];omega⟩
   .obtain rfl:m=0:=aa;have d9:decide (0<=i)=false:=aH;have bz:=t.o;rw[Qz D.o]at bz;have C:Hid (KT w lo hi tb fb R YS cnt V x (.returned (.bool true)) wr):=.inr ⟨cO.o,rfl,bz,cE.o.trans bj.o⟩;clear bz;go_wp2;go_ret;exact C.o
 .rw[aN z]at q;simp only[oW]at q;have C:Hid (KT w lo hi tb fb R YS cnt V x (.returned (.bool false)) w4):=.inl ⟨z,rfl,bZ.o⟩;clear z;go_wp2;go_ret;exact C.o
theorem KU (a:Option Addr) (c:Nat) (l:List Pt) (w:World) (s:bV bX 3 w a l) (O:l.length<=1000000) (x:Jw l):
  aK 102 #[.slice a l.length c] w (gD w (.bool (lF l))):=by
 have B:=af s;have E:=af x;clear s x;have N:=@run_makeMap prog;go_enter func102,ntmps102;go_wp2
 go_loopw [9] (fun k wr=>∃i:Nat,k=.int .i64 i/\i<=l.length/\Below w.heap.size w wr/\Hid (∃(D:DataW Unit),wr.ownsMap prog 27 (plainElem prog 3) w.heap.size i D/\oo D l i)) (fun k _=>l.length-(intOf k).toNat)
 case atStart=>exact⟨0,rfl,aT _,(aJ _ _).alloc (aA _) _,⟨.map [],yT _ _ _ _,[],IsM.empty _ _⟩⟩
 case round=>
  obtain⟨i,rfl,hi,e,HO⟩:=hrel;by_cases g:i<l.length
  .obtain⟨b,off,q,M,f⟩:=(B.o.below e).get aa;have K:=f i g 0 aa;have x1:=f i g 1 aa;have x2:=f i g 2 aa;simp only[bX,eG,eQ,df]at K x1 x2;have G:Hid (keyOf prog 27 (.int .u32 l[i].2.2)=some (.int .u32 l[i].2.2)):=zh underlying27 (E.o _ (bC _));obtain⟨D,t,d⟩:=HO.o;have n:=af (d.put g);have L:=e.size;have m:=af q;clear HO f d q;generalize l[i]=p at*;obtain⟨I,J,H⟩:=p;obtain rfl:=m.o;clear m;have h:=t.kept (rP wr (.cells #[ae I,ae J,ak H] 29) none) ax
   go_wp2_with (at_mapUpdate;refine yO _ rfl _ _ _ 26 rfl 27 3 (int_keyed underlying27) underlying26 _ w.heap.size i _ rfl h dE _ _ _ rfl rfl G.o _ [] (vY underlying3 (by simp[Lit.wf,IntKind.min,IntKind.max,IntKind.bits,IntKind.signed];omega)) ?_;intro w3 u r)
   have y:Below w.heap.size wr w3:=(((aJ _ wr).alloc aa _)).grown r aH (fun j F=>by cases F;omega);have A:Hid (∃(D:DataW Unit),w3.ownsMap prog 27 (plainElem prog 3) w.heap.size (i+1) D/\oo D l (i+1)):=⟨_,u,n.o⟩;have z:=e.trans y;clear u r h t n;go_wp2;go_roundw
   case rel=>exact⟨i+1,by go_num,aa,z,A⟩
   case measure=>exact bZ
  .obtain rfl:i=l.length:=aa;obtain⟨D,h,d⟩:=HO.o;have v:=d.size;have C:=af v;clear v d HO
   go_wp2_with (at_len;refine wpList_len_own _ rfl _ 26 rfl 27 3 underlying26 _ w.heap.size _ _ rfl h ?_)
   go_ret;exact⟨by rw[C.o];rfl,e⟩
theorem dS.grow {w:World} {lo hi a tb fb:Nat} {R:List Pt} {h:iV} {cnt:Int} {V:mQ} (H:dS w lo hi tb fb R h cnt V) (b:hi<=a) (c:a<=w.heap.size):dS w lo a tb fb R h cnt V:=
 ⟨H.blk,⟨H.fM.1,by have:=H.fM.2.1;omega,H.fM.2.2.1,by have:=H.fM.2.2.2.1;omega,c⟩,H.row,H.xs,H.iU,H.jD,H.oU,fun v d g e=>cO (H.top v d g e) b⟩
theorem QA (n:Nat):Jy (fun _=>some 0) n=List.replicate n (.int .i64 0):=by
 unfold Jy;refine sO ax fun i a b=>?_;simp[oW]
def Mi (w:World) (R:List Pt) (e:Ending) (w':World):Prop:=
 ∃tb fb V,e=.returned (.tuple #[aj tb,ae 0])/\dS w' w.heap.size w'.heap.size tb fb R (lK (bf R.length) (ed R)) R.length V/\Below w.heap.size w w'
structure U0 (w:World) (lo fb n:Nat) (rv nv fv:Value) (l:List Pt):Prop where
 row:w.ownsRow lo 29 3 rv n (l.flatMap bX)
 jD:w.ownsRow lo 163 7 nv (bf n).length ((bf n).flatMap pR)
 iU:om w lo fb n fv
 Rv:lo<=fb
theorem U0.kept {S:Nat->Prop} {w w':World} {lo fb n:Nat} {j i g:Value} {l:List Pt} (h:U0 w lo fb n j i g l) (K:aB S w w') (hS:∀k,k<w.heap.size->S k->∃cs t fr,w.heap[k]? =some (.cells cs t fr)/\t≠29/\t≠163/\t≠236):U0 w' lo fb n j i g l:=by
 refine⟨p8 h.row K fun k f e=>?_,p8 h.jD K fun k f e=>?_,⟨bu K h.iU.blk fun e=>?_,p8 h.iU.row K fun k f e=>?_⟩,h.Rv⟩
 .obtain⟨cs,t,fr,a,b,c,d⟩:=hS k f e;exact⟨cs,t,fr,a,b⟩
 .obtain⟨cs,t,fr,a,b,c,d⟩:=hS k f e;exact⟨cs,t,fr,a,c⟩
 .have m:=(bg.1 h.iU.blk).1;have⟨cs,t,fr,a,b,c,d⟩:=hS fb m e;have:=a.symm.trans h.iU.blk;injection this with this;injection this with _ this _;exact d this
 .obtain⟨cs,t,fr,a,b,c,d⟩:=hS k f e;exact⟨cs,t,fr,a,c⟩
def yo (N:List Nd) (YS:List Nat) (i:Nat):iV:=fun k=>if k<i then lK N YS k else some 0
theorem V5 {n:Nat} {t:FT} {s:Nat} (b:FT.At (bf n) t s):t.wf/\t.hi<=n:=by
 have a:=lJ b;have⟨w1,w2,w3⟩:=bR 0 n a;have c:=FT.at_mem (gm a▸b);have:=FT.tX (dU 0 n) 0 w1 _ c;exact⟨FT.q8 _ 0 w1 _ c,by simp only at this;omega⟩
theorem NV (a:Option Addr) (c:Nat) (l:List Pt) (w:World) (bm:bV bX 3 w a l) (eg:l.length<=20000) (dm:Jw l) (hu:lF l=true):
  aK 38 #[.slice a l.length c] w (Mi w (fC l)):=by
 have a5:=KU a c l w bm aa dm;rw[hu]at a5;have es:=af bm;obtain⟨n,bn⟩:∃n,n=l.length:=⟨_,rfl⟩;have cx:=af (fun W (ec:Below w.heap.size w W)=>pV a l n c W bn.symm (bm.below ec) aa);have cJ:=af bn;rw[<-bn]at eg a5 |-;have cy:=af (fun W=>zy n aa W);clear bn bm;have d1:decide ((n:Int)>2147483648)=false:=aH;have d2:decide ((2147483648:Int)<(n:Int))=false:=aH;have d3:decide (2147483648<n)=false:=aH;have c9:(ids l).Nodup:=by unfold lF at hu;simpa using hu
 have bE:=af c9;clear c9 hu dm;go_enter func38,ntmps38
 go_wp2_with (go_at_call 102;refine a5.mono ?_;rintro e w1 ⟨rfl,bj⟩;clear a5)
 go_wp2_with fail
 refine(cy.o w1).mono ?_;rintro e w2 ⟨rfl,ba⟩;have aL:Hid (Below w.heap.size w w2):=by rw[ba];exact bj.alloc bj.size _
 have bC:Hid (w2.heap[w1.heap.size]? =some (lX 0 0 (aM) n)):=by rw[ba];exact bY w1 _
 obtain⟨fb,b3⟩:∃fb,fb=w1.heap.size:=⟨_,rfl⟩;have bl:w.heap.size<=fb/\fb<w2.heap.size:=by rw[ba,b3];exact⟨bj.size,ax⟩
 rw[<-b3]at bC |-;clear ba bj b3 cy
 go_wp2_with fail
 refine(cx.o w2 aL.o).mono ?_;rintro e w3 ⟨eU,rfl,b9,bR⟩;have b2:=(bR.block fb bl.2).trans bC.o;have bw:Hid (Below w.heap.size w w3):=aL.o.trans (bR.mono aL.o.size);have cK:=af (bM b9 aL.o.size);have cB:=af (ig fb n aa w3 b2);have cF:=af b2;obtain⟨x,u,rfl⟩:=fK b9;clear b9 bR b2 cx bC aL
 go_wp2_with fail
 refine cB.o.mono ?_;rintro e w4 ⟨G,en,rfl,jG,b7,c4,J⟩;have ca:=bw.o.size;have cO:Hid (w4.ownsRow w.heap.size 29 3 (.slice x n u) n (l.flatMap bX)):=Kk cK.o ai cF.o J;have bD:Hid (om w4 w.heap.size fb n G):=⟨c4,bM jG ca⟩;have cI:Hid (w4.ownsRow w.heap.size 163 7 en (bf n).length ((bf n).flatMap pR)):=bM b7 ca;have P:Hid (Below w.heap.size w w4):=bw.o.trans (J.toBelow ca (fun k h=>by have:=bl.1;omega));obtain⟨A,nc,rfl⟩:=fK b7;obtain⟨M,bh⟩:∃M,M=(bf n).length:=⟨_,rfl⟩;have a8:=af bh;have ey:M<=40000:=by rw[bh,dB];omega
 rw[<-bh];clear jG b7 c4 J cB bh cK cF bw
 go_upto_region 9 with fail
 obtain⟨wc,be⟩:∃wc,wc=w4.alloc (.cells #[.slice x n u,aM,aj fb,.slice A M nc,aM,ae n] 161):=⟨_,rfl⟩;have bS:Below w4.heap.size w4 wc:=by rw[be];exact(aJ _ _).alloc (aA _) _
 obtain⟨tb,bp⟩:∃tb,tb=w4.heap.size:=⟨_,rfl⟩;have cW:wc.heap[tb]? =some (NQ (.slice x n u) (aM) fb (.slice A M nc) (aM) n):=by rw[be,bp];exact bY w4 _
 rw[<-be,<-bp];have aQ:Hid (U0 wc w.heap.size fb n (.slice x n u) (.slice A M nc) G l):=by
  have K:aB (fun _=>False) w4 wc:=(aB.refl _ w4).below bS;exact⟨aU cO.o K (fun _ _ h=>h),by rw[<-a8.o];have:=aU cI.o K (fun _ _ h=>h);rwa [<-a8.o]at this,⟨bu K bD.o.blk (fun h=>h),aU bD.o.row K (fun _ _ h=>h)⟩,bl.1⟩
 have aS:=af cW;have bv:Hid (Below w.heap.size w wc):=P.o.trans (bS.mono P.o.size);have eh:w.heap.size<=tb:=by rw[bp];exact P.o.size
 clear be bS cW cO bD cI P bp;have dk:=(bg.1 aS.o).1;have cC:=af (zD cJ.o.symm aa aQ.o.row bE.o);have cX:=aS.o;have bL:wc.cell? (ag tb 0)=some (.slice x n u):=aI cX;clear cX
 go_wp2_with fail
 refine cC.o.mono ?_;rintro e w4 ⟨rfl,dd,J⟩;have cU:U0 w4 w.heap.size fb n (.slice x n u) (.slice A M nc) G (fC l):=by
  have h:=aQ.o;refine⟨dd,p8 h.jD J fun k aw y=>?_,⟨bu J h.iU.blk fun y=>?_,p8 h.iU.row J fun k aw y=>?_⟩,h.Rv⟩
  .obtain⟨cs,fr,e⟩:=Dp h.row y;exact⟨cs,_,fr,e,ai⟩
  .exact bz h.row h.iU.blk ai fb y rfl
  .obtain⟨cs,fr,e⟩:=Dp h.row y;exact⟨cs,_,fr,e,ai⟩
 have aV:Hid (w4.heap[tb]? =some (NQ (.slice x n u) (aM) fb (.slice A M nc) (aM) n)):=bu J aS.o (fun h=>bz aQ.o.row aS.o ai tb h rfl);have P:Hid (Below w.heap.size w w4):=bv.o.trans (J.toBelow bv.o.size (fun k h=>(aQ.o.row.lt k h).1));have bG:=af cU;have X:(fC l).length=n:=by rw[(dV l).length_eq];exact cJ.o.symm
 have cV:(ids (fC l)).Nodup:=((dV l).map _).nodup_iff.2 bE.o;have cN:Hid ((fC l).Pairwise kY/\(ids (fC l)).Nodup):=⟨gz bE.o,cV⟩;clear dd J cU aQ aS bv cC cV bL dk;generalize d8:fC l=R at*;clear d8;have dk:=(bg.1 aV.o).1;have dl:=aV.o;have bL:w4.cell? (ag tb 0)=some (.slice x n u):=aI dl;clear dl
 go_wp2_with fail
 go_loopg [44] n (fun em ep wr=>∃(i:Nat) (cv:Value),ep=.int .i64 i/\i<=n/\n-i<=em/\Hid (wr.heap[tb]? =some (NQ (.slice x n u) cv fb (.slice A M nc) (aM) n))/\Hid (wr.ownsRow w4.heap.size 2 1 cv i (((cz R).take i).map (Value.int .i64)))/\Hid (aB (fun k=>k=tb) w4 wr))
 case atStart=>exact⟨0,_,rfl,aT _,aa,aV,cZ _ _ _ _,aB.refl _ _⟩
 case round=>
  obtain⟨i,cv,rfl,hi,eK,ab,ar,Y⟩:=hrel;by_cases eH:i<n
  .have dh:=aU bG.o.row Y.o (fun g h y=>bz bG.o.row aV.o ai g h y.symm);obtain⟨_,_,dZ,-,-,de⟩:=bV.aD bq ai dh;injection dZ with dT dU dW;subst dT;clear dU dW;obtain⟨b,off,dY,ez,ap⟩:=de.get aa;have cu:=ap i aa 0 aa;have x1:=ap i aa 1 aa;have x2:=ap i aa 2 aa;simp only[bX,eG,eQ,df]at cu x1 x2;have dp:(cz R).take (i+1)=(cz R).take i++[R[i].1]:=by
    have h:i<(cz R).length:=by unfold cz;simp;omega
    rw[gT h];simp[cz]
   have cR:=af dp;subst dY;clear ap de dp dh;generalize R[i]=p at*;obtain⟨a4,dx,dw⟩:=p;simp only at cR cu x1 x2;have ce:=ab.o;have br:=(bg.1 ce).1;obtain⟨E,F,rfl⟩:=fK ar.o
   go_upto_region 13 with fail
   obtain⟨w6,bb⟩:∃w6,w6=wr.alloc (.cells #[ae a4,ae dx,ak dw] 29):=⟨_,rfl⟩;have a1:Below wr.heap.size wr w6:=by rw[bb];exact(aJ _ _).alloc (aA _) _
   have dn:w6.heap[wr.heap.size]? =some (.cells #[ae a4,ae dx,ak dw] 29 (0,0)):=by rw[bb];exact bY wr _
   have cc:=(a1.block tb br).trans ce;have eM:=Y.o.size;have eN:=a1.size;have cf:∀g,(Value.slice E i F).ownBlock=some g->w4.heap.size<=g/\g<wr.heap.size:=fun g h=>ar.o.lt g h;have d6:=ah (w:=w6) (ad:=(ag tb 1)) (v:=.slice E i F) (aI cc);have d7:=ah (w:=w6) (ad:=(ag wr.heap.size 0)) (v:=.int .i64 a4) (aI dn);have cQ:=af (az ar.o a1);have cG:Hid (aB (fun k=>k=tb) w4 w6):=Y.o.below a1;have cP:=af cc;rw[<-bb];clear bb a1 dn cc ce cu x1 x2;refine au (fun W=>∃p:aR w6,W=p.W) [8,9,10,11] [(0,false),(1,false),(2,false),(3,false),(4,true),(5,false),(6,true)] ⟨⟨_,(aJ _ _).drew⟩,rfl⟩ 5 ?_;refine ay 7 rfl fun K U=>?_;go_simp;refine U _ _ (fun _ _=>⟨⟨_,((aJ _ w6).alloc (aA _) _).drew⟩,rfl⟩) ?_;clear U K;refine ay 8 rfl fun K U=>?_;refine bF AZ w4.heap.size (w:=(w6.alloc (.cells #[ae a4] 2)).drew) (az cQ.o ((aJ _ w6).alloc (aA _) _|>.drew)) [.int .i64 a4] rfl (by simp[Value.oneCell']) rfl (.tmp 52) (.tmp 55) rfl rfl w6.heap.size rfl (lU _ _) dE aa aH ?_;intro am al f b8 c6 eA eL;have c5:w6.grownBy f (Value.slice E i F).ownBlock:=dX (bT ((aJ _ w6).alloc (aA _) _|>.drew)) c6;have bI:aB (fun k=>(Value.slice E i F).ownBlock=some k) w6 f:=(aB.refl _ w6).grown c5 (fun k aE=>.inl aE);refine U _ _ (fun _ h=>absurd ax h) ?_;clear U K;refine aF [9,10,11] ?_;have bo:=bu bI cP.o (fun h=>by have:=(cf tb h).1;omega);have eT:f.cell? (ag tb 1)=some (.slice E i F):=aI bo;have f8:f.frozen? (ag tb 1)=false:=aI bo;have dK:Hid ((f.setCell (ag tb 1) (aC am (i+1) al)).heap[tb]? =some (NQ (.slice (some (ag b off)) n u) (aC am (i+1) al) fb (.slice A M nc) (aM) n)):=dC f tb 1 _ _ _ bo;have cS:aB (fun k=>k=tb) f (f.setCell (ag tb 1) (aC am (i+1) al)):=(aB.refl (fun k=>k=tb) f).set (a:=(ag tb 1)) (aC am (i+1) al) (.inl rfl);have dM:Hid ((f.setCell (ag tb 1) (aC am (i+1) al)).ownsRow w4.heap.size 2 1 (aC am (i+1) al) (i+1) (((cz R).take (i+1)).map (Value.int .i64))):=by
    have z:=aU (S:=fun k=>k=tb) b8 cS (fun g h y=>by have:=(b8.lt g h).1;omega);show World.ownsRow _ _ _ _ _ _ _;rw[cR.o,bJ];exact z
   have dJ:Hid (aB (fun k=>k=tb) w4 (f.setCell (ag tb 1) (aC am (i+1) al))):=((cG.o.mono (S':=fun k=>k=tb\/w4.heap.size<=k) (fun k h=>.inl h)).trans (bI.mono (fun k h=>.inr (cf k h).1))).strip.set (a:=(ag tb 1)) _ (.inl rfl);clear bI c5 c6 b8 bo d6 d7 cQ cP cG cf ar ab Y cS;go_wp2
   go_roundg (n-(i+1))
   case measure=>omega
   case rel=>exact⟨i+1,_,by go_num,aa,aA _,dK,dM,dJ⟩
  .obtain rfl:i=n:=aa;have cL:Hid (U0 wr w.heap.size fb i (.slice x i u) (.slice A M nc) G R):=bG.o.kept Y.o (fun k aw y=>by subst y;exact⟨_,_,_,aV.o,ai,ai,ai⟩);have bx:Hid (Below w.heap.size w wr):=P.o.trans (Y.o.toBelow P.o.size (fun k h=>aa));have bi:=ar.o;rw[jc (by unfold cz;simp;omega)]at bi;have bH:=af (bM bi P.o.size);have a3:=ab.o;have dR:wr.cell? (ag tb 3)=some (.slice A M nc):=aI a3;have ac:wr.cell? (ag tb 4)=some (aM):=aI a3;have f4:wr.frozen? (ag tb 4)=false:=aI a3;have br:=(bg.1 a3).1;obtain⟨E,F,rfl⟩:=fK bi;have ef:=Mf M aa;clear bi a3 ar Y bL
   go_upto_region 16 with fail
   obtain⟨m,c7⟩:∃m,m=wr.heap.size:=⟨_,rfl⟩;obtain⟨B,a0⟩:∃B,B=(wr.setCell (ag tb 4) (aC wr.heap.size M M)).alloc (Obj.cells (madeCells #[ae 0] M) 3):=⟨_,rfl⟩;have a9:aB (fun k=>k=tb) wr B:=by rw[a0];exact((aB.refl (fun k=>k=tb) wr).set (a:=(ag tb 4)) _ (.inl rfl)).alloc _
   have cb:(wr.setCell (ag tb 4) (aC wr.heap.size M M)).heap.size=wr.heap.size:=ax;have b5:B.heap[wr.heap.size]? =some (.cells (List.replicate M (ae 0)).toArray 3 (0,0)):=by
    have z:=Dn (wr.setCell (ag tb 4) (aC wr.heap.size M M)) M;rw[cb]at z;rw[a0];exact z
   have eO:wr.heap.size<B.heap.size:=(bg.1 b5).1;have cd:B.heap[tb]? =some (NQ (.slice x i u) (.slice E i F) fb (.slice A M nc) (aC wr.heap.size M M) i):=by
    rw[a0];exact(bU _ _ tb (by rw[cb];exact br)).trans (dC wr tb 4 _ _ _ ab.o)
   have V:U0 B w.heap.size fb i (.slice x i u) (.slice A M nc) G R:=cL.o.kept a9 (fun k aw y=>by subst y;exact⟨_,_,_,ab.o,ai,ai,ai⟩);have bP:=aU bH.o a9 (fun g h y=>bz bH.o ab.o ai g h y.symm);have dj:=bx.o.size;have bO:=EM (w:=B) (base:=w.heap.size) (n:=M) (xs:=List.replicate M (ae 0)) b5 dj ax dE;have cH:Hid (dS B w.heap.size B.heap.size tb fb R (fun _=>some 0) i ⟨.slice x i u,.slice E i F,.slice A M nc,aC wr.heap.size M M,G⟩):=by
    refine⟨cd,⟨eh,aa,bl.1,(bg.1 V.iU.blk).1,aA _⟩,by rw[X];exact V.row,by rw[X];exact bP,by rw[X];exact V.iU,by rw[X];exact V.jD,?_,?_⟩
    .rw[X,<-a8.o,QA];exact bO
    .rintro v (rfl|rfl|rfl|rfl|rfl) g e
     .exact(V.row.lt g e).2
     .exact(bP.lt g e).2
     .exact(V.jD.lt g e).2
     .exact(bO.lt g e).2
     .exact(V.iU.row.lt g e).2
   have dH:Hid (Below w.heap.size w B):=bx.o.trans (a9.toBelow dj (fun k h=>aa));have aW:=af (ru cN.o.1 cN.o.2);rw[<-a0];have et:B.cell? (ag tb 3)=some (.slice A M nc):=aI cd;have I:Hid (M=(bf R.length).length):=by show _=_;rw[X];exact a8.o
   have d9:R.length<=20000:=aa;have dN:Hid (∀a,a<R.length->a∈ed R):=fun a eb=>(aW.o.live a).2 (by rw[sI,aO eb]);rw[<-c7]at cH;clear a0 c7 a9 cb b5 cd V bP bO cL bH ab bx dR ac f4 ef br;generalize cY:ed R=YS at*;have dO:=af cY;have cM:=af X;clear cY X;go_wp2
   go_loopw [74] (fun cg wr=>∃j:Nat,cg=.int .i64 j/\j<=M/\Hid (dS wr w.heap.size B.heap.size tb fb R (yo (bf R.length) YS j) i ⟨.slice x i u,.slice E i F,.slice A M nc,aC m M M,G⟩)/\Hid (Below w.heap.size w wr)) (fun cg _=>M-(intOf cg).toNat)
   case atStart=>exact⟨0,rfl,aT _,cH,dH⟩
   case round=>
    obtain⟨j,rfl,eI,N,a7⟩:=hrel;by_cases a2:j<M
    .have eJ:(j:Int)<(M:Int):=aa;obtain⟨t,s,bQ,b1⟩:=uM (show j<(bf R.length).length by rw[<-I.o];exact a2);obtain⟨bN,cq,cn,env,dy⟩:=N.o.nodes (by have:=dB R.length;rw[<-I.o]at this;omega);simp only at env;injection env with env aX aZ;clear aX aZ;obtain⟨ew,eu,Q,eC,eD,eE,-,c8,ap,-⟩:=N.o.holds (by have:=dB R.length;rw[<-I.o]at this;omega);simp only at Q;injection Q with Q aX aZ;injection Q with Q;injection Q with Q d0 d4;subst Q;clear aX aZ;obtain⟨-,n0,cj,ck,cl,cm,dq,co⟩:=nJ dy bQ.get;have b0:=N.o.blk;simp only at b0;have ac:wr.cell? (ag tb 4)=some (aC m M M):=aI b0;obtain⟨dz,dD⟩:=ap j (by rw[<-I.o];exact a2);have ea:=N.o.GV;rw[b1]at n0 cj ck cl cm dq co;subst env;obtain⟨d,hd⟩:∃d,d=t.top s:=⟨_,rfl⟩;rw[<-hd]at n0 cj ck cl cm co;obtain⟨f,bc⟩:∃f,f=wr.alloc (.cells #[.int .u8 d.kind,ae d.l,ae d.r,ae d.fr,ae d.Lu,ae 0,ae d.item] 163):=⟨_,rfl⟩;have an:Below wr.heap.size wr f:=by rw[bc];exact(aJ _ _).alloc (aA _) _
     have O:f.heap[wr.heap.size]? =some (.cells #[.int .u8 d.kind,ae d.l,ae d.r,ae d.fr,ae d.Lu,ae 0,ae d.item] 163 (0,0)):=by rw[bc];exact bY wr _
     have a6:=af an;have dL:=af O;have cD:=af bc;have aG:=af bQ;have bB:=af b1;have aP:=af hd;clear bc an O b0 ap dy bQ b1 hd
     go_upto_region 19 with fail
     rw[<-cD.o];clear cD n0 cj ck cl cm dq co;have O:=dL.o;have an:=a6.o;have cp:wr.heap.size<f.heap.size:=(bg.1 O).1;have ds:f.cell? (ag wr.heap.size 0)=some (.int .u8 d.kind):=aI O;have dt:f.cell? (ag wr.heap.size 1)=some (ae d.l):=aI O;have du:f.cell? (ag wr.heap.size 2)=some (ae d.r):=aI O;have dv:f.cell? (ag wr.heap.size 3)=some (ae d.fr):=aI O;have cT:=(an.cell (p:=(ag tb 4)) ea).trans ac;have dA:=(an.cell (p:=(ag m j)) c8).trans dz;have dF:f.frozen? (ag m j)=false:=by
      have z:=dD;simp only[World.frozen?]at z |-;rw[an.block m c8];exact z
     have ch:=ah dv;have ci:=ah cT;clear O an ac dz dD;have b6:m≠wr.heap.size:=aa;have eB:m<f.heap.size:=aa;refine au (fun W=>∃p:aR f,W=p.W) [7,8] [(0,false),(1,false),(2,false),(3,true),(4,false),(5,false),(6,true)] ⟨⟨_,(aJ _ _).drew⟩,rfl⟩ 2 ?_;refine aF [7,8] ?_;have eq:f.drew.cell? (ag m j)=_:=dA;have er:f.drew.frozen? (ag m j)=false:=dF;obtain⟨H,bd⟩:∃H,H=(f.setCell (ag m j) (.int .i64 d.fr)).drew:=⟨_,rfl⟩;have av:aB (fun k=>k=m) f H:=by rw[bd];exact((aB.refl (fun k=>k=m) f).set (a:=(ag m j)) _ (.inl rfl)).drew
     obtain⟨ei,eF⟩:=V5 aG.o;obtain⟨f0,c3,ee⟩:∃f0:Nat,d.fr=(f0:Int)/\f0=t.lo:=by rw[aP.o];cases t<;>exact⟨_,rfl,rfl⟩
     have Z:Hid (dS H w.heap.size B.heap.size tb fb R (gU (yo (bf R.length) YS j) j (some f0)) i ⟨.slice x i u,.slice E i F,.slice (some (ag bN cq)) M nc,aC m M M,G⟩):=by
      rw[bd,c3];exact((N.o.below a6.o N.o.fM.2.2.2.2).ou rfl (by rw[<-I.o];exact a2) (some f0)).below (aJ _ _).drew (by have:=N.o.fM.2.2.2.2;have:=a6.o.size;simp;omega)
     have L:Hid (Below w.heap.size w H):=(a7.o.trans (a6.o.mono a7.o.size)).trans (av.toBelow (by have:=a7.o.size;omega) (fun k h=>aa));have eo:=((di av cp (fun h=>b6 h.symm)).1 0).trans ds;have cr:=((di av cp (fun h=>b6 h.symm)).1 1).trans dt;have ct:=((di av cp (fun h=>b6 h.symm)).1 2).trans du;have eP:=av.size;have cE:=af bd;clear bd ch ci av ds dt du dv c3
     go_upto_region 20 with fail
     rw[<-cE.o];clear cE eq er dA dF cT;cases t with
     |leaf bK=>
      have aE:(d.kind==(2:Int))=false:=by rw[aP.o];rfl
      have aq:Hid (dS H w.heap.size B.heap.size tb fb R (yo (bf R.length) YS (j+1)) i ⟨.slice x i u,.slice E i F,.slice (some (ag bN cq)) M nc,aC m M M,G⟩):=by
       refine Z.o.congr fun k aE=>?_;unfold yo;by_cases e:k=j
       .subst e;have aw:=Dg aW.o aG.o;rw[aO (dN.o bK (by have:(FT.leaf bK).hi=bK+1:=rfl;omega))]at aw;have y:s=k:=by have:=bB.o;unfold FT.root at this;simpa[FT.size]using this
        rw[gG,aO aa,<-y,aw,ee];rfl
       .rw[iL e];by_cases z:k<j
        .rw[aO z,aO aa]
        .rw[aN z,aN aa]
      go_wp2;go_roundw
      case rel=>first|exact⟨j+1,by go_num,aa,aq,L⟩|(refine⟨_,?_,rfl⟩;exact⟨j+1,by go_num,aa,aq,L⟩)|(refine⟨_,_,?_,rfl,rfl⟩;exact⟨j+1,by go_num,aa,aq,L⟩)|(refine⟨_,_,_,?_,rfl,rfl,rfl⟩;exact⟨j+1,by go_num,aa,aq,L⟩)|(refine⟨_,_,_,_,?_,rfl,rfl,rfl,rfl⟩;exact⟨j+1,by go_num,aa,aq,L⟩)|(refine⟨_,_,_,_,_,?_,rfl,rfl,rfl,rfl,rfl⟩;exact⟨j+1,by go_num,aa,aq,L⟩)
      case measure=>exact bZ
     |node q D=>
      have aE:(d.kind==(2:Int))=true:=by rw[aP.o];rfl
      have db:=aG.o.left.lt;have dg:=aG.o.right.lt;have dc:q.root s<j/\D.root (s+q.size)<j:=by
       rw[<-bB.o];have:=q.size_pos;have:=D.size_pos;have eR:(FT.node q D).size=q.size+D.size+1:=rfl;unfold FT.root;omega
      have c1:d.l=((q.root s:Nat):Int):=by rw[aP.o];show((s+q.size:Nat):Int)-1=_;unfold FT.root;have:=q.size_pos;omega
      have c2:d.r=((D.root (s+q.size):Nat):Int):=by rw[aP.o];show((s+q.size+D.size:Nat):Int)-1=_;unfold FT.root;have:=D.size_pos;omega
      rw[c1]at cr;rw[c2]at ct;obtain⟨ex,ev,T,-,-,-,-,da,bk,-⟩:=Z.o.holds (by have:=dB R.length;rw[<-I.o]at this;omega);simp only at T;injection T with T aX aZ;injection T with T;injection T with T d0 d4;subst T;clear aX aZ;obtain⟨y1,-⟩:=bk _ db;obtain⟨y2,-⟩:=bk _ dg;obtain⟨cw,dG⟩:=bk j (by rw[<-I.o];exact a2);rw[show gU (yo (bf R.length) YS j) j (some f0) (q.root s)=lK (bf R.length) YS (q.root s) by rw[iL aa];exact aO dc.1]at y1;rw[show gU (yo (bf R.length) YS j) j (some f0) (D.root (s+q.size))=lK (bf R.length) YS (D.root (s+q.size)) by rw[iL aa];exact aO dc.2]at y2;rw[gG]at cw;have bW:=Z.o.blk;simp only at bW;have ac:H.cell? (ag tb 4)=some (aC m M M):=aI bW;have cA:=af (zV (Z.o.SQ.below (aJ _ _).drew) d9 (lK (bf R.length) YS (q.root s)) (lK (bf R.length) YS (D.root (s+q.size))) (fun i h=>Df aW.o h) (fun i h=>Df aW.o h));have dI:Hid (lK (bf R.length) YS j=lowO R (lK (bf R.length) YS (q.root s)) (lK (bf R.length) YS (D.root (s+q.size)))):=by
       show _=_;rw[<-IE aW.o aG.o ei,bB.o]
      rw[<-I.o]at db dg;have eS:=Z.o.GV;clear bW bk c1 c2;generalize lowO R (lK (bf R.length) YS (q.root s)) (lK (bf R.length) YS (D.root (s+q.size)))=dr at*;generalize lK (bf R.length) YS (q.root s)=dP at*;generalize lK (bf R.length) YS (D.root (s+q.size))=dQ at*;generalize q.root s=kl at*;generalize D.root (s+q.size)=kr at*;have ej:=ah cr;have ek:=ah ct;have ch:=ah ac;have ci:=ah y1;have el:=ah y2
      go_upto_region 21 with fail
      refine au (fun W=>∃p:aR H,W=p.W) [23,24] [(0,false),(1,false),(2,false),(3,true),(4,false),(5,false),(6,false),(7,false),(8,false),(9,true),(10,false),(11,true),(12,false),(13,true),(14,false),(15,false),(16,false),(17,true),(18,false),(19,true),(20,false),(21,true)] ⟨⟨_,(aJ _ _).drew⟩,rfl⟩ 3 ?_;refine ay 22 rfl fun K U=>?_;refine aY Dr rfl _ _ rfl (vals:=#[aj tb,ae (oW dP),ae (oW dQ)]) rfl cA.o ?_;rintro e bs ⟨rfl,c0⟩;have ao:Below H.heap.size H bs:=((aJ H.heap.size H).drew).trans c0;refine⟨_,rfl,U _ _ (fun _ _=>⟨⟨_,ao⟩,rfl⟩) ?_⟩;clear U K;refine aF [23,24] ?_;have eV:=(ao.cell (p:=(ag m j)) da).trans cw;have eW:bs.frozen? (ag m j)=false:=by
       have z:=dG;simp only[World.frozen?]at z |-;rw[ao.block m da];exact z
      have C:Hid (∀bt,bt=bs.setCell (ag m j) (.int .i64 (oW dr))->Hid (dS bt w.heap.size B.heap.size tb fb R (yo (bf R.length) YS (j+1)) i ⟨.slice x i u,.slice E i F,.slice (some (ag bN cq)) M nc,aC m M M,G⟩)/\Hid (Below w.heap.size w bt)):=fun bt d5=>by
       subst d5;refine⟨((Z.o.below ao Z.o.fM.2.2.2.2).ou rfl (by rw[<-I.o];exact a2) dr).congr fun k _=>?_,?_⟩
       .unfold yo;by_cases e:k=j
        .subst e;rw[gG,aO aa,dI.o]
        .rw[iL e,iL e];by_cases z:k<j
         .rw[aO z,aO aa]
         .rw[aN z,aN aa]
       .exact(L.o.trans (ao.mono L.o.size)).trans (((aB.refl (fun k=>k=m) bs).set (a:=(ag m j)) _ (.inl rfl)).toBelow (bA L.o.size ao.size) (fun k h=>aa))
      clear ao c0 cw dG y1 y2 ac eo cr ct ej ek ch ci el cA;go_wp2;go_roundw
      case rel=>first|exact⟨j+1,by go_num,aa,(C.o _ rfl).1,(C.o _ rfl).2⟩|(refine⟨_,?_,rfl⟩;exact⟨j+1,by go_num,aa,(C.o _ rfl).1,(C.o _ rfl).2⟩)|(refine⟨_,_,?_,rfl,rfl⟩;exact⟨j+1,by go_num,aa,(C.o _ rfl).1,(C.o _ rfl).2⟩)|(refine⟨_,_,_,?_,rfl,rfl,rfl⟩;exact⟨j+1,by go_num,aa,(C.o _ rfl).1,(C.o _ rfl).2⟩)|(refine⟨_,_,_,_,?_,rfl,rfl,rfl,rfl⟩;exact⟨j+1,by go_num,aa,(C.o _ rfl).1,(C.o _ rfl).2⟩)|(refine⟨_,_,_,_,_,?_,rfl,rfl,rfl,rfl,rfl⟩;exact⟨j+1,by go_num,aa,(C.o _ rfl).1,(C.o _ rfl).2⟩)
      case measure=>exact bZ
    .obtain rfl:j=M:=aa;have b4:dS wr w.heap.size wr.heap.size tb fb R (lK (bf R.length) YS) i ⟨.slice x i u,.slice E i F,.slice A j nc,aC m j j,G⟩:=
      (N.o.congr fun k aE=>by unfold yo;rw[aO (by rw[I.o];exact aE)]).grow N.o.fM.2.2.2.2 (aA _)
     have C:Hid (Mi w R (.returned (.tuple #[aj tb,ae 0])) wr):=by
      refine⟨tb,fb,⟨.slice x i u,.slice E i F,.slice A j nc,aC m j j,G⟩,rfl,?_,a7.o⟩;rw[dO.o,cM.o];rw[cM.o]at b4;exact b4
     clear b4;go_wp2;go_ret2;exact C.o
end
section
open Go.RowKit Go.Sort Go.Shelf Go.Lib Go.Maps
def vF (w:World) (lo hi tb n0:Nat) (l:List Pt):Prop:=
 ∃fb R gone YS V,dS w lo hi tb fb R (lK (bf R.length) YS) l.length V/\dm R gone YS/\tY R YS l/\R.length=n0/\n0<=20000
def vG (n:Nat):Nat:=6*Lib.bitLen n+1
theorem NW {R:List Pt} (h:R.length<=100000) (x1 x2:Int):(oZ R x1 x2).2<=vG R.length:=by
 unfold oZ vG;by_cases b:R.length=0\/x2<x1
 .rw[aO b];exact aT _
 .rw[aN b];have e:0<R.length:=aa;have f:(cz R).length=R.length:=by simp[cz]
  have c:=lH (cz R) x1 aa;have d:=lI (cz R) x2 aa;rw[f]at c d;by_cases a:jG R x1<mH R x2
  .rw[aO a];have⟨w1,w2,w3⟩:=bR 0 R.length e;have i:=(bD R.length aa aa).2.2;have j:=wE 0 R.length (Lib.bitLen R.length) aa;have g:=FT.Cj (dU 0 R.length) w1 0 (jG R x1) (mH R x2);simp only;omega
  .rw[aN a];simp only;omega
section
variable {w w':World} {lo hi tb n0:Nat} {l:List Pt}
theorem vF.kept {S:Nat->Prop} (h:vF w lo hi tb n0 l) (K:aB S w w') (hS:∀k,lo<=k->k<hi->¬S k):vF w' lo hi tb n0 l:=by
 have⟨fb,R,gone,YS,V,a,b⟩:=h;exact⟨fb,R,gone,YS,V,a.kept K hS,b⟩
theorem vF.Gt (h:vF w lo hi tb n0 l):l.length<=n0/\n0<=20000:=by
 have⟨fb,R,gone,YS,V,c,a,b,d,e⟩:=h;have:=a.R4;have:=b.len a;omega
theorem NY {R:List Pt} {gone:List Bool} {YS:List Nat} (a:dm R gone YS) (c:tY R YS l) (x1 x2:Int):(uo R (bf R.length) YS (oZ R x1 x2).1).map (cu R)=(uU l x1 x2).head?:=by
 have d:∀h:(uU l x1 x2)=[],(uo R (bf R.length) YS []).map (cu R)=(uU l x1 x2).head?:=fun h=>by rw[h];rfl
 unfold oZ;by_cases h0:R.length=0\/x2<x1
 .rw[aO h0];refine d ?_;rcases h0 with h0|h0
  .have b:=a.R4;have f:=c.len a;have g:=SF l x1 x2;exact iC aa
  .exact Qi l h0
 .rw[aN h0];have e:=SG a c x1 x2;by_cases b:jG R x1<mH R x2
  .rw[aO b];simp only;rw[KG a aa,<-e,List.head?_map]
  .rw[aN b];refine d ?_;rw[<-e];have:UU YS (jG R x1) (mH R x2)=[]:=yL.2 fun i _=>aH;rw[this];rfl
theorem U1 (a:Option Addr) (c:Nat) (l:List Pt) (w:World) (k:bV bX 3 w a l) (m:l.length<=20000) (o:Jw l) (hu:lF l=true):
  aK 38 #[.slice a l.length c] w fun e w'=>∃tb,e=.returned (.tuple #[aj tb,ae 0])/\vF w' w.heap.size w'.heap.size tb l.length l/\Below w.heap.size w w':=
 (NV a c l w k m o hu).mono fun e w' ⟨tb,fb,V,j,d,h⟩=>by
  have b:(ids l).Nodup:=by unfold lF at hu;simpa using hu
  have n:=gz b;have hid:(ids (fC l)).Nodup:=((dV l).map _).nodup_iff.2 b;have g:=ru n hid;have f:(fC l).length=l.length:=(dV l).length_eq;rw[show((fC l).length:Int)=(l.length:Int) by rw[f]]at d;refine⟨tb,j,⟨fb,_,_,_,V,d,g,Am b _ (fun i=>?_),f,aa⟩,h⟩;rw[g.live,sI];split<;>simp_all
theorem SY (h:vF w lo hi tb n0 l) (x1 x2:Int):
  aK 42 #[aj tb,ae x1,ae x2] w fun e w'=>(∃p:Pt,p=(uU l x1 x2).head?.getD (0,0,0)/\∃c:Nat,e=.returned (.tuple #[jb p.1 p.2.1 p.2.2,.bool (uU l x1 x2).head?.isSome,ae c])/\c<=vG n0)/\Below w.heap.size w w':=by
 have⟨fb,R,gone,YS,V,d,a,f,g,k⟩:=h;refine(KS d a aa x1 x2).mono ?_;rintro e w' ⟨⟨p,hp,j⟩,i⟩;have b:=NY a f x1 x2;refine⟨⟨p,by rw[hp,b],(oZ R x1 x2).2,?_,by rw[<-g];exact NW aa x1 x2⟩,i⟩;rw[<-b,Option.isSome_map];exact j
end
end
end Go.Proofs.YtkjdbndekceffaaGreat
