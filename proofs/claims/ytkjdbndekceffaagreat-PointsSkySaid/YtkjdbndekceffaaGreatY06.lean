/- Made small by a program. -/
import Derived.Test.YtkjdbndekceffaaGreatY05
import Derived.Test.YtkjdbndekceffaaGreatY04
set_option linter.unusedSimpArgs false
set_option linter.unusedVariables false
set_option maxRecDepth 100000
set_option maxHeartbeats 16000000
namespace Go.Proofs.YtkjdbndekceffaaGreat
open Tryz
section
open Go.RowKit Go.Maps Go.ChangeShapes Go.WideShapes Go.WideElems
open Go.WideMaps (KeyLaw)
open Go.ChangeMaps (setBlock modify_eq_set)
theorem SI:laidOutB prog=true:=aN
theorem Uq:(29:TypeId)<Tryz.prog.types.size:=of_decide_eq_true aN
theorem N7:(match Tryz.prog.underlying 29 with|some (.array _ _)|some (.struct _)=>true|_=>false)=true:=by rw[underlying29]
theorem Gf:KeyLaw prog 29:=deep_law_laid SI (m:=2) aa Uq aN N7
theorem SK:Tryz.prog.keyTypeAt (Tryz.prog.types.size+1) 29=true:=aN
theorem Kl:Tryz.prog.cellsOf 29=3:=aN
def Be (p:Pt):Prop:=(Lit.int .i64 p.1).wf=true/\(Lit.int .i64 p.2.1).wf=true/\(Lit.int .u32 p.2.2).wf=true
def kp (p:Pt):Lit:=(DataW.agg [.lit (.int .i64 p.1),.lit (.int .i64 p.2.1),.lit (.int .u32 p.2.2)]:DataW Unit).asKey
theorem Bf {H:Type} {enc:TypeId×Value->H} {P:Program} {w:World} {base:Nat} {spare:Nat->Bool} {held:Bool} {t:TypeId} {q:IntKind} {n:Int} (ht:P.underlying t=some (.int q)) (a:(Lit.int q n).wf=true):
  ∃m,DataW.trod enc P w base spare held m t [.int q n]=some (.lit (.int q n),[]):=⟨1,by simp[DataW.trod,ht,a]⟩
theorem yw {p:Pt} (h:Be p):keyOf prog 29 (iV p.1 p.2.1 p.2.2)=some (kp p):=by
 have t0:=Go.Joins.shut_agg3 (enc:=fun _=>()) (w:=default) (base:=0) (spare:=fun _=>true) (held:=false) underlying29 aN Kl
  (Bf underlying2 h.1) (Bf underlying2 h.2.1) (Bf underlying27 h.2.2)
 exact(keyOf_asKey SK N7 (by simp[Value.formed,underlying29,Kl]) t0).1
theorem N8 {p q:Pt} (hp:Be p) (b:Be q) (h:kp p=kp q):p=q:=by
 have a:=yw b;rw[<-h]at a;have:=Gf.inj (yw hp) a;obtain⟨d,e,c⟩:=p;obtain⟨g,i,f⟩:=q;simp[iV]at this;obtain⟨rfl,rfl,rfl⟩:=this;rfl
theorem IX {p:Pt} (h:Be p):WideAt.IsKeyLit (kp p):=(Keyed.of_law Gf).key (yw h)
end
section
open Go.RowKit Go.Maps Go.ChangeShapes Go.WideShapes Go.WideElems
def si (D:DataW Unit) (A:List eP):Prop:=
 Tidy D/\Maps.size D=A.length/\∀p,Be p->(∀z,D.atKey (kp p) z=((A.find? fun c=>decide (c.1=p)).map fun c=>DataW.lit (.int .i64 c.2)).getD z)/\Maps.has D (kp p)=A.any fun c=>decide (c.1=p)
theorem si.empty:si (.map []) []:=⟨tidy_empty,rfl,fun p _=>⟨fun z=>rfl,rfl⟩⟩
theorem si.put {D:DataW Unit} {A:List eP} (h:si D A) {p:Pt} (hp:Be p) (j:p∉A.map (·.1)) (k:Int):si (D.put (kp p) (.lit (.int .i64 k))) (A++[(p,k)]):=by
 have i:(A.any fun c=>decide (c.1=p))=false:=by
  rw[El];intro c d;simp only[bN];intro e;exact j (cu.2 ⟨c,d,e⟩)
 refine⟨h.1.put (IX hp) _,?_,fun q a=>?_⟩
 .rw[size_put h.1,(h.2.2 p hp).2,i,h.2.1];simp
 .by_cases e:q=p
  .subst e;refine⟨fun z=>?_,?_⟩
   .rw[atKey_put_same h.1.isMap (IX a),List.find?_append];have:(A.find? fun c=>decide (c.1=q))=none:=by
     rw[xJ];intro c d;have:=El.1 i c d;exact this
    rw[this];simp
   .rw[has_put_same h.1.isMap (IX a)];simp
  .have g:kp q≠kp p:=fun b=>e (N8 a hp b);have f:¬p=q:=fun b=>e b.symm;refine⟨fun z=>?_,?_⟩
   .rw[atKey_put_other g,(h.2.2 q a).1 z,List.find?_append];simp[f]
   .rw[has_put_other g,(h.2.2 q a).2];simp[f]
theorem si.del {D:DataW Unit} {A:List eP} (h:si D A) {p:Pt} (hp:Be p) (o:(A.map (·.1)).Nodup) (f:p∈A.map (·.1)):si (D.del (kp p)) (A.filter fun c=>decide (c.1≠p)):=by
 refine⟨h.1.del _,?_,fun q d=>?_⟩
 .have i:=size_del (k:=kp p) h.1;have j:(A.any fun c=>decide (c.1=p))=true:=by
   rw[List.any_eq_true];have⟨c,b,e⟩:=cu.1 f;exact⟨c,b,aP e⟩
  rw[(h.2.2 p hp).2,j,aO rfl,h.2.1]at i;have r:(A.filter fun c=>decide (c.1≠p)).length+1=A.length:=by
   have:=List.length_eq_countP_add_countP (fun c:eP=>decide (c.1≠p)) (l:=A);rw[<-H6,this];congr 1;have m:A.countP (fun c=>decide ¬decide (c.1≠p)=true)=(A.map (·.1)).count p:=by
    rw[List.count,Es];refine Al fun c _=>?_;simp[Function.comp]
   rw[m,o.count,aO f]
  omega
 .by_cases e:q=p
  .subst e;refine⟨fun z=>?_,?_⟩
   .rw[atKey_del_same];have:((A.filter fun c=>decide (c.1≠q)).find? fun c=>decide (c.1=q))=none:=by
     rw[xJ];intro c b;simpa using(bD.1 b).2
    rw[this];rfl
   .rw[has_del_same];symm;rw[El];intro c b;simpa using(bD.1 b).2
  .have g:kp q≠kp p:=fun n=>e (N8 d hp n);refine⟨fun z=>?_,?_⟩
   .rw[atKey_del_other g,(h.2.2 q d).1 z,List.find?_filter];congr 3;funext c;by_cases a:c.1=q
    .simp[a,e]
    .simp[a]
   .rw[has_del_other g,(h.2.2 q d).2,List.any_filter];congr 1;funext c;by_cases a:c.1=q
    .simp[a,e]
    .simp[a]
end
end Go.Proofs.YtkjdbndekceffaaGreat
