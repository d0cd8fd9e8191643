/- Made small by a program. -/
import Derived.Test.YtkjdbndekceffaaGreatV05
import Derived.Test.YtkjdbndekceffaaGreatV04
set_option linter.unusedSimpArgs false
set_option linter.unusedVariables false
set_option maxRecDepth 100000
set_option maxHeartbeats 16000000
namespace Go.Proofs.YtkjdbndekceffaaGreat
open Tryz
section
open Go.RowKit Go.Maps Go.ChangeShapes Go.WideShapes Go.WideElems
open Go.WideMaps (KeyLaw)
open Go.ChangeMaps (setBlock modify_eq_set)
theorem UA:laidOutB prog=true:=aL
theorem VO:(29:TypeId)<Tryz.prog.types.size:=FD aL
theorem Pp:(match Tryz.prog.underlying 29 with|some (.array _ _)|some (.struct _)=>true|_=>false)=true:=by rw[underlying29]
theorem Ia:KeyLaw prog 29:=deep_law_laid UA (m:=2) aa VO aL Pp
theorem UB:Tryz.prog.keyTypeAt (Tryz.prog.types.size+1) 29=true:=aL
theorem LJ:Tryz.prog.cellsOf 29=3:=aL
def GU (p:Pt):Prop:=(Lit.int .i64 p.1).wf=true/\(Lit.int .i64 p.2.1).wf=true/\(Lit.int .u32 p.2.2).wf=true
def kp (p:Pt):Lit:=(DataW.agg [.lit (.int .i64 p.1),.lit (.int .i64 p.2.1),.lit (.int .u32 p.2.2)]:DataW Unit).asKey
theorem Cy {H:Type} {enc:TypeId×Value->H} {P:Program} {w:World} {base:Nat} {spare:Nat->Bool} {held:Bool} {t:TypeId} {q:IntKind} {n:Int} (ht:P.underlying t=some (.int q)) (a:(Lit.int q n).wf=true):
  ∃m,DataW.trod enc P w base spare held m t [.int q n]=some (.lit (.int q n),[]):=⟨1,by simp[DataW.trod,ht,a]⟩
theorem zA {p:Pt} (h:GU p):keyOf prog 29 (jb p.1 p.2.1 p.2.2)=some (kp p):=by
 have t0:=Go.Joins.shut_agg3 (enc:=fun _=>()) (w:=default) (base:=0) (spare:=fun _=>true) (held:=false) underlying29 aL LJ
  (Cy underlying2 h.1) (Cy underlying2 h.2.1) (Cy underlying27 h.2.2)
 exact(keyOf_asKey UB Pp (by simp[Value.formed,underlying29,LJ]) t0).1
theorem Pq {p q:Pt} (hp:GU p) (b:GU q) (h:kp p=kp q):p=q:=by
 have a:=zA b;rw[<-h]at a;have:=Ia.inj (zA hp) a;obtain⟨d,e,c⟩:=p;obtain⟨g,i,f⟩:=q;simp[jb]at this;obtain⟨rfl,rfl,rfl⟩:=this;rfl
theorem Kc {p:Pt} (h:GU p):WideAt.IsKeyLit (kp p):=(Keyed.of_law Ia).key (zA h)
end
section
open Go.RowKit Go.Maps Go.ChangeShapes Go.WideShapes Go.WideElems
def tV (D:DataW Unit) (A:List fB):Prop:=
 Tidy D/\Maps.size D=A.length/\∀p,GU p->(∀z,D.atKey (kp p) z=((A.find? fun c=>decide (c.1=p)).map fun c=>DataW.lit (.int .i64 c.2)).getD z)/\Maps.has D (kp p)=A.any fun c=>decide (c.1=p)
theorem tV.empty:tV (.map []) []:=⟨tidy_empty,rfl,fun p _=>⟨fun z=>rfl,rfl⟩⟩
theorem tV.put {D:DataW Unit} {A:List fB} (h:tV D A) {p:Pt} (hp:GU p) (j:p∉A.map (·.1)) (k:Int):tV (D.put (kp p) (.lit (.int .i64 k))) (A++[(p,k)]):=by
 have i:(A.any fun c=>decide (c.1=p))=false:=by
  rw[FE];intro c d;simp only[bO];intro e;exact j (dD.2 ⟨c,d,e⟩)
 refine⟨h.1.put (Kc hp) _,?_,fun q a=>?_⟩
 .rw[size_put h.1,(h.2.2 p hp).2,i,h.2.1];simp
 .by_cases e:q=p
  .subst e;refine⟨fun z=>?_,?_⟩
   .rw[atKey_put_same h.1.isMap (Kc a),List.find?_append];have:(A.find? fun c=>decide (c.1=q))=none:=by
     rw[BG];intro c d;have:=FE.1 i c d;exact this
    rw[this];simp
   .rw[has_put_same h.1.isMap (Kc a)];simp
  .have g:kp q≠kp p:=fun b=>e (Pq a hp b);have f:¬p=q:=fun b=>e b.symm;refine⟨fun z=>?_,?_⟩
   .rw[atKey_put_other g,(h.2.2 q a).1 z,List.find?_append];simp[f]
   .rw[has_put_other g,(h.2.2 q a).2];simp[f]
theorem tV.del {D:DataW Unit} {A:List fB} (h:tV D A) {p:Pt} (hp:GU p) (o:(A.map (·.1)).Nodup) (f:p∈A.map (·.1)):tV (D.del (kp p)) (A.filter fun c=>decide (c.1≠p)):=by
 refine⟨h.1.del _,?_,fun q d=>?_⟩
 .have i:=size_del (k:=kp p) h.1;have j:(A.any fun c=>decide (c.1=p))=true:=by
   rw[List.any_eq_true];have⟨c,b,e⟩:=dD.1 f;exact⟨c,b,aQ e⟩
  rw[(h.2.2 p hp).2,j,aO rfl,h.2.1]at i;have r:(A.filter fun c=>decide (c.1≠p)).length+1=A.length:=by
   have:=List.length_eq_countP_add_countP (fun c:fB=>decide (c.1≠p)) (l:=A);rw[<-JA,this];congr 1;have m:A.countP (fun c=>decide ¬decide (c.1≠p)=true)=(A.map (·.1)).count p:=by
    rw[List.count,FN];refine BK fun c _=>?_;simp[Function.comp]
   rw[m,o.count,aO f]
  omega
 .by_cases e:q=p
  .subst e;refine⟨fun z=>?_,?_⟩
   .rw[atKey_del_same];have:((A.filter fun c=>decide (c.1≠q)).find? fun c=>decide (c.1=q))=none:=by
     rw[BG];intro c b;simpa using(bI.1 b).2
    rw[this];rfl
   .rw[has_del_same];symm;rw[FE];intro c b;simpa using(bI.1 b).2
  .have g:kp q≠kp p:=fun n=>e (Pq d hp n);refine⟨fun z=>?_,?_⟩
   .rw[atKey_del_other g,(h.2.2 q d).1 z,List.find?_filter];congr 3;funext c;by_cases a:c.1=q
    .simp[a,e]
    .simp[a]
   .rw[has_del_other g,(h.2.2 q d).2,List.any_filter];congr 1;funext c;by_cases a:c.1=q
    .simp[a,e]
    .simp[a]
end
end Go.Proofs.YtkjdbndekceffaaGreat
