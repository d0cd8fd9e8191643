/- A part of the proof; its text was made small by a program (no remarks, short names). -/
import Derived.Test.YtkjdbndekceffaaGreatV00
import Derived.Test.YtkjdbndekceffaaGreatV05
import Derived.Test.YtkjdbndekceffaaGreatV04
set_option linter.unusedSimpArgs false
set_option linter.unusedVariables false
set_option maxRecDepth 100000
set_option maxHeartbeats 16000000
namespace Go.Proofs.YtkjdbndekceffaaGreat
open Go.RowKit Go.Maps Go.ChangeShapes Go.WideShapes Go.WideElems
open Go.WideMaps (KeyLaw)
open Go.ChangeMaps (setBlock modify_eq_set)
theorem ag6:laidOutB Tryz.prog=true:=by kernel_rfl
theorem alN:(29:TypeId)<Tryz.prog.types.size:=IU (by kernel_rfl)
theorem XL:(match Tryz.prog.underlying 29 with|some (.array _ _)|some (.struct _)=>true|_=>false)=true:=by rw[wU]
theorem Ml:KeyLaw Tryz.prog 29:=deep_law_laid ag6 (m:=2) (by omega) alN (by kernel_rfl) XL
theorem ag7:Tryz.prog.keyTypeAt (Tryz.prog.types.size+1) 29=true:=by kernel_rfl
theorem Rv:Tryz.prog.cellsOf 29=3:=by kernel_rfl
def KM (p:Pt):Prop:=(Lit.int .i64 p.1).wf=true/\(Lit.int .i64 p.2.1).wf=true/\(Lit.int .u32 p.2.2).wf=true
def kp (p:Pt):Lit:=(DataW.agg [.lit (.int .i64 p.1),.lit (.int .i64 p.2.1),.lit (.int .u32 p.2.2)]:DataW Unit).asKey
theorem EH {H:Type} {enc:TypeId×Value->H} {P:Program} {w:World} {base:Nat} {spare:Nat->Bool} {held:Bool} {t:TypeId} {q:IntKind} {n:Int} (ht:P.underlying t=some (.int q)) (hw:(Lit.int q n).wf=true):
  ∃m,DataW.trod enc P w base spare held m t [.int q n]=some (.lit (.int q n),[]):=⟨1,by simp[DataW.trod,ht,hw]⟩
theorem AY {p:Pt} (h:KM p):keyOf Tryz.prog 29 (ku p.1 p.2.1 p.2.2)=some (kp p):=by
 have t0:=Go.Joins.shut_agg3 (enc:=fun _=>()) (w:=default) (base:=0) (spare:=fun _=>true) (held:=false) wU (by kernel_rfl) Rv
  (EH tN h.1) (EH tN h.2.1) (EH lh h.2.2)
 exact(keyOf_asKey ag7 XL (by simp[Value.formed,wU,Rv]) t0).1
theorem XM {p q:Pt} (hp:KM p) (hq:KM q) (h:kp p=kp q):p=q:=by
 have h2:=AY hq;rw[<-h]at h2;have:=Ml.inj (AY hp) h2;obtain⟨px,py,pi⟩:=p;obtain⟨qx,qy,qi⟩:=q;simp[ku]at this;obtain⟨rfl,rfl,rfl⟩:=this;rfl
theorem Pq {p:Pt} (h:KM p):WideAt.IsKeyLit (kp p):=(Keyed.of_law Ml).key (AY h)
end Go.Proofs.YtkjdbndekceffaaGreat
namespace Go.Proofs.YtkjdbndekceffaaGreat
open Go.RowKit Go.Maps Go.ChangeShapes Go.WideShapes Go.WideElems
def uz (D:DataW Unit) (A:List eX):Prop:=
 Tidy D/\Maps.size D=A.length/\∀p,KM p->(∀z,D.atKey (kp p) z=((A.find? fun c=>decide (c.1=p)).map fun c=>DataW.lit (.int .i64 c.2)).getD z)/\Maps.has D (kp p)=A.any fun c=>decide (c.1=p)
theorem uz.empty:uz (.map []) []:=⟨tidy_empty,rfl,fun p _=>⟨fun z=>rfl,rfl⟩⟩
theorem uz.put {D:DataW Unit} {A:List eX} (h:uz D A) {p:Pt} (hp:KM p) (hn:p∉A.map (·.1)) (k:Int):uz (D.put (kp p) (.lit (.int .i64 k))) (A++[(p,k)]):=by
 have hno:(A.any fun c=>decide (c.1=p))=false:=by
  rw[IV];intro c hc;simp only[bZ];intro e;exact hn (dY.2 ⟨c,hc,e⟩)
 refine⟨h.1.put (Pq hp) _,?_,fun q hq=>?_⟩
 .rw[size_put h.1,(h.2.2 p hp).2,hno,h.2.1];simp
 .by_cases e:q=p
  .subst e;refine⟨fun z=>?_,?_⟩
   .rw[atKey_put_same h.1.isMap (Pq hq),List.find?_append];have:(A.find? fun c=>decide (c.1=q))=none:=by
     rw[List.find?_eq_none];intro c hc;have:=IV.1 hno c hc;exact this
    rw[this];simp
   .rw[has_put_same h.1.isMap (Pq hq)];simp
  .have hne:kp q≠kp p:=fun h9=>e (XM hq hp h9);have e2:¬p=q:=fun h9=>e h9.symm;refine⟨fun z=>?_,?_⟩
   .rw[atKey_put_other hne,(h.2.2 q hq).1 z,List.find?_append];simp[e2]
   .rw[has_put_other hne,(h.2.2 q hq).2];simp[e2]
theorem uz.del {D:DataW Unit} {A:List eX} (h:uz D A) {p:Pt} (hp:KM p) (xI:(A.map (·.1)).Nodup) (iC:p∈A.map (·.1)):uz (D.del (kp p)) (A.filter fun c=>decide (c.1≠p)):=by
 refine⟨h.1.del _,?_,fun q hq=>?_⟩
 .have h1:=size_del (k:=kp p) h.1;have h2:(A.any fun c=>decide (c.1=p))=true:=by
   rw[List.any_eq_true];obtain⟨c,hc,e⟩:=dY.1 iC;exact⟨c,hc,by simpa using e⟩
  rw[(h.2.2 p hp).2,h2,aR rfl,h.2.1]at h1;have h3:(A.filter fun c=>decide (c.1≠p)).length+1=A.length:=by
   have:=List.length_eq_countP_add_countP (fun c:eX=>decide (c.1≠p)) (l:=A);rw[<-Oi,this];congr 1;have h4:A.countP (fun c=>decide ¬decide (c.1≠p)=true)=(A.map (·.1)).count p:=by
    rw[List.count,I7];refine DL fun c _=>?_;simp[Function.comp]
   rw[h4,xI.count,aR iC]
  omega
 .by_cases e:q=p
  .subst e;refine⟨fun z=>?_,?_⟩
   .rw[atKey_del_same];have:((A.filter fun c=>decide (c.1≠q)).find? fun c=>decide (c.1=q))=none:=by
     rw[List.find?_eq_none];intro c hc;simpa using(bQ.1 hc).2
    rw[this];rfl
   .rw[has_del_same];symm;rw[IV];intro c hc;simpa using(bQ.1 hc).2
  .have hne:kp q≠kp p:=fun h9=>e (XM hq hp h9);refine⟨fun z=>?_,?_⟩
   .rw[atKey_del_other hne,(h.2.2 q hq).1 z,List.find?_filter];congr 3;funext c;by_cases e3:c.1=q
    .simp[e3,e]
    .simp[e3]
   .rw[has_del_other hne,(h.2.2 q hq).2,List.any_filter];congr 1;funext c;by_cases e3:c.1=q
    .simp[e3,e]
    .simp[e3]
end Go.Proofs.YtkjdbndekceffaaGreat
