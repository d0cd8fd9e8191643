/- Made small by a program. -/
import Derived.Test.YtkjdbndekceffaaGreatV00
set_option linter.unusedSimpArgs false
set_option linter.unusedVariables false
set_option maxRecDepth 100000
set_option maxHeartbeats 16000000
namespace Go.Proofs.YtkjdbndekceffaaGreat
open Tryz
section
open Go.RowKit
theorem xk {a b:Bool} (h:a=b):Ending.returned (.bool a)=.returned (.bool b):=by rw[h]
def Rd {α:Type} (enc:α->Value) (w:World) (a:Option Addr) (l:List α):Prop:=
 l=[]\/∃b off,a=some (ag b off)/\b<w.heap.size/\∀i (h:i<l.length),w.cell? (ag b (off+i))=some (enc l[i])
theorem Rd.below {α:Type} {enc:α->Value} {w w':World} {a:Option Addr} {l:List α} {B:Nat} (h:Rd enc w a l) (c:Below B w w') (e:w.heap.size<=B:=by first|exact aA _|(simp;done)|(simp;omega)):Rd enc w' a l:=by
 rcases h with h|⟨b,off,rfl,d,f⟩
 .exact .inl h
 .exact .inr ⟨b,off,rfl,cO d c.size,fun i hi=>by rw[c.cell (p:=(ag b (off+i))) (cO d e)];exact f i hi⟩
theorem Rd.get {α:Type} {enc:α->Value} {w:World} {a:Option Addr} {l:List α} (h:Rd enc w a l) (c:0<l.length):
  ∃b off,a=some (ag b off)/\b<w.heap.size/\∀i (h:i<l.length),w.cell? (ag b (off+i))=some (enc l[i]):=by
 rcases h with rfl|h
 .simp at c
 .exact h
theorem Rd.lit {α:Type} {enc:α->Value} (W:World) (e:TypeId) (l:List α) (n:Nat) (a:n=W.heap.size):Rd enc (W.alloc (.cells (l.map enc).toArray e)) (some (ag n 0)) l:=by
 refine .inr ⟨_,0,rfl,aH,fun i hi=>?_⟩;rw[eX _ _ _ _ a];simp[hi]
theorem Rd.aD {α:Type} {enc:α->Value} {w:World} {base:Nat} {e:TypeId} {v:Value} {n:Nat} {l:List α} (h:w.ownsRow base e 1 v n (l.map enc)):
  ∃a c,v=.slice a l.length c/\n=l.length/\l.length<=c/\Rd enc w a l:=by
 have⟨o,h⟩:=h;have p:n=l.length:=aQ o.symm;subst p;rcases h with⟨rfl,k⟩|⟨g,f,j,rfl,q,d,m,r,s,ht⟩
 .have:l=[]:=iC k;subst this;exact⟨none,0,rfl,rfl,aA _,.inl rfl⟩
 .refine⟨_,f,rfl,rfl,m,.inr ⟨g,0,rfl,?_,?_⟩⟩
  .exact(bg.1 d).1
  .intro i hi;have:=ht;simp only[ji]at this;unfold World.cell?;simp only[d];have b:(j.toList.take l.length)[i]? =some (enc l[i]):=by rw[this];simp[hi]
   rw[vN]at b;simp only[hi,gJ]at b;simpa using b
structure eY (P:Program) (t e:TypeId) (size bytes:Nat):Prop where
 ht:P.underlying t=some (.slice e)
 TG:∃(i:TypeInfo) (z:Value),P.info? e=some i/\i.zero=some z/\i.size=size/\i.bytes=bytes/\z.cells.size=size
 hsz:0<size
theorem eY.mk' {P:Program} {t e:TypeId} {z:Value} {size bytes:Nat} (ht:P.underlying t=some (.slice e)) (h:(P.info? e).map (fun i=>(i.zero,i.size,i.bytes))=some (some z,size,bytes)) (d:z.cells.size=size) (hsz:0<size):
  eY P t e size bytes:=by
 have⟨i,hi,a,b,c⟩:=info_parts h;exact⟨ht,⟨i,z,hi,a,b,c,d⟩,hsz⟩
section
variable {P:Program} {ops:Array Oper} {rest:List Oper} {o:Oper} {a:Act} {Q:Exit->Act->World->Prop}
theorem dX {w w1 w2:World} {r:Option Nat} (h:w.grownBy w1 none) (a:w1.grownBy w2 r):w.grownBy w2 r:=
 ⟨a.os.trans h.os,a.tape.trans h.tape,a.output.trans h.output,bA h.size a.size,fun k b c=>(a.block k (cO b h.size) c).trans (h.block k b ax)⟩
theorem iw {t e:TypeId} {size bytes:Nat} (d:eY P t e size bytes) (base:Nat) {v:Value} {n:Nat} {xs:List Value} {W:World} (A:W.ownsRow base e size v n xs) (b:List Value) (I:b.length=size) (g:∀u∈b,u.oneCell'=true)
  (w:o.guard=none) (s x:Operand) (y:o.op=.call {callee:=.builtin .append,args:=#[s,x],argTypes:=#[t,t]})
  (B:a.eval s=v) (f:TypeId) (E:a.eval x=aC W.heap.size 1 1) (m:n+1<=maxLen) (r:(n+1)*bytes<=140737488355328) (H:base<=W.heap.size)
  (h:∀c w',w'.ownsRow base e size c (n+1) (xs++b)->W.grownBy w' v.ownBlock->wpList P ops Q rest (a.put o.dst c) w'):wpList P ops Q (o::rest) a (W.alloc (.cells b.toArray f)):=by
 obtain⟨ht,⟨i,z,hi,F,C,q,G⟩,D⟩:=d;refine wpList_append_own _ w s x t y base e i z size bytes ht hi F C q G D v n xs B (A.alloc _) (ag W.heap.size 0) 1 1 b E aa ?_ g m r aH ?_
 .intro j u hu;have p:((ag W.heap.size 0):Addr).add j=(ag W.heap.size j):=by unfold Addr.add;split<;>simp_all
  rw[p,eX _ _ _ _ (by rfl)];simpa using hu
 .intro c w' k l _;exact h c w' k (dX (rP W _ none) l)
theorem jT {t ty e:TypeId} {size bytes:Nat} (a:eY P t e size bytes) {base:Nat} {v:Value} {n:Nat} {xs:List Value} {W:World} (d:W.ownsRow base e size v n xs) (x:Option Addr) (c:Nat):
  (Builtin.append_ #[t,t] ty #[v,.slice x 0 c]).run P W=.ok v W:=by
 obtain⟨ht,⟨i,z,hi,m,k,j,o⟩,l⟩:=a;rcases d.2 with⟨rfl,rfl⟩|⟨g,f,h,rfl,_,_,b,_⟩
 .cases x<;>simp[Builtin.append_,qC ht,sizeOf,typeInfo,hi,Builtin.lenOf,Builtin.firstCells,loadCells,loadCellsFrom]
 .cases x<;>simp[Builtin.append_,qC ht,sizeOf,typeInfo,hi,Builtin.lenOf,b,Builtin.firstCells,loadCells,loadCellsFrom,storeCells]
theorem gX {K:Act->World->Prop} {d:Prop} {w w':World} {v c b:Value} {t:TypeId} (f:o.guard=none) (s x:Operand)
  (g:o.op=Op.call {callee:=Callee.builtin Builtin.append,args:=#[s,x],argTypes:=#[t,t]}) (R:(Builtin.append_ #[t,t] o.type #[v,c]).run P w=.ok b w')
  (h:a.eval s=v) (j:a.eval x=c) (e:K (a.put o.dst b) w'):if Region.wanted o (yielded ops a.tmps)=true then Oper.wp P o a w K Q else d:=by
 have i:Region.wanted o (yielded ops a.tmps)=true:=by simp[Region.wanted,f]
 rw[aO i];unfold Oper.wp;simp[execOp,g,resolve,invoke,builtin,h,j,R,Result.andThen];exact e
end
theorem Below.aX (B:Nat) {w:World} (n:Nat):Below B w (w.drewN n):=⟨rfl,rfl,rfl,aA _,fun _ _=>rfl⟩
theorem _root_.Go.World.ownsRow.aX {w:World} {base:Nat} {e:TypeId} {size:Nat} {v:Value} {n:Nat} {xs:List Value} (h:w.ownsRow base e size v n xs) (q:Nat):(w.drewN q).ownsRow base e size v n xs:=h
theorem bT {w w':World} (h:Below w.heap.size w w'):w.grownBy w' none:=⟨h.os,h.tape,h.output,h.size,fun k a _=>h.block k a⟩
theorem GX {B b:Nat} {w w':World} (h:w.grownBy w' (some b)) (a:B<=w.heap.size) (c:B<=b):Below B w w':=(aJ B w).grown h a (fun k d=>by cases d;exact c)
theorem az {w w':World} {base:Nat} {e:TypeId} {size:Nat} {v:Value} {n:Nat} {xs:List Value} (h:w.ownsRow base e size v n xs) (a:Below w.heap.size w w'):w'.ownsRow base e size v n xs:=
 h.kept (bT a) (by cases b:v.ownBlock<;>simp)
theorem bH {B base:Nat} {w W w':World} {v:Value} {e:TypeId} {size n:Nat} {xs:List Value} (b:Below B w W) (g:W.ownsRow base e size v n xs) (d:W.grownBy w' v.ownBlock) (a:B<=W.heap.size) (c:B<=base):Below B w w':=
 b.grown d a (fun k f=>bA c (g.lt k f).1)
theorem AZ:eY prog 143 2 1 8:=.mk' (z:=.int .i64 0) underlying143 aL rfl ai
theorem nX:eY prog 148 3 1 8:=.mk' (z:=.int .i64 0) underlying148 aL rfl ai
theorem vg:eY prog 35 27 1 4:=.mk' (z:=.int .u32 0) underlying35 aL rfl ai
theorem zk:eY prog 95 4 1 1:=.mk' (z:=.bool false) underlying95 aL rfl ai
theorem uB:eY prog 22 29 3 24:=.mk' (z:=.agg #[ae 0,ae 0,ak 0]) underlying22 aL rfl ai
end
end Go.Proofs.YtkjdbndekceffaaGreat
namespace Go.Proofs
open Go.Shelf
def Tryz.GY:Go.Shelf.Ren:=⟨fun|125=>86|128=>160|129=>161|n=>n,fun|46=>135|3=>3|51=>27|53=>229|4=>4|5=>5|9=>9|n=>n,fun|n=>n⟩
theorem Tryz.Rz:Go.Proofs.Lays.n125 Tryz.prog Tryz.GY:={
 mixed:=aL
 f125:=Tryz.func86.trans (congrArg some aL)
 f128:=Tryz.func160.trans (congrArg some aL)
 f129:=Tryz.func161.trans (congrArg some aL)
 t3:=sN
 a3:=oM
 z3:=oJ
 v3:=sP
 t4:=qy
 a4:=tq
 z4:=sW
 v4:=sQ
 t5:=Tryz.underlying5
 a5:=Tryz.isAgg5
 z5:=Tryz.sizeOf5
 v5:=Tryz.zeroValue5
 t9:=Tryz.underlying9
 a9:=Tryz.isAgg9
 z9:=Tryz.sizeOf9
 v9:=Tryz.zeroValue9
 t46:=BA
 a46:=Tryz.isAgg135
 z46:=BV
 v46:=BH
 t51:=BI
 a51:=y8
 z51:=yZ
 v51:=BN
 t53:=BB
 a53:=Tryz.isAgg229
 z53:=BX
 v53:=BJ}
theorem Tryz.bits_Len (x:Int) (w:World) (h0:0<=x) (h1:x<=18446744073709551615):
  aK 86 #[.int .u64 x] w fun e w'=>e=.returned (ae (Lib.bitLen x.toNat))/\w'=w:=Any.bits_Len Tryz.Rz x w h0 h1
def Tryz.GZ:Go.Shelf.Ren:=⟨fun|212=>168|263=>250|264=>251|n=>n,fun|46=>135|51=>27|146=>331|53=>229|148=>333|n=>n,fun|n=>n⟩
theorem Tryz.RA:Go.Proofs.Lays.n212 Tryz.prog Tryz.GZ:={
 mixed:=aL
 f212:=Tryz.func168.trans (congrArg some aL)
 f263:=Tryz.func250.trans (congrArg some aL)
 f264:=Tryz.func251.trans (congrArg some aL)
 t46:=BA
 a46:=Tryz.isAgg135
 z46:=BV
 v46:=BH
 t51:=BI
 a51:=y8
 z51:=yZ
 v51:=BN
 t53:=BB
 a53:=Tryz.isAgg229
 z53:=BX
 v53:=BJ
 t146:=Tryz.underlying331
 a146:=Tryz.isAgg331
 z146:=Tryz.sizeOf331
 v146:=Tryz.zeroValue331
 t148:=Tryz.underlying333
 a148:=Tryz.isAgg333
 z148:=Tryz.sizeOf333
 v148:=Tryz.zeroValue333}
open Go.RowKit Go.Lib in
theorem Tryz.bits_Mul (x y:Nat) (hx:x<18446744073709551616) (hy:y<18446744073709551616) (w:World):
  aK 168 #[.int .u64 x,.int .u64 y] w fun e w'=>e=.returned (.tuple #[.int .u64 ((x*y/18446744073709551616:Nat):Int),.int .u64 ((x*y%18446744073709551616:Nat):Int)])/\w'=w:=Any.bits_Mul Tryz.RA x y hx hy w
def Tryz.JM:Go.Shelf.Ren:=⟨fun|45=>197|n=>n,fun|22=>143|23=>2|3=>3|4=>4|0=>0|n=>n,fun|n=>n⟩
def Tryz.ML:Go.Shelf.Ren:=⟨fun|6=>98|15=>86|14=>167|28=>160|29=>161|20=>242|21=>243|22=>244|23=>245|24=>246|25=>247|26=>248|27=>249|46=>296|47=>286|48=>287|49=>297|50=>298|57=>322|n=>n,fun|22=>148|24=>3|25=>157|3=>3|39=>135|0=>0|53=>27|55=>229|4=>4|46=>308|45=>307|50=>30|5=>5|9=>9|66=>364|70=>368|76=>391|77=>60|n=>n,fun|n=>n⟩
def Tryz.JN:Go.Shelf.Ren:=⟨fun|6=>93|15=>86|14=>165|28=>160|29=>161|20=>234|21=>235|22=>236|23=>237|24=>238|25=>239|26=>240|27=>241|46=>293|47=>286|48=>287|49=>294|50=>295|57=>321|n=>n,fun|22=>22|24=>29|25=>123|3=>3|39=>135|0=>0|53=>27|55=>229|4=>4|46=>308|45=>307|50=>30|5=>5|9=>9|66=>364|70=>368|76=>391|77=>60|n=>n,fun|n=>n⟩
theorem Tryz.JO:Go.Proofs.SlLaysF0.n6 Tryz.prog Tryz.JN:={
 mixed:=aL
 f6:=gQ Tryz.func93
 f14:=gQ Tryz.func165
 f15:=Tryz.func86.trans (congrArg some aL)
 f20:=gQ Tryz.func234
 f21:=gQ Tryz.func235
 f22:=gQ Tryz.func236
 f23:=gQ Tryz.func237
 f24:=gQ Tryz.func238
 f25:=gQ Tryz.func239
 f26:=gQ Tryz.func240
 f27:=gQ Tryz.func241
 f28:=Tryz.func160.trans (congrArg some aL)
 f29:=Tryz.func161.trans (congrArg some aL)
 f46:=gQ Tryz.func293
 f47:=Tryz.func286.trans (congrArg some aL)
 f48:=Tryz.func287.trans (congrArg some aL)
 f49:=gQ Tryz.func294
 f50:=gQ Tryz.func295
 f57:=gQ Tryz.func321
 t0:=vR
 a0:=wB
 z0:=vZ
 v0:=vU
 t3:=sN
 a3:=oM
 z3:=oJ
 v3:=sP
 t4:=qy
 a4:=tq
 z4:=sW
 v4:=sQ
 t5:=Tryz.underlying5
 a5:=Tryz.isAgg5
 z5:=Tryz.sizeOf5
 v5:=Tryz.zeroValue5
 t9:=Tryz.underlying9
 a9:=Tryz.isAgg9
 z9:=Tryz.sizeOf9
 v9:=Tryz.zeroValue9
 t22:=Tryz.underlying22
 a22:=Tryz.isAgg22
 z22:=Tryz.sizeOf22
 v22:=Tryz.zeroValue22
 t25:=Tryz.underlying123
 a25:=Tryz.isAgg123
 z25:=Tryz.sizeOf123
 v25:=Tryz.zeroValue123
 t39:=BA
 a39:=Tryz.isAgg135
 z39:=BV
 v39:=BH
 t45:=Tryz.underlying307
 a45:=Tryz.isAgg307
 z45:=Tryz.sizeOf307
 v45:=Tryz.zeroValue307
 t46:=Tryz.underlying308
 a46:=Tryz.isAgg308
 z46:=Tryz.sizeOf308
 v46:=Tryz.zeroValue308
 t50:=Tryz.underlying30
 a50:=Tryz.isAgg30
 z50:=Tryz.sizeOf30
 v50:=Tryz.zeroValue30
 t53:=BI
 a53:=y8
 z53:=yZ
 v53:=BN
 t55:=BB
 a55:=Tryz.isAgg229
 z55:=BX
 v55:=BJ
 t66:=Tryz.underlying364
 a66:=Tryz.isAgg364
 z66:=Tryz.sizeOf364
 v66:=Tryz.zeroValue364
 t70:=Tryz.underlying368
 a70:=Tryz.isAgg368
 z70:=Tryz.sizeOf368
 v70:=Tryz.zeroValue368
 t76:=Tryz.underlying391
 a76:=Tryz.isAgg391
 z76:=Tryz.sizeOf391
 v76:=Tryz.zeroValue391
 t77:=Tryz.underlying60
 a77:=Tryz.isAgg60
 z77:=Tryz.sizeOf60
 v77:=Tryz.zeroValue60}
def Tryz.DU:Go.Shelf.Ren:=⟨fun|6=>205|15=>86|14=>279|28=>160|29=>161|20=>306|21=>307|22=>308|23=>309|24=>310|25=>311|26=>312|27=>313|46=>332|47=>286|48=>287|49=>333|50=>334|57=>356|n=>n,fun|22=>209|24=>204|25=>295|3=>3|39=>135|0=>0|53=>27|55=>229|4=>4|46=>308|45=>307|50=>30|5=>5|9=>9|66=>364|70=>368|76=>391|77=>60|n=>n,fun|n=>n⟩
theorem Tryz.Ej:Go.Proofs.SlLaysF0.n6 Tryz.prog Tryz.DU:={
 mixed:=aL
 f6:=gQ Tryz.func205
 f14:=gQ Tryz.func279
 f15:=Tryz.func86.trans (congrArg some aL)
 f20:=gQ Tryz.func306
 f21:=gQ Tryz.func307
 f22:=gQ Tryz.func308
 f23:=gQ Tryz.func309
 f24:=gQ Tryz.func310
 f25:=gQ Tryz.func311
 f26:=gQ Tryz.func312
 f27:=gQ Tryz.func313
 f28:=Tryz.func160.trans (congrArg some aL)
 f29:=Tryz.func161.trans (congrArg some aL)
 f46:=gQ Tryz.func332
 f47:=Tryz.func286.trans (congrArg some aL)
 f48:=Tryz.func287.trans (congrArg some aL)
 f49:=gQ Tryz.func333
 f50:=gQ Tryz.func334
 f57:=gQ Tryz.func356
 t0:=vR
 a0:=wB
 z0:=vZ
 v0:=vU
 t3:=sN
 a3:=oM
 z3:=oJ
 v3:=sP
 t4:=qy
 a4:=tq
 z4:=sW
 v4:=sQ
 t5:=Tryz.underlying5
 a5:=Tryz.isAgg5
 z5:=Tryz.sizeOf5
 v5:=Tryz.zeroValue5
 t9:=Tryz.underlying9
 a9:=Tryz.isAgg9
 z9:=Tryz.sizeOf9
 v9:=Tryz.zeroValue9
 t22:=Tryz.underlying209
 a22:=Tryz.isAgg209
 z22:=Tryz.sizeOf209
 v22:=Tryz.zeroValue209
 t25:=Tryz.underlying295
 a25:=Tryz.isAgg295
 z25:=Tryz.sizeOf295
 v25:=Tryz.zeroValue295
 t39:=BA
 a39:=Tryz.isAgg135
 z39:=BV
 v39:=BH
 t45:=Tryz.underlying307
 a45:=Tryz.isAgg307
 z45:=Tryz.sizeOf307
 v45:=Tryz.zeroValue307
 t46:=Tryz.underlying308
 a46:=Tryz.isAgg308
 z46:=Tryz.sizeOf308
 v46:=Tryz.zeroValue308
 t50:=Tryz.underlying30
 a50:=Tryz.isAgg30
 z50:=Tryz.sizeOf30
 v50:=Tryz.zeroValue30
 t53:=BI
 a53:=y8
 z53:=yZ
 v53:=BN
 t55:=BB
 a55:=Tryz.isAgg229
 z55:=BX
 v55:=BJ
 t66:=Tryz.underlying364
 a66:=Tryz.isAgg364
 z66:=Tryz.sizeOf364
 v66:=Tryz.zeroValue364
 t70:=Tryz.underlying368
 a70:=Tryz.isAgg368
 z70:=Tryz.sizeOf368
 v70:=Tryz.zeroValue368
 t76:=Tryz.underlying391
 a76:=Tryz.isAgg391
 z76:=Tryz.sizeOf391
 v76:=Tryz.zeroValue391
 t77:=Tryz.underlying60
 a77:=Tryz.isAgg60
 z77:=Tryz.sizeOf60
 v77:=Tryz.zeroValue60}
def Tryz.MM:Go.Shelf.Ren:=⟨fun|35=>215|n=>n,fun|22=>22|23=>29|3=>3|4=>4|0=>0|n=>n,fun|n=>n⟩
theorem Tryz.TH:Go.Proofs.SlLaysE0.n35 Tryz.prog Tryz.MM:={
 mixed:=aL
 f35:=gQ Tryz.func215
 t0:=vR
 a0:=wB
 z0:=vZ
 v0:=vU
 t3:=sN
 a3:=oM
 z3:=oJ
 v3:=sP
 t4:=qy
 a4:=tq
 z4:=sW
 v4:=sQ
 t22:=Tryz.underlying22
 a22:=Tryz.isAgg22
 z22:=Tryz.sizeOf22
 v22:=Tryz.zeroValue22}
end Go.Proofs
