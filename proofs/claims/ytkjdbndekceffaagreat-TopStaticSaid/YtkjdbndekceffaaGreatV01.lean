/- A part of the proof; its text was made small by a program (no remarks, short names). -/
import Derived.Test.YtkjdbndekceffaaGreatV00
import Derived.Test.YtkjdbndekceffaaGreatProg
set_option linter.unusedSimpArgs false
set_option linter.unusedVariables false
set_option maxRecDepth 100000
set_option maxHeartbeats 16000000
namespace Go.Proofs.YtkjdbndekceffaaGreat
open Go.RowKit
theorem yu {a b:Bool} (h:a=b):Ending.returned (.bool a)=.returned (.bool b):=by rw[h]
def Rd {α:Type} (enc:α->Value) (w:World) (a:Option Addr) (l:List α):Prop:=
 l=[]\/∃b off,a=some (ah b off)/\b<w.heap.size/\∀i (h:i<l.length),w.cell? (ah b (off+i))=some (enc l[i])
theorem Rd.below {α:Type} {enc:α->Value} {w w':World} {a:Option Addr} {l:List α} {B:Nat} (h:Rd enc w a l) (hb:Below B w w') (hB:w.heap.size<=B:=by first|exact aG _|(simp;done)|(simp;omega)):Rd enc w' a l:=by
 rcases h with h|⟨b,off,rfl,hlt,hc⟩
 .exact .inl h
 .exact .inr ⟨b,off,rfl,bJ hlt hb.size,fun i hi=>by rw[hb.cell (p:=(ah b (off+i))) (bJ hlt hB)];exact hc i hi⟩
theorem Rd.get {α:Type} {enc:α->Value} {w:World} {a:Option Addr} {l:List α} (h:Rd enc w a l) (hl:0<l.length):
  ∃b off,a=some (ah b off)/\b<w.heap.size/\∀i (h:i<l.length),w.cell? (ah b (off+i))=some (enc l[i]):=by
 rcases h with rfl|h
 .simp at hl
 .exact h
theorem Rd.lit {α:Type} {enc:α->Value} (W:World) (e:TypeId) (l:List α) (n:Nat) (hn:n=W.heap.size):Rd enc (W.alloc (.cells (l.map enc).toArray e)) (some (ah n 0)) l:=by
 refine .inr ⟨_,0,rfl,by simp;omega,fun i hi=>?_⟩;rw[fw _ _ _ _ hn];simp[hi]
theorem Rd.aL {α:Type} {enc:α->Value} {w:World} {base:Nat} {e:TypeId} {v:Value} {n:Nat} {l:List α} (h:w.ownsRow base e 1 v n (l.map enc)):
  ∃a c,v=.slice a l.length c/\n=l.length/\l.length<=c/\Rd enc w a l:=by
 obtain⟨hn,h⟩:=h;have VU:n=l.length:=by simpa using hn.symm
 subst VU;rcases h with⟨rfl,h0⟩|⟨g,cap,cur,rfl,hg,hh,hc,hm,hs,ht⟩
 .have:l=[]:=jw h0;subst this;exact⟨none,0,rfl,rfl,aG _,.inl rfl⟩
 .refine⟨_,cap,rfl,rfl,hc,.inr ⟨g,0,rfl,?_,?_⟩⟩
  .exact(bn.1 hh).1
  .intro i hi;have:=ht;simp only[lC]at this;unfold World.cell?;simp only[hh];have h1:(cur.toList.take l.length)[i]? =some (enc l[i]):=by rw[this];simp[hi]
   rw[wP]at h1;simp only[hi,gV]at h1;simpa using h1
structure eQ (P:Program) (t e:TypeId) (size bytes:Nat):Prop where
 ht:P.underlying t=some (.slice e)
 aeD:∃(i:TypeInfo) (z:Value),P.info? e=some i/\i.zero=some z/\i.size=size/\i.bytes=bytes/\z.cells.size=size
 hsz:0<size
theorem eQ.mk' {P:Program} {t e:TypeId} {z:Value} {size bytes:Nat} (ht:P.underlying t=some (.slice e)) (h:(P.info? e).map (fun i=>(i.zero,i.size,i.bytes))=some (some z,size,bytes)) (hz:z.cells.size=size) (hsz:0<size):
  eQ P t e size bytes:=by
 obtain⟨i,hi,h1,h2,h3⟩:=info_parts h;exact⟨ht,⟨i,z,hi,h1,h2,h3,hz⟩,hsz⟩
section
variable {P:Program} {ops:Array Oper} {rest:List Oper} {o:Oper} {a:Act} {Q:Exit->Act->World->Prop}
theorem dP {w w1 w2:World} {r:Option Nat} (h:w.grownBy w1 none) (h2:w1.grownBy w2 r):w.grownBy w2 r:=
 ⟨h2.os.trans h.os,h2.tape.trans h.tape,h2.output.trans h.output,bO h.size h2.size,fun k hk hr=>(h2.block k (bJ hk h.size) hr).trans (h.block k hk (by simp))⟩
theorem Eb {t e:TypeId} {size bytes:Nat} (E:eQ P t e size bytes) (base:Nat) {v:Value} {n:Nat} {xs:List Value} {W:World} (hown:W.ownsRow base e size v n xs) (us:List Value) (hus:us.length=size) (h1:∀u∈us,u.oneCell'=true)
  (hgd:o.guard=none) (s x:Operand) (ho:o.op=.call {callee:=.builtin .append,args:=#[s,x],argTypes:=#[t,t]})
  (hs:a.eval s=v) (e':TypeId) (hx:a.eval x=aD W.heap.size 1 1) (h63:n+1<=maxLen) (hbytes:(n+1)*bytes<=140737488355328) (hbase:base<=W.heap.size)
  (h:∀v' w',w'.ownsRow base e size v' (n+1) (xs++us)->W.grownBy w' v.ownBlock->wpList P ops Q rest (a.put o.dst v') w'):wpList P ops Q (o::rest) a (W.alloc (.cells us.toArray e')):=by
 obtain⟨ht,⟨i,z,hi,hz,hsize,hby,hzs⟩,hsz⟩:=E;refine wpList_append_own _ hgd s x t ho base e i z size bytes ht hi hz hsize hby hzs hsz v n xs hs (hown.alloc _) (ah W.heap.size 0) 1 1 us hx (by omega) ?_ h1 h63 hbytes (by simp;omega) ?_
 .intro j u hu;have j6:((ah W.heap.size 0):Addr).add j=(ah W.heap.size j):=by unfold Addr.add;split<;>simp_all
  rw[j6,fw _ _ _ _ (by rfl)];simpa using hu
 .intro v' w' h2 h3 _;exact h v' w' h2 (dP (sO W _ none) h3)
theorem nU {t ty e:TypeId} {size bytes:Nat} (E:eQ P t e size bytes) {base:Nat} {v:Value} {n:Nat} {xs:List Value} {W:World} (hown:W.ownsRow base e size v n xs) (x:Option Addr) (c:Nat):
  (Builtin.append_ #[t,t] ty #[v,.slice x 0 c]).run P W=.ok v W:=by
 obtain⟨ht,⟨i,z,hi,hz,hsize,hby,hzs⟩,hsz⟩:=E;rcases hown.2 with⟨rfl,rfl⟩|⟨g,cap,cur,rfl,_,_,hn,_⟩
 .cases x<;>simp[Builtin.append_,pM ht,sizeOf,typeInfo,hi,Builtin.lenOf,Builtin.firstCells,loadCells,loadCellsFrom]
 .cases x<;>simp[Builtin.append_,pM ht,sizeOf,typeInfo,hi,Builtin.lenOf,hn,Builtin.firstCells,loadCells,loadCellsFrom,storeCells]
theorem rZ {K:Act->World->Prop} {E:Prop} {w w':World} {v xv v':Value} {t:TypeId} (hg:o.guard=none) (s x:Operand)
  (hop:o.op=Op.call {callee:=Callee.builtin Builtin.append,args:=#[s,x],argTypes:=#[t,t]}) (R:(Builtin.append_ #[t,t] o.type #[v,xv]).run P w=.ok v' w')
  (hs:a.eval s=v) (hx:a.eval x=xv) (hK:K (a.put o.dst v') w'):if Region.wanted o (yielded ops a.tmps)=true then Oper.wp P o a w K Q else E:=by
 have hw:Region.wanted o (yielded ops a.tmps)=true:=by simp[Region.wanted,hg]
 rw[aR hw];unfold Oper.wp;simp[execOp,hop,resolve,invoke,builtin,hs,hx,R,Result.andThen];exact hK
end
theorem Below.bP (B:Nat) {w:World} (n:Nat):Below B w (w.drewN n):=⟨rfl,rfl,rfl,aG _,fun _ _=>rfl⟩
theorem _root_.Go.World.ownsRow.bP {w:World} {base:Nat} {e:TypeId} {size:Nat} {v:Value} {n:Nat} {xs:List Value} (h:w.ownsRow base e size v n xs) (q:Nat):(w.drewN q).ownsRow base e size v n xs:=h
theorem bV {w w':World} (h:Below w.heap.size w w'):w.grownBy w' none:=⟨h.os,h.tape,h.output,h.size,fun k hk _=>h.block k hk⟩
theorem au {w w':World} {base:Nat} {e:TypeId} {size:Nat} {v:Value} {n:Nat} {xs:List Value} (h:w.ownsRow base e size v n xs) (hb:Below w.heap.size w w'):w'.ownsRow base e size v n xs:=
 h.kept (bV hb) (by cases hv:v.ownBlock<;>simp)
theorem eH {B base:Nat} {w W w':World} {v:Value} {e:TypeId} {size n:Nat} {xs:List Value} (hb:Below B w W) (hown:W.ownsRow base e size v n xs) (hg:W.grownBy w' v.ownBlock) (hB:B<=W.heap.size) (hbase:B<=base):Below B w w':=
 hb.grown hg hB (fun k hk=>bO hbase (hown.lt k hk).1)
theorem CV:eQ Tryz.prog 143 2 1 8:=.mk' (z:=.int .i64 0) Tryz.underlying143 (by kernel_rfl) rfl (by decide)
theorem oU:eQ Tryz.prog 148 3 1 8:=.mk' (z:=.int .i64 0) zT (by kernel_rfl) rfl (by decide)
theorem yw:eQ Tryz.prog 35 27 1 4:=.mk' (z:=.int .u32 0) Tryz.underlying35 (by kernel_rfl) rfl (by decide)
theorem Az:eQ Tryz.prog 95 4 1 1:=.mk' (z:=.bool false) Tryz.underlying95 (by kernel_rfl) rfl (by decide)
theorem uT:eQ Tryz.prog 22 29 3 24:=.mk' (z:=.agg #[ag 0,ag 0,aJ 0]) DI (by kernel_rfl) rfl (by decide)
end Go.Proofs.YtkjdbndekceffaaGreat
namespace Go.Proofs
open Go.Shelf
def Tryz.Lb:Go.Shelf.Ren:=⟨fun|125=>86|128=>160|129=>161|n=>n,fun|46=>135|3=>3|51=>27|53=>229|4=>4|5=>5|9=>9|n=>n,fun|n=>n⟩
theorem Tryz.abV:Go.Proofs.Lays.n125 Tryz.prog Tryz.Lb:={
 mixed:=by kernel_rfl
 f125:=Tryz.func86.trans (congrArg some (by kernel_rfl))
 f128:=Tryz.func160.trans (congrArg some (by kernel_rfl))
 f129:=Tryz.func161.trans (congrArg some (by kernel_rfl))
 t3:=nQ
 a3:=qY
 z3:=qV
 v3:=pK
 t4:=qP
 a4:=xw
 z4:=xh
 v4:=wX
 t5:=Ac
 a5:=Tryz.isAgg5
 z5:=Tryz.sizeOf5
 v5:=Tryz.zeroValue5
 t9:=Tryz.underlying9
 a9:=Tryz.isAgg9
 z9:=Tryz.sizeOf9
 v9:=Tryz.zeroValue9
 t46:=Dx
 a46:=Tryz.isAgg135
 z46:=DW
 v46:=DJ
 t51:=lh
 a51:=Ap
 z51:=Ak
 v51:=Ad
 t53:=Dy
 a53:=Tryz.isAgg229
 z53:=DY
 v53:=DK}
theorem Tryz.bits_Len (x:Int) (w:World) (h0:0<=x) (h1:x<=18446744073709551615):
  aO 86 #[.int .u64 x] w fun e w'=>e=.returned (ag (Lib.bitLen x.toNat))/\w'=w:=Any.bits_Len Tryz.abV x w h0 h1
def Tryz.Lc:Go.Shelf.Ren:=⟨fun|212=>168|263=>250|264=>251|n=>n,fun|46=>135|51=>27|146=>331|53=>229|148=>333|n=>n,fun|n=>n⟩
theorem Tryz.abW:Go.Proofs.Lays.n212 Tryz.prog Tryz.Lc:={
 mixed:=by kernel_rfl
 f212:=Tryz.func168.trans (congrArg some (by kernel_rfl))
 f263:=Tryz.func250.trans (congrArg some (by kernel_rfl))
 f264:=Tryz.func251.trans (congrArg some (by kernel_rfl))
 t46:=Dx
 a46:=Tryz.isAgg135
 z46:=DW
 v46:=DJ
 t51:=lh
 a51:=Ap
 z51:=Ak
 v51:=Ad
 t53:=Dy
 a53:=Tryz.isAgg229
 z53:=DY
 v53:=DK
 t146:=Tryz.underlying331
 a146:=Tryz.isAgg331
 z146:=Tryz.sizeOf331
 v146:=Tryz.zeroValue331
 t148:=Tryz.underlying333
 a148:=Tryz.isAgg333
 z148:=Tryz.sizeOf333
 v148:=Tryz.zeroValue333}
open Go.RowKit Go.Lib in
theorem Tryz.bits_Mul (x y:Nat) (hx:x<18446744073709551616) (hy:y<18446744073709551616) (w:World):
  aO 168 #[.int .u64 x,.int .u64 y] w fun e w'=>e=.returned (.tuple #[.int .u64 ((x*y/18446744073709551616:Nat):Int),.int .u64 ((x*y%18446744073709551616:Nat):Int)])/\w'=w:=Any.bits_Mul Tryz.abW x y hx hy w
def Tryz.Ty:Go.Shelf.Ren:=⟨fun|6=>98|15=>86|14=>167|28=>160|29=>161|20=>242|21=>243|22=>244|23=>245|24=>246|25=>247|26=>248|27=>249|46=>296|47=>286|48=>287|49=>297|50=>298|57=>322|n=>n,fun|22=>148|24=>3|25=>157|3=>3|39=>135|0=>0|53=>27|55=>229|4=>4|46=>308|45=>307|50=>30|5=>5|9=>9|66=>364|70=>368|76=>391|77=>60|n=>n,fun|n=>n⟩
def Tryz.Oz:Go.Shelf.Ren:=⟨fun|6=>93|15=>86|14=>165|28=>160|29=>161|20=>234|21=>235|22=>236|23=>237|24=>238|25=>239|26=>240|27=>241|46=>293|47=>286|48=>287|49=>294|50=>295|57=>321|n=>n,fun|22=>22|24=>29|25=>123|3=>3|39=>135|0=>0|53=>27|55=>229|4=>4|46=>308|45=>307|50=>30|5=>5|9=>9|66=>364|70=>368|76=>391|77=>60|n=>n,fun|n=>n⟩
theorem Tryz.OA:Go.Proofs.SlLaysF0.n6 Tryz.prog Tryz.Oz:={
 mixed:=by kernel_rfl
 f6:=⟨Tryz.f93.name,by decide,Tryz.func93.trans (congrArg some (by kernel_rfl))⟩
 f14:=⟨Tryz.f165.name,by decide,Tryz.func165.trans (congrArg some (by kernel_rfl))⟩
 f15:=Tryz.func86.trans (congrArg some (by kernel_rfl))
 f20:=⟨Tryz.f234.name,by decide,Tryz.func234.trans (congrArg some (by kernel_rfl))⟩
 f21:=⟨Tryz.f235.name,by decide,Tryz.func235.trans (congrArg some (by kernel_rfl))⟩
 f22:=⟨Tryz.f236.name,by decide,Tryz.func236.trans (congrArg some (by kernel_rfl))⟩
 f23:=⟨Tryz.f237.name,by decide,Tryz.func237.trans (congrArg some (by kernel_rfl))⟩
 f24:=⟨Tryz.f238.name,by decide,Tryz.func238.trans (congrArg some (by kernel_rfl))⟩
 f25:=⟨Tryz.f239.name,by decide,Tryz.func239.trans (congrArg some (by kernel_rfl))⟩
 f26:=⟨Tryz.f240.name,by decide,Tryz.func240.trans (congrArg some (by kernel_rfl))⟩
 f27:=⟨Tryz.f241.name,by decide,Tryz.func241.trans (congrArg some (by kernel_rfl))⟩
 f28:=Tryz.func160.trans (congrArg some (by kernel_rfl))
 f29:=Tryz.func161.trans (congrArg some (by kernel_rfl))
 f46:=⟨Tryz.f293.name,by decide,Tryz.func293.trans (congrArg some (by kernel_rfl))⟩
 f47:=Tryz.func286.trans (congrArg some (by kernel_rfl))
 f48:=Tryz.func287.trans (congrArg some (by kernel_rfl))
 f49:=⟨Tryz.f294.name,by decide,Tryz.func294.trans (congrArg some (by kernel_rfl))⟩
 f50:=⟨Tryz.f295.name,by decide,Tryz.func295.trans (congrArg some (by kernel_rfl))⟩
 f57:=⟨Tryz.f321.name,by decide,Tryz.func321.trans (congrArg some (by kernel_rfl))⟩
 t0:=Ae
 a0:=Tryz.isAgg0
 z0:=Aq
 v0:=Ag
 t3:=nQ
 a3:=qY
 z3:=qV
 v3:=pK
 t4:=qP
 a4:=xw
 z4:=xh
 v4:=wX
 t5:=Ac
 a5:=Tryz.isAgg5
 z5:=Tryz.sizeOf5
 v5:=Tryz.zeroValue5
 t9:=Tryz.underlying9
 a9:=Tryz.isAgg9
 z9:=Tryz.sizeOf9
 v9:=Tryz.zeroValue9
 t22:=DI
 a22:=Tryz.isAgg22
 z22:=Tryz.sizeOf22
 v22:=Tryz.zeroValue22
 t25:=Tryz.underlying123
 a25:=Tryz.isAgg123
 z25:=Tryz.sizeOf123
 v25:=Tryz.zeroValue123
 t39:=Dx
 a39:=Tryz.isAgg135
 z39:=DW
 v39:=DJ
 t45:=Tryz.underlying307
 a45:=Tryz.isAgg307
 z45:=Tryz.sizeOf307
 v45:=Tryz.zeroValue307
 t46:=Tryz.underlying308
 a46:=Tryz.isAgg308
 z46:=Tryz.sizeOf308
 v46:=Tryz.zeroValue308
 t50:=Tryz.underlying30
 a50:=Tryz.isAgg30
 z50:=Tryz.sizeOf30
 v50:=Tryz.zeroValue30
 t53:=lh
 a53:=Ap
 z53:=Ak
 v53:=Ad
 t55:=Dy
 a55:=Tryz.isAgg229
 z55:=DY
 v55:=DK
 t66:=Tryz.underlying364
 a66:=Tryz.isAgg364
 z66:=Tryz.sizeOf364
 v66:=Tryz.zeroValue364
 t70:=Tryz.underlying368
 a70:=Tryz.isAgg368
 z70:=Tryz.sizeOf368
 v70:=Tryz.zeroValue368
 t76:=Tryz.underlying391
 a76:=Tryz.isAgg391
 z76:=Tryz.sizeOf391
 v76:=Tryz.zeroValue391
 t77:=Tryz.underlying60
 a77:=Tryz.isAgg60
 z77:=Tryz.sizeOf60
 v77:=Tryz.zeroValue60}
def Tryz.F9:Go.Shelf.Ren:=⟨fun|6=>205|15=>86|14=>279|28=>160|29=>161|20=>306|21=>307|22=>308|23=>309|24=>310|25=>311|26=>312|27=>313|46=>332|47=>286|48=>287|49=>333|50=>334|57=>356|n=>n,fun|22=>209|24=>204|25=>295|3=>3|39=>135|0=>0|53=>27|55=>229|4=>4|46=>308|45=>307|50=>30|5=>5|9=>9|66=>364|70=>368|76=>391|77=>60|n=>n,fun|n=>n⟩
theorem Tryz.GM:Go.Proofs.SlLaysF0.n6 Tryz.prog Tryz.F9:={
 mixed:=by kernel_rfl
 f6:=⟨Tryz.f205.name,by decide,Tryz.func205.trans (congrArg some (by kernel_rfl))⟩
 f14:=⟨Tryz.f279.name,by decide,Tryz.func279.trans (congrArg some (by kernel_rfl))⟩
 f15:=Tryz.func86.trans (congrArg some (by kernel_rfl))
 f20:=⟨Tryz.f306.name,by decide,Tryz.func306.trans (congrArg some (by kernel_rfl))⟩
 f21:=⟨Tryz.f307.name,by decide,Tryz.func307.trans (congrArg some (by kernel_rfl))⟩
 f22:=⟨Tryz.f308.name,by decide,Tryz.func308.trans (congrArg some (by kernel_rfl))⟩
 f23:=⟨Tryz.f309.name,by decide,Tryz.func309.trans (congrArg some (by kernel_rfl))⟩
 f24:=⟨Tryz.f310.name,by decide,Tryz.func310.trans (congrArg some (by kernel_rfl))⟩
 f25:=⟨Tryz.f311.name,by decide,Tryz.func311.trans (congrArg some (by kernel_rfl))⟩
 f26:=⟨Tryz.f312.name,by decide,Tryz.func312.trans (congrArg some (by kernel_rfl))⟩
 f27:=⟨Tryz.f313.name,by decide,Tryz.func313.trans (congrArg some (by kernel_rfl))⟩
 f28:=Tryz.func160.trans (congrArg some (by kernel_rfl))
 f29:=Tryz.func161.trans (congrArg some (by kernel_rfl))
 f46:=⟨Tryz.f332.name,by decide,Tryz.func332.trans (congrArg some (by kernel_rfl))⟩
 f47:=Tryz.func286.trans (congrArg some (by kernel_rfl))
 f48:=Tryz.func287.trans (congrArg some (by kernel_rfl))
 f49:=⟨Tryz.f333.name,by decide,Tryz.func333.trans (congrArg some (by kernel_rfl))⟩
 f50:=⟨Tryz.f334.name,by decide,Tryz.func334.trans (congrArg some (by kernel_rfl))⟩
 f57:=⟨Tryz.f356.name,by decide,Tryz.func356.trans (congrArg some (by kernel_rfl))⟩
 t0:=Ae
 a0:=Tryz.isAgg0
 z0:=Aq
 v0:=Ag
 t3:=nQ
 a3:=qY
 z3:=qV
 v3:=pK
 t4:=qP
 a4:=xw
 z4:=xh
 v4:=wX
 t5:=Ac
 a5:=Tryz.isAgg5
 z5:=Tryz.sizeOf5
 v5:=Tryz.zeroValue5
 t9:=Tryz.underlying9
 a9:=Tryz.isAgg9
 z9:=Tryz.sizeOf9
 v9:=Tryz.zeroValue9
 t22:=Tryz.underlying209
 a22:=Tryz.isAgg209
 z22:=Tryz.sizeOf209
 v22:=Tryz.zeroValue209
 t25:=Tryz.underlying295
 a25:=Tryz.isAgg295
 z25:=Tryz.sizeOf295
 v25:=Tryz.zeroValue295
 t39:=Dx
 a39:=Tryz.isAgg135
 z39:=DW
 v39:=DJ
 t45:=Tryz.underlying307
 a45:=Tryz.isAgg307
 z45:=Tryz.sizeOf307
 v45:=Tryz.zeroValue307
 t46:=Tryz.underlying308
 a46:=Tryz.isAgg308
 z46:=Tryz.sizeOf308
 v46:=Tryz.zeroValue308
 t50:=Tryz.underlying30
 a50:=Tryz.isAgg30
 z50:=Tryz.sizeOf30
 v50:=Tryz.zeroValue30
 t53:=lh
 a53:=Ap
 z53:=Ak
 v53:=Ad
 t55:=Dy
 a55:=Tryz.isAgg229
 z55:=DY
 v55:=DK
 t66:=Tryz.underlying364
 a66:=Tryz.isAgg364
 z66:=Tryz.sizeOf364
 v66:=Tryz.zeroValue364
 t70:=Tryz.underlying368
 a70:=Tryz.isAgg368
 z70:=Tryz.sizeOf368
 v70:=Tryz.zeroValue368
 t76:=Tryz.underlying391
 a76:=Tryz.isAgg391
 z76:=Tryz.sizeOf391
 v76:=Tryz.zeroValue391
 t77:=Tryz.underlying60
 a77:=Tryz.isAgg60
 z77:=Tryz.sizeOf60
 v77:=Tryz.zeroValue60}
end Go.Proofs
