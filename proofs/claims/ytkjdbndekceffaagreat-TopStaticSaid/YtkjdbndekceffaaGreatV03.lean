/- A part of the proof; its text was made small by a program (no remarks, short names). -/
import Derived.Test.YtkjdbndekceffaaGreatV00
import Derived.Test.YtkjdbndekceffaaGreatV01
import Derived.Test.YtkjdbndekceffaaGreatV02
import Derived.Test.YtkjdbndekceffaaGreatProg
set_option linter.unusedSimpArgs false
set_option linter.unusedVariables false
set_option maxRecDepth 100000
set_option maxHeartbeats 16000000
namespace Go.Proofs.YtkjdbndekceffaaGreat
open Go.RowKit
def dU {α:Type} (enc:α->List Value) (sz:Nat) (w:World) (a:Option Addr) (l:List α):Prop:=
 l=[]\/∃b off,a=some (ah b off)/\b<w.heap.size/\∀i (h:i<l.length) j,j<sz->w.cell? (ah b (off+i*sz+j))=(enc l[i])[j]?
section
variable {α:Type} {enc:α->List Value} {sz:Nat} {w w':World} {a:Option Addr} {l:List α}
theorem dU.below {B:Nat} (h:dU enc sz w a l) (hb:Below B w w') (hB:w.heap.size<=B:=by first|exact aG _|(simp;done)|(simp;omega)):dU enc sz w' a l:=by
 rcases h with h|⟨b,off,rfl,hlt,hc⟩
 .exact .inl h
 .exact .inr ⟨b,off,rfl,bJ hlt hb.size,fun i hi j hj=>by rw[hb.cell (p:=(ah b (off+i*sz+j))) (bJ hlt hB)];exact hc i hi j hj⟩
theorem dU.nil:dU enc sz w a ([]:List α):=.inl rfl
theorem dU.get (h:dU enc sz w a l) (hl:0<l.length):
  ∃b off,a=some (ah b off)/\b<w.heap.size/\∀i (h:i<l.length) j,j<sz->w.cell? (ah b (off+i*sz+j))=(enc l[i])[j]? :=by
 rcases h with rfl|h
 .simp at hl
 .exact h
theorem dU.take (h:dU enc sz w a l) (k:Nat):dU enc sz w a (l.take k):=by
 rcases h with rfl|⟨b,off,rfl,hb,hc⟩
 .exact .inl (by simp)
 .exact .inr ⟨b,off,rfl,hb,fun i hi j hj=>by rw[zZ];exact hc i (by simp at hi;omega) j hj⟩
theorem dU.drop {b off:Nat} (h:dU enc sz w (some (ah b off)) l) (k:Nat):dU enc sz w (some (ah b (off+k*sz))) (l.drop k):=by
 rcases h with h|⟨b',akX,h,hb,hc⟩
 .exact .inl (by rw[h];simp)
 .cases h;exact .inr ⟨b,off+k*sz,rfl,hb,fun i hi j hj=>by
   rw[List.getElem_drop,show off+k*sz+i*sz+j=off+(k+i)*sz+j by rw[tX];omega];exact hc (k+i) (by simp at hi;omega) j hj⟩
theorem iw (hk:∀x,(enc x).length=sz):∀l:List α,(l.flatMap enc).length=l.length*sz
 |[]=>by simp
 |x::l=>by
  rw[oP,bF,hk,iw hk l,fU,tX];omega
theorem flat_get (hk:∀x,(enc x).length=sz):∀(l:List α) (i:Nat) (h:i<l.length) (j:Nat),j<sz->(l.flatMap enc)[i*sz+j]? =(enc l[i])[j]?
 |x::l,0,_,j,hj=>by
  rw[oP,mP (by rw[hk];omega)];simp
 |x::l,i+1,h,j,hj=>by
  rw[oP,oO (by rw[hk,tX];omega),hk,show(i+1)*sz+j-sz=i*sz+j by rw[tX];omega];exact flat_get hk l i (by simpa using h) j hj
theorem dU.aL (hk:∀x,(enc x).length=sz) {base:Nat} {e:TypeId} {v:Value} {n:Nat} (hsz:0<sz) (h:w.ownsRow base e sz v n (l.flatMap enc)):
  ∃a c,v=.slice a l.length c/\n=l.length/\l.length<=c/\dU enc sz w a l:=by
 obtain⟨hn,h⟩:=h;rw[iw hk]at hn;have VU:n=l.length:=Nat.eq_of_mul_eq_mul_right hsz hn.symm;subst VU;rcases h with⟨rfl,h0⟩|⟨g,cap,cur,rfl,hg,hh,hc,hm,hs,ht⟩
 .have:l=[]:=jw h0;subst this;exact⟨none,0,rfl,rfl,aG _,.inl rfl⟩
 .refine⟨_,cap,rfl,rfl,hc,.inr ⟨g,0,rfl,(bn.1 hh).1,fun i hi j hj=>?_⟩⟩;have h1:=flat_get hk l i hi j hj;rw[<-ht,wP]at h1;have hlt:i*sz+j<l.length*sz:=bJ (show i*sz+j<(i+1)*sz by rw[tX];omega) (qM _ hi);rw[aR hlt]at h1;unfold World.cell?;simp only[hh,lu];simpa using h1
theorem dU.lit (hk:∀x,(enc x).length=sz) (W:World) (e:TypeId) (l:List α) (n:Nat) (hn:n=W.heap.size):dU enc sz (W.alloc (.cells (l.flatMap enc).toArray e)) (some (ah n 0)) l:=by
 refine .inr ⟨_,0,rfl,by simp;omega,fun i hi j hj=>?_⟩;rw[fw _ _ _ _ hn,lu];simpa using flat_get hk l i hi j hj
end
section
variable {P:Program} {ops:Array Oper} {rest:List Oper} {o:Oper} {a:Act} {Q:Exit->Act->World->Prop}
theorem jc {α:Type} {enc:α->List Value} {sz:Nat} {t e:TypeId} {bytes:Nat} (E:eQ P t e sz bytes) (hk:∀x,(enc x).length=sz) (h1:∀x,∀u∈enc x,u.oneCell'=true) (base:Nat) {v:Value} {n:Nat} {xs:List Value} {W:World} (hown:W.ownsRow base e sz v n xs) {ad:Option Addr} {l:List α} (hl:dU enc sz W ad l)
  (hgd:o.guard=none) (s x:Operand) (ho:o.op=.call {callee:=.builtin .append,args:=#[s,x],argTypes:=#[t,t]})
  (hs:a.eval s=v) (c:Nat) (hx:a.eval x=.slice ad l.length c) (h63:n+l.length<=maxLen) (hbytes:(n+l.length)*bytes<=140737488355328) (hbase:base<=W.heap.size)
  (h:∀v' w',w'.ownsRow base e sz v' (n+l.length) (xs++l.flatMap enc)->W.grownBy w' v.ownBlock->wpList P ops Q rest (a.put o.dst v') w'):wpList P ops Q (o::rest) a W:=by
 rcases hl with rfl|⟨b,off,rfl,hb,hc⟩
 .refine Au hgd fun K hK=>?_;have hr:=nU (ty:=o.type) E hown ad c;have OL:a.eval x=.slice ad 0 c:=hx;have hk:=hK _ _ (h v W (by simpa using hown) ⟨rfl,rfl,rfl,aG _,fun _ _ _=>rfl⟩);unfold Oper.wp execOp;simp only[ho,resolve,invoke,builtin,Av,Aw,Aa,IW,mY,qX,hs,OL,hr];exact hk
 .obtain⟨ht,⟨i,z,hi,hz,hsize,hby,hzs⟩,hsz⟩:=E;refine wpList_append_own _ hgd s x t ho base e i z sz bytes ht hi hz hsize hby hzs hsz v n xs hs hown (ah b off) l.length c (l.flatMap enc) hx (iw hk l) ?_ ?_ h63 hbytes hbase ?_
  .intro j u hu;have j6:((ah b off):Addr).add j=(ah b (off+j)):=by unfold Addr.add;split<;>simp_all
   rw[j6];have hj:j<l.length*sz:=by
    have:=(gD.1 hu).1;rw[iw hk]at this;exact this
   have hi':j/sz<l.length:=(Nat.div_lt_iff_lt_mul hsz).2 hj;have h2:=hc (j/sz) hi' (j%sz) (tY _ hsz);have h3:=flat_get hk l (j/sz) hi' (j%sz) (tY _ hsz);have e1:j/sz*sz+j%sz=j:=by rw[Ea];exact Nat.div_add_mod j sz
   rw[e1]at h3;rw[Al,e1]at h2;rw[h2,<-h3];exact hu
  .intro u hu;obtain⟨y,_,hy⟩:=IX.1 hu;exact h1 y u hy
  .intro v' w' h2 h3 _;exact h v' w' h2 h3
end
structure bg (w:World) where
 W:World
 h:Below w.heap.size w W
instance agd (w:World):Inhabited (bg w):=⟨⟨w,aM _ _⟩⟩
theorem cO {P:Program} {id:Nat} {Q:Exit->Act->World->Prop} {a:Act} {w:World} {l:List Oper} (hm:P.follows .mixedOrders=true) (hB:Region.lexB .any l.toArray=true)
  (h:wpQuiet P l.toArray (fun w'=>∃p:bg w,w'=p.W) (fun a'=>∀w',(∃p:bg w,w'=p.W)->Q .normal a' w') l a):(Code.region id l.toArray true).wp P Q a w:=
 wp_region_quiet (C:=fun w'=>∃p:bg w,w'=p.W) hm hB ⟨⟨w.drew,(aM _ _).drew⟩,rfl⟩ (by simpa using h)
theorem eO {P:Program} {f:FuncId} {args:Array Value} {w:World} {p:bg w} {v:Value}
  (h:Calls P f args p.W fun e w'=>e=.returned v/\Below p.W.heap.size p.W w'):Calls P f args p.W fun e w''=>e=.returned v/\∃q:bg w,w''=q.W:=
 h.mono fun _ w' ⟨he,hb⟩=>⟨he,⟨w',p.h.trans (hb.mono p.h.size)⟩,rfl⟩
theorem aj {w:World} {ad:Addr} {v:Value} (h:w.cell? ad=some v):∀p:bg w,p.W.cell? ad=some v:=fun p=>by
 rw[p.h.cell (iD w _ h)];exact h
def Rh (W:World) (v v':Value):Prop:=v'.ownBlock=v.ownBlock\/v'.ownBlock=some W.heap.size
theorem jN {P:Program} {t ty e:TypeId} {size bytes:Nat} (E:eQ P t e size bytes) (base:Nat) {v:Value} {n:Nat} {xs:List Value} {w:World} (hown:w.ownsRow base e size v n xs)
  (a:Addr) (m c:Nat) (news:List Value) (hl:news.length=m*size) (hnews:∀j u,news[j]? =some u->w.cell? (a.add j)=some u) (h1:∀u∈news,u.oneCell'=true)
  (h63:n+m<=maxLen) (hbytes:(n+m)*bytes<=140737488355328) (hbase:base<=w.heap.size):
  ∃v' w',(Builtin.append_ #[t,t] ty #[v,.slice (some a) m c]).run P w=.ok v' w'/\w'.ownsRow base e size v' (n+m) (xs++news)/\w.grownBy w' v.ownBlock/\Rh w v v':=by
 obtain⟨ht,⟨i,z,hi,hz,hsize,hby,hzs⟩,hsz⟩:=E;obtain⟨v',w',hr,h2,h3,h4⟩:=run_append_own (P:=P) w base t ty e i z size bytes ht hi hz hsize hby hzs hsz v n xs hown a m c news hl hnews h1 h63 hbytes hbase;refine⟨v',w',hr,h2,h3,?_⟩;subst hsize;subst hby;have WE:n+m<=9223372036854775807:=by simp only[maxLen]at h63;omega
 rcases hown.2 with⟨rfl,rfl⟩|⟨g,cap,cur,rfl,hbg,hg,hnc,hcm,hcs,aw0⟩
 .by_cases hm:m=0
  .rw[h4.2 ⟨rfl,hm⟩];exact .inl rfl
  .have hr2:=run_append_nil (P:=P) w t ty e i z ht hi hz a m c news hl hnews (by omega) (by omega) (by simp only[lu]at hbytes;omega);rw[hr]at hr2;injection hr2 with h5 _;rw[h5];exact .inr rfl
 .by_cases hroom:n+m<=cap
  .have arG:n*i.size+news.length<=cur.size:=by rw[hl,hcs,<-tX];exact qM _ hroom
   have hr2:=run_append_room (P:=P) w t ty e i ht hi g n cap cur hg a m c news hl hnews h1 hroom arG;rw[hr]at hr2;injection hr2 with h5 _;rw[h5];exact .inl rfl
  .have holds:∀j u,xs[j]? =some u->w.cell? (((ah g 0):Addr).add j)=some u:=hown.cells (g:=g) rfl;have hr2:=run_append_grow (P:=P) w t ty e i z ht hi hz (ah g 0) n cap xs hown.1 holds a m c news hl hnews (by omega) (by omega) (growslice_fits (by omega) hbytes);rw[hr]at hr2;injection hr2 with h5 _;rw[h5];exact .inr rfl
theorem gm {w:World} {o:Obj} {v v':Value} (h:Rh (w.alloc o) v v'):v'.ownBlock=v.ownBlock\/∃b,v'.ownBlock=some b/\w.heap.size<=b:=by
 rcases h with h|h
 .exact .inl h
 .exact .inr ⟨_,h,by simp⟩
section
variable {P:Program} {ops:Array Oper} {rest:List Oper} {o:Oper} {a:Act} {Q:Exit->Act->World->Prop}
theorem cz {t e:TypeId} {size bytes:Nat} (E:eQ P t e size bytes) (base:Nat) {v:Value} {n:Nat} {xs:List Value} {W:World} (hown:W.ownsRow base e size v n xs) (us:List Value) (hus:us.length=size) (h1:∀u∈us,u.oneCell'=true)
  (hgd:o.guard=none) (s x:Operand) (ho:o.op=.call {callee:=.builtin .append,args:=#[s,x],argTypes:=#[t,t]})
  (hs:a.eval s=v) (e':TypeId) (hx:a.eval x=aD W.heap.size 1 1) (h63:n+1<=maxLen) (hbytes:(n+1)*bytes<=140737488355328) (hbase:base<=W.heap.size)
  (h:∀v' w',w'.ownsRow base e size v' (n+1) (xs++us)->W.grownBy w' v.ownBlock->Rh (W.alloc (.cells us.toArray e')) v v'->wpList P ops Q rest (a.put o.dst v') w'):wpList P ops Q (o::rest) a (W.alloc (.cells us.toArray e')):=by
 refine Au hgd fun K hK=>?_;obtain⟨v',w',hr,h2,h3,h4⟩:=jN (ty:=o.type) E base (hown.alloc (.cells us.toArray e')) (ah W.heap.size 0) 1 1 us (by omega) (by
  intro j u hu;have j6:((ah W.heap.size 0):Addr).add j=(ah W.heap.size j):=by unfold Addr.add;split<;>simp_all
  rw[j6,fw _ _ _ _ (by rfl)];simpa using hu) h1 h63 hbytes (by simp;omega)
 have hk:=hK _ _ (h v' w' h2 (dP (sO W _ none) h3) h4);unfold Oper.wp execOp;simp only[ho,resolve,invoke,builtin,Av,Aw,Aa,IW,mY,qX,hs,hx,hr];exact hk
theorem oZ {α:Type} {enc:α->List Value} {sz:Nat} {t e:TypeId} {bytes:Nat} (E:eQ P t e sz bytes) (hk:∀x,(enc x).length=sz) (h1:∀x,∀u∈enc x,u.oneCell'=true) (base:Nat) {v:Value} {n:Nat} {xs:List Value} {W:World} (hown:W.ownsRow base e sz v n xs) {ad:Option Addr} {l:List α} (hl:dU enc sz W ad l)
  (hgd:o.guard=none) (s x:Operand) (ho:o.op=.call {callee:=.builtin .append,args:=#[s,x],argTypes:=#[t,t]})
  (hs:a.eval s=v) (c:Nat) (hx:a.eval x=.slice ad l.length c) (h63:n+l.length<=maxLen) (hbytes:(n+l.length)*bytes<=140737488355328) (hbase:base<=W.heap.size)
  (h:∀v' w',w'.ownsRow base e sz v' (n+l.length) (xs++l.flatMap enc)->W.grownBy w' v.ownBlock->Rh W v v'->wpList P ops Q rest (a.put o.dst v') w'):wpList P ops Q (o::rest) a W:=by
 refine Au hgd fun K hK=>?_;rcases hl with rfl|⟨b,off,rfl,hb,hc⟩
 .have hr:=nU (ty:=o.type) E hown ad c;have OL:a.eval x=.slice ad 0 c:=hx;have hk:=hK _ _ (h v W (by simpa using hown) ⟨rfl,rfl,rfl,aG _,fun _ _ _=>rfl⟩ (.inl rfl));unfold Oper.wp execOp;simp only[ho,resolve,invoke,builtin,Av,Aw,Aa,IW,mY,qX,hs,OL,hr];exact hk
 .obtain⟨v',w',hr,h2,h3,h4⟩:=jN (ty:=o.type) E base hown (ah b off) l.length c (l.flatMap enc) (iw hk l) (by
   intro j u hu;have j6:((ah b off):Addr).add j=(ah b (off+j)):=by unfold Addr.add;split<;>simp_all
   rw[j6];have hj:j<l.length*sz:=by
    have:=(gD.1 hu).1;rw[iw hk]at this;exact this
   have hsz:0<sz:=E.hsz;have hi':j/sz<l.length:=(Nat.div_lt_iff_lt_mul hsz).2 hj;have h2:=hc (j/sz) hi' (j%sz) (tY _ hsz);have h3:=flat_get hk l (j/sz) hi' (j%sz) (tY _ hsz);have e1:j/sz*sz+j%sz=j:=by rw[Ea];exact Nat.div_add_mod j sz
   rw[e1]at h3;rw[Al,e1]at h2;rw[h2,<-h3];exact hu) (by
   intro u hu;obtain⟨y,_,hy⟩:=IX.1 hu;exact h1 y u hy) h63 hbytes hbase
  have hk:=hK _ _ (h v' w' h2 h3 h4);unfold Oper.wp execOp;simp only[ho,resolve,invoke,builtin,Av,Aw,Aa,IW,mY,qX,hs,hx,hr];exact hk
end
theorem bf {w:World} {base:Nat} {e:TypeId} {size:Nat} {v:Value} {n:Nat} {xs:List Value} (h:w.ownsRow base e size v n xs) (h0:0<n):∃g c,v=aD g n c/\base<=g/\g<w.heap.size/\n<=c/\c<=maxLen:=by
 rcases h.2 with⟨_,h1⟩|⟨g,cap,cur,rfl,h2,h3,h4,h5,_⟩
 .omega
 .exact⟨g,cap,rfl,h2,(bn.1 h3).1,h4,h5⟩
theorem bB {w w':World} {base:Nat} {e:TypeId} {size n:Nat} {v:Value} {xs:List Value} (h:w.ownsRow base e size v n xs) (he:∀gb,v.ownBlock=some gb->w'.heap[gb]? =w.heap[gb]?):w'.ownsRow base e size v n xs:=by
 obtain⟨h1,h2⟩:=h;refine⟨h1,?_⟩;rcases h2 with h|⟨g,cap,cur,rfl,hg,hh,r⟩
 .exact .inl h
 .exact .inr ⟨g,cap,cur,rfl,hg,(he g rfl).trans hh,r⟩
theorem aH {w:World} {a:Addr} {v:Value} {b:Nat} (h:a.block≠b):(w.setCell a v).heap[b]? =w.heap[b]? :=Below.heap_setCell w a v b (jb h)
theorem yA {w:World} {base g n c m:Nat} {e:TypeId} {size:Nat} {xs:List Value} (h:w.ownsRow base e size (aD g n c) n xs) (hm:m<=n):w.ownsRow base e size (aD g m c) m (xs.take (m*size)):=by
 obtain⟨h1,h2⟩:=h;have hle:m*size<=n*size:=qM _ hm;refine⟨by rw[eF,h1];omega,?_⟩;rcases h2 with⟨h,_⟩|⟨g',cap,cur,h3,hg,hh,hc,hx,hs,ht⟩
 .cases h
 .injection h3 with e1 e2 e3;injection e1 with e1;injection e1 with e1 _ _;subst e1 e3;refine .inr ⟨g,c,cur,rfl,hg,hh,by omega,hx,hs,?_⟩;have:=congrArg (List.take (m*size)) ht;rw[D7,Nat.min_eq_left hle]at this;exact this
structure aC (S:Nat->Prop) (W w':World):Prop where
 os:w'.os=W.os
 tape:w'.tape=W.tape
 output:w'.output=W.output
 size:W.heap.size<=w'.heap.size
 block:∀k,k<W.heap.size->¬S k->w'.heap[k]? =W.heap[k]?
theorem aC.refl (S:Nat->Prop) (W:World):aC S W W:=⟨rfl,rfl,rfl,aG _,fun _ _ _=>rfl⟩
theorem aC.trans {S:Nat->Prop} {W w1 w2:World} (h:aC S W w1) (h2:aC S w1 w2):aC S W w2:=
 ⟨h2.os.trans h.os,h2.tape.trans h.tape,h2.output.trans h.output,bO h.size h2.size,fun k hk hs=>(h2.block k (bJ hk h.size) hs).trans (h.block k hk hs)⟩
theorem aC.below {S:Nat->Prop} {W w1 w2:World} (h:aC S W w1) (h2:Below w1.heap.size w1 w2):aC S W w2:=
 ⟨h2.os.trans h.os,h2.tape.trans h.tape,h2.output.trans h.output,bO h.size h2.size,fun k hk hs=>(h2.block k (bJ hk h.size)).trans (h.block k hk hs)⟩
theorem aC.grown {S:Nat->Prop} {W w1 w2:World} {r:Option Nat} (h:aC S W w1) (h2:w1.grownBy w2 r) (hr:∀k,r=some k->S k\/W.heap.size<=k):aC S W w2:=
 ⟨h2.os.trans h.os,h2.tape.trans h.tape,h2.output.trans h.output,bO h.size h2.size,fun k hk hs=>(h2.block k (bJ hk h.size) (fun e=>by rcases hr k e.symm with h9|h9;exact hs h9;omega)).trans (h.block k hk hs)⟩
theorem aC.set {S:Nat->Prop} {W w1:World} (h:aC S W w1) {a:Addr} (v:Value) (ha:S a.block\/W.heap.size<=a.block):aC S W (w1.setCell a v):=
 ⟨h.os,h.tape,h.output,by simpa using h.size,fun k hk hs=>(aH (fun e=>by rcases ha with h9|h9;exact hs (e▸h9);omega)).trans (h.block k hk hs)⟩
theorem aC.drew {S:Nat->Prop} {W w1:World} (h:aC S W w1):aC S W w1.drew:=⟨h.os,h.tape,h.output,h.size,h.block⟩
theorem aC.mono {S S':Nat->Prop} {W w1:World} (h:aC S W w1) (hs:∀k,S k->S' k):aC S' W w1:=⟨h.os,h.tape,h.output,h.size,fun k hk h9=>h.block k hk fun h8=>h9 (hs k h8)⟩
theorem aC.toBelow {S:Nat->Prop} {B:Nat} {W w1:World} (h:aC S W w1) (hB:B<=W.heap.size) (hs:∀k,S k->B<=k):Below B W w1:=⟨h.os,h.tape,h.output,h.size,fun k hk=>h.block k (by omega) fun h9=>by have:=hs k h9;omega⟩
theorem bR {w:World} {base base':Nat} {e:TypeId} {size:Nat} {v:Value} {n:Nat} {xs:List Value} (h:w.ownsRow base e size v n xs) (hb:base'<=base):w.ownsRow base' e size v n xs:=by
 obtain⟨h1,h2⟩:=h;refine⟨h1,?_⟩;rcases h2 with h2|⟨g,cap,cur,hv,hg,r⟩
 .exact .inl h2
 .exact .inr ⟨g,cap,cur,hv,bO hb hg,r⟩
section
variable {P:Program} {ops:Array Oper} {o:Oper} {a:Act} {K:Act->World->Prop} {Q:Exit->Act->World->Prop} {E0:Prop}
theorem bM {t e e':TypeId} {size bytes:Nat} {fr:Nat×Nat} (E:eQ P t e size bytes) (base:Nat) {v:Value} {n:Nat} {xs:List Value} {w:World} (hown:w.ownsRow base e size v n xs) (us:List Value) (hus:us.length=size) (h1:∀u∈us,u.oneCell'=true)
  (hgd:o.guard=none) (s x:Operand) (ho:o.op=.call {callee:=.builtin .append,args:=#[s,x],argTypes:=#[t,t]}) (hs:a.eval s=v) (g0:Nat) (hx:a.eval x=aD g0 1 1) (hg0:w.heap[g0]? =some (Obj.cells us.toArray e' fr))
  (h63:n+1<=maxLen) (hbytes:(n+1)*bytes<=140737488355328) (hbase:base<=w.heap.size)
  (h:∀g cap w',w'.ownsRow base e size (aD g (n+1) cap) (n+1) (xs++us)->w.grownBy w' v.ownBlock->(v.ownBlock=some g\/g=w.heap.size)->g<w'.heap.size->K (a.put o.dst (aD g (n+1) cap)) w'):
  if Region.wanted o (yielded ops a.tmps)=true then Oper.wp P o a w K Q else E0:=by
 obtain⟨ht,⟨i,z,hi,hz,hsize,hby,hzs⟩,hsz⟩:=E;exact step_append_lies w hgd s x t ho base e i z size bytes ht hi hz hsize hby hzs hsz v n xs hs hown (ah g0 0) 1 1 us hx (by omega) (World.news_of_block (cs:=us.toArray) hg0) h1 (by decide) h63 hbytes hbase w.heap.size rfl h
theorem bD {f:FuncId} {w:World} {vals:Array Value} {R:Ending->World->Prop} (hen:∀args w,(callFunc f args).run P w=.ok (.enter f args) w) (hgd:o.guard=none) (args:Array Operand) (tys:Array TypeId) (ho:o.op=.call {callee:=.value (.func f),args:=args,argTypes:=tys}) (xz:vals=(args.toList.map a.eval).toArray)
  (C:Calls P f vals w R) (h:∀e w',R e w'->∃v,e=.returned v/\K (a.put o.dst v) w'):
  if Region.wanted o (yielded ops a.tmps)=true then Oper.wp P o a w K Q else E0:=by
 have hw:Region.wanted o (yielded ops a.tmps)=true:=by simp[Region.wanted,hgd]
 rw[aR hw];unfold Oper.wp;have BO:args.map a.eval=vals:=by rw[xz,<-IY]
 have he:(execOp a.eval o).run P w=.ok (.enter f vals) w:=by
  simp[execOp,ho,resolve,invoke,BO,Act.eval,Deferred.ofValue,hen]
 rw[he,Oper.upon_enter];refine C.mono fun e w' hr=>?_;obtain⟨v,rfl,hk⟩:=h e w' hr;exact hk
end
theorem aC.alloc {S:Nat->Prop} {W w1:World} (h:aC S W w1) (o:Obj):aC S W (w1.alloc o):=h.below ((aM _ _).alloc (aG _) _)
theorem aY {S:Nat->Prop} {W W':World} {base:Nat} {e:TypeId} {sz:Nat} {v:Value} {n:Nat} {xs:List Value} (h:W.ownsRow base e sz v n xs) (K:aC S W W') (hS:∀gb,v.ownBlock=some gb->¬S gb):W'.ownsRow base e sz v n xs:=
 bB h fun gb e=>K.block gb (h.lt gb e).2 (hS gb e)
theorem bL {S:Nat->Prop} {W W':World} (K:aC S W W') {b:Nat} {o:Obj} (h:W.heap[b]? =some o) (hS:¬S b):W'.heap[b]? =some o:=(K.block b (bn.1 h).1 hS).trans h
theorem di {S:Nat->Prop} {W W':World} (K:aC S W W') {b:Nat} (hb:b<W.heap.size) (hS:¬S b):(∀o,W'.cell? (ah b o)=W.cell? (ah b o))/\(∀o,W'.frozen? (ah b o)=W.frozen? (ah b o)):=
 ⟨fun o=>dX (K.block b hb hS),fun o=>Dr (K.block b hb hS)⟩
theorem dE (w:World) (o:Obj):(w.alloc o).heap[w.heap.size]? =some o:=wO w o
theorem OM (w:World) (o o2:Obj):((w.alloc o).alloc o2).heap[w.heap.size]? =some o:=(dB _ _ _ (by simp)).trans (dE w o)
theorem Jb (w:World) (o o2:Obj):((w.alloc o).alloc o2).heap[w.heap.size+1]? =some o2:=by
 have:=dE (w.alloc o) o2;rwa [show(w.alloc o).heap.size=w.heap.size+1 by simp]at this
theorem lX (w:World) (o:Obj):(w.alloc o).drew.heap[w.heap.size]? =some o:=dE w o
theorem GQ (w:World) (o o2:Obj):((w.alloc o).alloc o2).drew.heap[w.heap.size]? =some o:=OM w o o2
theorem GR (w:World) (o o2:Obj):((w.alloc o).alloc o2).drew.heap[w.heap.size+1]? =some o2:=Jb w o o2
section
variable {W:World} {base:Nat}
theorem bH {e t:TypeId} {sz k X:Nat} {v:Value} {xs:List Value} {cs:Array Value} {fr:Nat×Nat} (h:W.ownsRow base e sz v k xs) (hX:W.heap[X]? =some (Obj.cells cs t fr)) (hte:t≠e):∀gb,v.ownBlock=some gb->X≠gb:=by
 rintro gb he rfl;rcases h.2 with⟨rfl,_⟩|⟨g,cap,cur,rfl,_,hh,_⟩
 .cases he
 .simp only[Value.ownBlock,jB]at he;subst he;rw[hX]at hh;injection hh with hh;injection hh with _ hh _;exact hte hh
theorem dV {X Y:Nat} {cs cs':Array Value} {t t':TypeId} {fr fr':Nat×Nat} (hX:W.heap[X]? =some (Obj.cells cs t fr)) (hY:W.heap[Y]? =some (Obj.cells cs' t' fr')) (h:t≠t'):X≠Y:=by
 rintro rfl;rw[hX]at hY;injection hY with hY;injection hY with _ hY _;exact h hY
theorem bK {akY akZ:Nat} {e e':TypeId} {sz sz' k k':Nat} {v v':Value} {xs xs':List Value} (h:W.ownsRow akY e sz v k xs) (h':W.ownsRow akZ e' sz' v' k' xs') (hte:e≠e'):∀gb,v.ownBlock=some gb->v'.ownBlock≠some gb:=by
 intro gb he he';rcases h'.2 with⟨rfl,_⟩|⟨g,cap,cur,rfl,_,hh,_⟩
 .cases he'
 .simp only[Value.ownBlock,jB]at he';subst he';exact bH h hh (jb hte) _ he rfl
theorem aC.strip {S:Nat->Prop} {w1:World} (h:aC (fun k=>S k\/W.heap.size<=k) W w1):aC S W w1:=⟨h.os,h.tape,h.output,h.size,fun k hk hn=>h.block k hk fun h9=>by rcases h9 with h9|h9;exact hn h9;omega⟩
end
end Go.Proofs.YtkjdbndekceffaaGreat
namespace Go.Proofs.YtkjdbndekceffaaGreat
open Go.RowKit Go.Sort Go.Shelf Go.Lib Go.Maps
def gu (l:List Int):List Int:=l.mergeSort fun x y=>decide (x<=y)
theorem jK (l:List Int):(gu l).length=l.length:=(sP l _).length_eq
theorem Jc {w:World} {base n:Nat} {v:Value} {l:List Int} (h:w.ownsRow base 27 1 v n (l.map (Value.int .u32))) (hn:n<=1000000):
  aO 64 #[v] w fun e w'=>e=.returned (.tuple #[])/\w'.ownsRow base 27 1 v n ((gu l).map (Value.int .u32))/\aC (fun k=>v.ownBlock=some k) w w':=by
 have hl:l.length=n:=by have:=h.1;simpa using this
 obtain⟨h1,h2⟩:=h;rcases h2 with⟨rfl,h0⟩|⟨g,cap,cur,rfl,hg,hh,hc,hm,hs,ht⟩
 .subst h0;refine(Li none 0 w).mono ?_;rintro e w' ⟨rfl,rfl⟩;have:l=[]:=jw hl;subst this;exact⟨rfl,by simpa[gu]using dL w' base 27 1,aC.refl _ _⟩
 .subst hl;rw[lC]at ht;have hlt:g<w.heap.size:=(bn.1 hh).1;refine(agc g 0 cap l w (holds_of_block hh ht) hlt (by omega)).mono ?_;rintro e w' ⟨rfl,q,os,rfl⟩;obtain⟨cur',-,-,-,h9⟩:=uf (l':=gu l) hg hh (by omega) hm (by omega) (jK l) q os;rw[jK]at h9;refine⟨rfl,h9,rfl,rfl,rfl,?_,fun k hk hn=>?_⟩
  .show w.heap.size<=((w.heap.modify g _)++os).size;simp
  .have hne:g≠k:=fun e=>hn (by rw[e];rfl);show((w.heap.modify g _)++os)[k]? =_;rw[zQ (by simp;omega),zS,aP hne]
end Go.Proofs.YtkjdbndekceffaaGreat
set_option autoImplicit false
namespace Go.Proofs.YtkjdbndekceffaaGreat
open Go
inductive FT where
 |leaf (a:Nat)
 |node (l r:FT)
namespace FT
def lo:FT->Nat
 |leaf a=>a
 |node l _=>l.lo
def hi:FT->Nat
 |leaf a=>a+1
 |node _ r=>r.hi
def size:FT->Nat
 |leaf _=>1
 |node l r=>l.size+r.size+1
def ht:FT->Nat
 |leaf _=>0
 |node l r=>max l.ht r.ht+1
def wf:FT->Prop
 |leaf _=>True
 |node l r=>l.wf/\r.wf/\l.hi=r.lo
theorem size_pos (t:FT):0<t.size:=by cases t<;>simp[size]
theorem fe:∀(t:FT),t.wf->t.lo<t.hi
 |leaf a,_=>by simp[lo,hi]
 |node l r,h=>by
  have h1:=fe l h.1;have h2:=fe r h.2.1;have h3:=h.2.2;simp only[lo,hi];omega
theorem size_eq:∀(t:FT),t.wf->t.size+1=2*(t.hi-t.lo)
 |leaf a,_=>by simp only[size,lo,hi];omega
 |node l r,h=>by
  have h1:=size_eq l h.1;have h2:=size_eq r h.2.1;have h3:=h.2.2;have h4:=fe l h.1;have h5:=fe r h.2.1;simp only[size,lo,hi];omega
end FT
def dO (a n:Nat):FT:=
 if h:n<=1 then .leaf a else .node (dO a (n-n/2)) (dO (a+(n-n/2)) (n/2))
 termination_by n
 decreasing_by all_goals omega
theorem CW (a n:Nat) (h:n<=1):dO a n=.leaf a:=by rw[dO,dif_pos h]
theorem Jd (a n:Nat) (h:1<n):dO a n=.node (dO a (n-n/2)) (dO (a+(n-n/2)) (n/2)):=by rw[dO,dif_neg (by omega)]
theorem bT (a n:Nat) (h:0<n):(dO a n).wf/\(dO a n).lo=a/\(dO a n).hi=a+n:=by
 induction n using Nat.strongRecOn generalizing a with
 |ind n ih=>
  by_cases h1:n<=1
  .rw[CW a n h1];exact⟨trivial,rfl,by simp only[FT.hi];omega⟩
  .rw[Jd a n (by omega)];obtain⟨w1,l1,r1⟩:=ih (n-n/2) (by omega) a (by omega);obtain⟨w2,l2,r2⟩:=ih (n/2) (by omega) (a+(n-n/2)) (by omega);exact⟨⟨w1,w2,by rw[r1,l2]⟩,l1,by simp only[FT.hi];rw[r2];omega⟩
theorem fB (a n:Nat) (h:0<n):(dO a n).size=2*n-1:=by
 obtain⟨w,l,r⟩:=bT a n h;have:=FT.size_eq _ w;omega
theorem xA (a n k:Nat) (h:n<=2^k):(dO a n).ht<=k:=by
 induction k generalizing a n with
 |zero=>rw[CW a n (by simpa using h)];exact aG _
 |succ k ih=>
  by_cases h1:n<=1
  .rw[CW a n h1];exact bC _
  .rw[Jd a n (by omega)];rw[Nat.pow_succ]at h;have i1:=ih a (n-n/2) (by omega);have i2:=ih (a+(n-n/2)) (n/2) (by omega);simp only[FT.ht];omega
structure Nd where
 kind:Int
 l:Int
 r:Int
 fr:Int
 Ri:Int
 item:Int
namespace FT
def nodes:FT->Nat->List Nd
 |leaf a,_=>[⟨1,-1,-1,a,(a:Int)+1,a⟩]
 |node l r,s=>l.nodes s++r.nodes (s+l.size)++[⟨2,((s+l.size:Nat):Int)-1,((s+l.size+r.size:Nat):Int)-1,l.lo,r.hi,0⟩]
theorem iQ:∀(t:FT) (s:Nat),(t.nodes s).length=t.size
 |leaf a,_=>rfl
 |node l r,s=>by
  simp only[nodes,size,bF,iQ l,iQ r,fU,iG]
def At (N:List Nd) (t:FT) (s:Nat):Prop:=∃A B,N=A++t.nodes s++B/\A.length=s
theorem At.left {N:List Nd} {l r:FT} {s:Nat} (h:At N (node l r) s):At N l s:=by
 obtain⟨A,B,e,hA⟩:=h;exact⟨A,r.nodes (s+l.size)++([⟨2,((s+l.size:Nat):Int)-1,((s+l.size+r.size:Nat):Int)-1,l.lo,r.hi,0⟩]++B),by rw[e,nodes];simp only[ek],hA⟩
theorem At.right {N:List Nd} {l r:FT} {s:Nat} (h:At N (node l r) s):At N r (s+l.size):=by
 obtain⟨A,B,e,hA⟩:=h;exact⟨A++l.nodes s,[⟨2,((s+l.size:Nat):Int)-1,((s+l.size+r.size:Nat):Int)-1,l.lo,r.hi,0⟩]++B,by rw[e,nodes];simp only[ek],by rw[bF,iQ,hA]⟩
def root (t:FT) (s:Nat):Nat:=s+t.size-1
def top:FT->Nat->Nd
 |leaf a,_=>⟨1,-1,-1,a,(a:Int)+1,a⟩
 |node l r,s=>⟨2,((s+l.size:Nat):Int)-1,((s+l.size+r.size:Nat):Int)-1,l.lo,r.hi,0⟩
theorem Je (t:FT) (s:Nat):(t.top s).fr=t.lo:=by cases t<;>rfl
theorem xB (t:FT) (s:Nat):(t.top s).Ri=t.hi:=by cases t<;>simp[top,hi]
theorem OO:∀(t:FT) (s:Nat),∃P,t.nodes s=P++[t.top s]/\P.length+1=t.size
 |leaf a,s=>⟨[],rfl,rfl⟩
 |node l r,s=>⟨l.nodes s++r.nodes (s+l.size),rfl,by simp only[bF,iQ,size]⟩
theorem At.get {N:List Nd} {t:FT} {s:Nat} (h:At N t s):N[t.root s]? =some (t.top s):=by
 obtain⟨A,B,e,hA⟩:=h;obtain⟨P,hP,hl⟩:=OO t s;unfold root;rw[e,hP,ek,ek,oO (by omega),oO (by omega)];have:s+t.size-1-A.length-P.length=0:=by omega
 rw[this];rfl
theorem At.lt {N:List Nd} {t:FT} {s:Nat} (h:At N t s):t.root s<N.length:=(gD.1 h.get).1
def canon:FT->Nat->Nat->Nat->List Nat×Nat
 |t@(leaf _),s,a,b=>if t.hi<=a\/b<=t.lo then([],1)else([t.root s],1)
 |t@(node l r),s,a,b=>if t.hi<=a\/b<=t.lo then([],1)else if a<=t.lo/\t.hi<=b then([t.root s],1)else((l.canon s a b).1++(r.canon (s+l.size) a b).1,(l.canon s a b).2+(r.canon (s+l.size) a b).2+1)
theorem iR {t:FT} {s a b:Nat} (h:t.hi<=a\/b<=t.lo):t.canon s a b=([],1):=by
 cases t<;>(rw[canon,aR h])
theorem ug {t:FT} {s a b:Nat} (h0:¬(t.hi<=a\/b<=t.lo)) (h:a<=t.lo/\t.hi<=b):t.canon s a b=([t.root s],1):=by
 cases t with
 |leaf x=>rw[canon,aP h0]
 |node l r=>rw[canon,aP h0,aR h]
theorem nV {l r:FT} {s a b:Nat} (h0:¬((node l r).hi<=a\/b<=(node l r).lo)) (h:¬(a<=(node l r).lo/\(node l r).hi<=b)):(node l r).canon s a b=((l.canon s a b).1++(r.canon (s+l.size) a b).1,(l.canon s a b).2+(r.canon (s+l.size) a b).2+1):=by
 rw[canon,aP h0,aP h]
theorem GU {t:FT} {s a b:Nat} (h:a<=t.lo/\t.hi<=b):(t.canon s a b).2=1:=by
 by_cases h0:t.hi<=a\/b<=t.lo
 .rw[iR h0]
 .rw[ug h0 h]
theorem GV (t:FT) (hw:t.wf) (s a b:Nat) (h:a<=t.lo\/t.hi<=b):(t.canon s a b).2<=2*t.ht+1:=by
 induction t generalizing s with
 |leaf x=>
  rw[canon];split<;>simp[ht]
 |node l r il ir=>
  by_cases h0:(node l r).hi<=a\/b<=(node l r).lo
  .rw[iR h0];simp
  .by_cases h1:a<=(node l r).lo/\(node l r).hi<=b
   .rw[ug h0 h1];simp
   .rw[nV h0 h1];simp only[ht];obtain⟨w1,w2,e⟩:=hw;have q1:=fe l w1;have q2:=fe r w2;simp only[lo,hi]at h h0 h1;rcases h with h|h
    .have hr:=ir w2 (s+l.size) (.inl (by omega));have hl:=il w1 s (.inl h);by_cases hb:l.hi<=b
     .have:=GU (t:=l) (s:=s) (a:=a) (b:=b) ⟨h,hb⟩;omega
     .have:=iR (t:=r) (s:=s+l.size) (a:=a) (b:=b) (.inr (by omega));rw[this];show(l.canon s a b).2+1+1<=_;omega
    .have hr:=ir w2 (s+l.size) (.inr h);have hl:=il w1 s (.inr (by omega));by_cases ha:a<=r.lo
     .have:=GU (t:=r) (s:=s+l.size) (a:=a) (b:=b) ⟨ha,h⟩;omega
     .have:=iR (t:=l) (s:=s) (a:=a) (b:=b) (.inl (by omega));rw[this];show 1+(r.canon (s+l.size) a b).2+1<=_;omega
theorem Ed (t:FT) (hw:t.wf) (s a b:Nat):(t.canon s a b).2<=4*t.ht+1:=by
 induction t generalizing s with
 |leaf x=>
  rw[canon];split<;>simp[ht]
 |node l r il ir=>
  by_cases h0:(node l r).hi<=a\/b<=(node l r).lo
  .rw[iR h0];simp
  .by_cases h1:a<=(node l r).lo/\(node l r).hi<=b
   .rw[ug h0 h1];simp
   .rw[nV h0 h1];simp only[ht];obtain⟨w1,w2,e⟩:=hw;have q1:=fe l w1;have q2:=fe r w2;simp only[lo,hi]at h0 h1;by_cases hb:b<=r.lo
    .have:=iR (t:=r) (s:=s+l.size) (a:=a) (b:=b) (.inr hb);rw[this];have:=il w1 s;show(l.canon s a b).2+1+1<=_;omega
    .by_cases ha:l.hi<=a
     .have:=iR (t:=l) (s:=s) (a:=a) (b:=b) (.inl ha);rw[this];have:=ir w2 (s+l.size);show 1+(r.canon (s+l.size) a b).2+1<=_;omega
     .have h2:=GV l w1 s a b (.inr (by omega));have h3:=GV r w2 (s+l.size) a b (.inl (by omega));show(l.canon s a b).2+(r.canon (s+l.size) a b).2+1<=_;omega
def path:FT->Nat->Nat->List Nat
 |leaf _,s,_=>[s]
 |node l r,s,x=>(node l r).root s::(if x<l.hi then l.path s x else r.path (s+l.size) x)
theorem qj:∀(t:FT) (s x:Nat),(t.path s x).length<=t.ht+1
 |leaf _,_,_=>aG _
 |node l r,s,x=>by
  have h1:=qj l s x;have h2:=qj r (s+l.size) x;simp only[path,ht,fU];split<;>omega
theorem uV (t:FT) (s x:Nat):∃P,t.path s x=t.root s::P:=by
 cases t with
 |leaf a=>exact⟨[],by simp[path,root,size]⟩
 |node l r=>exact⟨_,rfl⟩
end FT
end Go.Proofs.YtkjdbndekceffaaGreat
set_option autoImplicit false
namespace Go.Proofs.YtkjdbndekceffaaGreat
open Go
def nl (YS:List Nat) (t:FT):List Nat:=YS.filter fun i=>decide (t.lo<=i/\i<t.hi)
def Jf (yv:Nat->Int) (y1 y2:Int) (L:List Nat):List Nat:=L.filter fun i=>decide (y1<=yv i/\yv i<=y2)
def below (yv:Nat->Int) (y:Int) (L:List Nat):Nat:=L.countP fun i=>decide (yv i<y)
def upto (yv:Nat->Int) (y:Int) (L:List Nat):Nat:=L.countP fun i=>decide (yv i<=y)
theorem uW (YS:List Nat) (l r:FT) (hw:(FT.node l r).wf):nl YS l=(nl YS (.node l r)).filter fun i=>decide (i<l.hi):=by
 unfold nl;rw[wQ];have h2:=FT.fe r hw.2.1;have h3:=hw.2.2;refine pJ fun i _=>?_;have e1:(FT.node l r).lo=l.lo:=rfl;have e2:(FT.node l r).hi=r.hi:=rfl;rw[wY,e1,e2,qQ,bZ,bZ,bZ];exact⟨fun h=>⟨by omega,by omega⟩,fun h=>by omega⟩
theorem qm (YS:List Nat) (l r:FT) (hw:(FT.node l r).wf):nl YS r=(nl YS (.node l r)).filter fun i=>!decide (i<l.hi):=by
 unfold nl;rw[wQ];have h1:=FT.fe l hw.1;have h3:=hw.2.2;refine pJ fun i _=>?_;have e1:(FT.node l r).lo=l.lo:=rfl;have e2:(FT.node l r).hi=r.hi:=rfl;rw[wY,e1,e2,qQ,bZ,bZ,qf,iE];exact⟨fun h=>⟨by omega,by omega⟩,fun h=>by omega⟩
theorem uh {p:Nat->Bool}:∀(L:List Nat),L.Pairwise (fun i k=>p k=true->p i=true)->L.take (L.countP p)=L.filter p
 |[],_=>rfl
 |i::L,h=>by
  rw[wR]at h;cases hp:p i with
  |true=>
   rw[Ou hp,List.take_succ_cons,List.filter_cons_of_pos hp,uh L h.2]
  |false=>
   have h0:∀k∈L,p k=false:=fun k hk=>by
    cases hk2:p k with
    |false=>rfl
    |true=>have:=h.1 k hk hk2;rw[hp]at this;cases this
   have h1:L.countP p=0:=List.countP_eq_zero.2 fun k hk=>by rw[h0 k hk];decide
   have h2:L.filter p=[]:=zR.2 fun k hk=>by rw[h0 k hk];decide
   rw[List.countP_cons_of_neg (by rw[hp];decide),h1,Iw (by rw[hp];decide),h2];rfl
theorem OP {yv:Nat->Int} {L:List Nat} (hs:L.Pairwise fun i k=>yv i<=yv k) (y:Int):L.take (below yv y L)=L.filter fun i=>decide (yv i<y):=
 uh L (hs.imp fun h h2=>by simp only[bZ]at*;omega)
theorem GX {yv:Nat->Int} {L:List Nat} (hs:L.Pairwise fun i k=>yv i<=yv k) (y:Int):L.take (upto yv y L)=L.filter fun i=>decide (yv i<=y):=
 uh L (hs.imp fun h h2=>by simp only[bZ]at*;omega)
theorem Lj {p:Nat->Bool} (L:List Nat) (h:L.Pairwise fun i k=>p k=true->p i=true):L.drop (L.countP p)=L.filter fun i=>!p i:=by
 induction L with
 |nil=>rfl
 |cons i L ih=>
  rw[wR]at h;cases hp:p i with
  |true=>
   rw[Ou hp,List.drop_succ_cons,Iw (by rw[hp];decide),ih h.2]
  |false=>
   have h0:∀k∈L,p k=false:=fun k hk=>by
    cases hk2:p k with
    |false=>rfl
    |true=>have:=h.1 k hk hk2;rw[hp]at this;cases this
   have h1:L.countP p=0:=List.countP_eq_zero.2 fun k hk=>by rw[h0 k hk];decide
   rw[List.countP_cons_of_neg (by rw[hp];decide),h1,lI,qc.2];intro k hk;rcases mZ.1 hk with rfl|hk
   .rw[hp];rfl
   .rw[h0 k hk];rfl
theorem GY {yv:Nat->Int} {L:List Nat} (hs:L.Pairwise fun i k=>yv i<=yv k) (y1 y2:Int) (h:y1<=y2):(L.take (upto yv y2 L)).drop (below yv y1 L)=Jf yv y1 y2 L:=by
 rw[GX hs];have e:below yv y1 L=below yv y1 (L.filter fun i=>decide (yv i<=y2)):=by
  unfold below;rw[Dz];refine DL fun i _=>?_;simp only[qQ,bZ];omega
 rw[e];unfold below;rw[Lj _ ((hs.filter _).imp fun h h2=>by simp only[bZ]at*;omega),wQ];unfold Jf;refine pJ fun i _=>?_;simp only[<-decide_not,<-Bool.decide_and,wW];omega
theorem below_le {yv:Nat->Int} {L:List Nat} {y1 y2:Int} (h:y1<=y2):below yv y1 L<=upto yv y2 L:=by
 unfold below upto;exact List.countP_mono_left fun i _ h2=>by simp only[bZ]at*;omega
theorem yB {yv:Nat->Int} {L:List Nat} {y:Int}:upto yv y L<=L.length:=Ov
theorem GZ {yv:Nat->Int} {L:List Nat} {y:Int}:below yv y L<=L.length:=Ov
theorem ab6 {yv:Nat->Int} {L:List Nat} (hs:L.Pairwise fun i k=>yv i<=yv k) (y1 y2:Int) (h:y1<=y2):(Jf yv y1 y2 L).length+below yv y1 L=upto yv y2 L:=by
 rw[<-GY hs y1 y2 h,qg,eF];have h1:=below_le (yv:=yv) (L:=L) h;have h2:=yB (yv:=yv) (L:=L) (y:=y2);omega
def lf (m:Nat) (L:List Nat):List Int:=(List.range (L.length+1)).map fun j=>(((L.take j).countP fun i=>decide (i<m):Nat):Int)
theorem ui (m:Nat) (L:List Nat):(lf m L).length=L.length+1:=by simp[lf]
theorem rq (m:Nat) (L:List Nat) (j:Nat) (h:j<(lf m L).length):(lf m L)[j]=(((L.take j).countP fun i=>decide (i<m):Nat):Int):=by simp[lf]
theorem Jg {YS:List Nat} {yv:Nat->Int} (l r:FT) (hw:(FT.node l r).wf) (hs:YS.Pairwise fun i k=>yv i<=yv k) (y:Int):
  ((nl YS (.node l r)).take (below yv y (nl YS (.node l r)))).countP (fun i=>decide (i<l.hi))=below yv y (nl YS l)/\below yv y (nl YS l)+below yv y (nl YS r)=below yv y (nl YS (.node l r)):=by
 have hs2:(nl YS (.node l r)).Pairwise fun i k=>yv i<=yv k:=hs.filter _;rw[OP hs2,uW YS l r hw,qm YS l r hw];generalize nl YS (.node l r)=L;unfold below;constructor
 .rw[Dz,Dz];refine DL fun i _=>?_;simp only[qQ];exact And.comm
 .induction L with
  |nil=>rfl
  |cons i L ih=>
   simp only[mV,DR];by_cases h:i<l.hi<;>simp only[h,decide_true,decide_false,D8,Bool.not_false,gV,jU,rY,DR]<;>omega
theorem Ll {YS:List Nat} {yv:Nat->Int} (l r:FT) (hw:(FT.node l r).wf) (hs:YS.Pairwise fun i k=>yv i<=yv k) (y:Int):
  ((nl YS (.node l r)).take (upto yv y (nl YS (.node l r)))).countP (fun i=>decide (i<l.hi))=upto yv y (nl YS l)/\upto yv y (nl YS l)+upto yv y (nl YS r)=upto yv y (nl YS (.node l r)):=by
 have hs2:(nl YS (.node l r)).Pairwise fun i k=>yv i<=yv k:=hs.filter _;rw[GX hs2,uW YS l r hw,qm YS l r hw];generalize nl YS (.node l r)=L;unfold upto;constructor
 .rw[Dz,Dz];refine DL fun i _=>?_;simp only[qQ];exact And.comm
 .induction L with
  |nil=>rfl
  |cons i L ih=>
   simp only[mV,DR];by_cases h:i<l.hi<;>simp only[h,decide_true,decide_false,D8,Bool.not_false,gV,jU,rY,DR]<;>omega
def down (YS:List Nat) (yv:Nat->Int) (y1 y2:Int) (fr tu:Nat):FT->List Nat×Nat
 |t@(.leaf _)=>if upto yv y2 (nl YS t)<=below yv y1 (nl YS t)\/t.hi<=fr\/tu<=t.lo then([],1)else(Jf yv y1 y2 (nl YS t),1)
 |t@(.node l r)=>if upto yv y2 (nl YS t)<=below yv y1 (nl YS t)\/t.hi<=fr\/tu<=t.lo then([],1)else if fr<=t.lo/\t.hi<=tu then(Jf yv y1 y2 (nl YS t),1)else((down YS yv y1 y2 fr tu l).1++(down YS yv y1 y2 fr tu r).1,1+(down YS yv y1 y2 fr tu l).2+(down YS yv y1 y2 fr tu r).2)
section
variable {YS:List Nat} {yv:Nat->Int} {y1 y2:Int} {fr tu:Nat}
theorem yC {t:FT} (h:upto yv y2 (nl YS t)<=below yv y1 (nl YS t)\/t.hi<=fr\/tu<=t.lo):down YS yv y1 y2 fr tu t=([],1):=by
 cases t<;>(rw[down,aR h])
theorem Jh {t:FT} (h:¬(upto yv y2 (nl YS t)<=below yv y1 (nl YS t)\/t.hi<=fr\/tu<=t.lo)) (h2:fr<=t.lo/\t.hi<=tu):down YS yv y1 y2 fr tu t=(Jf yv y1 y2 (nl YS t),1):=by
 cases t with
 |leaf a=>rw[down,aP h]
 |node l r=>rw[down,aP h,aR h2]
theorem AB {l r:FT} (h:¬(upto yv y2 (nl YS (.node l r))<=below yv y1 (nl YS (.node l r))\/(FT.node l r).hi<=fr\/tu<=(FT.node l r).lo)) (h2:¬(fr<=(FT.node l r).lo/\(FT.node l r).hi<=tu)):down YS yv y1 y2 fr tu (.node l r)=((down YS yv y1 y2 fr tu l).1++(down YS yv y1 y2 fr tu r).1,1+(down YS yv y1 y2 fr tu l).2+(down YS yv y1 y2 fr tu r).2):=by
 rw[down,aP h,aP h2]
theorem TC (t:FT) (hw:t.wf) (s:Nat):(down YS yv y1 y2 fr tu t).2<=(t.canon s fr tu).2:=by
 induction t generalizing s with
 |leaf a=>
  rw[down,FT.canon];split<;>split<;>simp
 |node l r il ir=>
  have Ee:1<=((FT.node l r).canon s fr tu).2:=by
   rw[FT.canon];split
   .exact aG _
   .split
    .exact aG _
    .exact Nat.le_add_left _ _
  by_cases h0:upto yv y2 (nl YS (.node l r))<=below yv y1 (nl YS (.node l r))\/(FT.node l r).hi<=fr\/tu<=(FT.node l r).lo
  .rw[yC h0];exact Ee
  .by_cases h1:fr<=(FT.node l r).lo/\(FT.node l r).hi<=tu
   .rw[Jh h0 h1];exact Ee
   .rw[AB h0 h1,FT.nV (fun h=>h0 (.inr h)) h1];have a1:=il hw.1 s;have a2:=ir hw.2.1 (s+l.size);show 1+_+_<=_+_+1;omega
theorem yD (t:FT) (hw:t.wf) (hs:YS.Pairwise fun i k=>yv i<=yv k) (hy:y1<=y2) (i:Nat):i∈(down YS yv y1 y2 fr tu t).1↔i∈nl YS t/\fr<=i/\i<tu/\y1<=yv i/\yv i<=y2:=by
 have hbt:∀t:FT,upto yv y2 (nl YS t)<=below yv y1 (nl YS t)->∀i∈nl YS t,¬(y1<=yv i/\yv i<=y2):=fun t h i hi h2=>by
  have h3:=ab6 (hs.filter (fun i=>decide (t.lo<=i/\i<t.hi))) y1 y2 hy;have h4:(Jf yv y1 y2 (nl YS t)).length=0:=by unfold nl at h |-;omega
  have h5:i∈Jf yv y1 y2 (nl YS t):=bQ.2 ⟨hi,by simpa using h2⟩;rw[jw h4]at h5;cases h5
 have iC:∀t:FT,∀i∈nl YS t,t.lo<=i/\i<t.hi:=fun t i hi=>by simpa using(bQ.1 hi).2
 induction t with
 |leaf a=>
  by_cases h0:upto yv y2 (nl YS (.leaf a))<=below yv y1 (nl YS (.leaf a))\/(FT.leaf a).hi<=fr\/tu<=(FT.leaf a).lo
  .rw[yC h0];refine⟨fun h=>absurd h jC,fun⟨h1,h2,h3,h4⟩=>?_⟩;have h5:=iC _ i h1;rcases h0 with h|h|h
   .exact absurd h4 (hbt _ h i h1)
   .omega
   .omega
  .rw[down,aP h0];show i∈Jf yv y1 y2 _↔_;unfold Jf;rw[bQ,bZ];refine⟨fun⟨h1,h2⟩=>⟨h1,?_,?_,h2⟩,fun⟨h1,h2,h3,h4⟩=>⟨h1,h4⟩⟩
   .have:=iC _ i h1;simp only[FT.lo,FT.hi]at this h0;omega
   .have:=iC _ i h1;simp only[FT.lo,FT.hi]at this h0;omega
 |node l r il ir=>
  by_cases h0:upto yv y2 (nl YS (.node l r))<=below yv y1 (nl YS (.node l r))\/(FT.node l r).hi<=fr\/tu<=(FT.node l r).lo
  .rw[yC h0];refine⟨fun h=>absurd h jC,fun⟨h1,h2,h3,h4⟩=>?_⟩;have h5:=iC _ i h1;rcases h0 with h|h|h
   .exact absurd h4 (hbt _ h i h1)
   .omega
   .omega
  .by_cases h1:fr<=(FT.node l r).lo/\(FT.node l r).hi<=tu
   .rw[Jh h0 h1];show i∈Jf yv y1 y2 _↔_;unfold Jf;rw[bQ,bZ];refine⟨fun⟨h2,h3⟩=>⟨h2,?_,?_,h3⟩,fun⟨h2,_,_,h4⟩=>⟨h2,h4⟩⟩
    .have:=iC _ i h2;omega
    .have:=iC _ i h2;omega
   .rw[AB h0 h1];show i∈_++_↔_;have e1:=il hw.1;have e2:=ir hw.2.1;rw[uW YS l r hw,bQ,bZ]at e1;rw[qm YS l r hw,bQ,qf,iE]at e2;constructor
    .intro h;rcases df.1 h with h|h
     .exact⟨(e1.1 h).1.1,(e1.1 h).2⟩
     .exact⟨(e2.1 h).1.1,(e2.1 h).2⟩
    .rintro⟨h2,h3⟩;by_cases h4:i<l.hi
     .exact df.2 (.inl (e1.2 ⟨⟨h2,h4⟩,h3⟩))
     .exact df.2 (.inr (e2.2 ⟨⟨h2,h4⟩,h3⟩))
theorem Ef (t:FT) (hw:t.wf) (hn:YS.Nodup) (hs:YS.Pairwise fun i k=>yv i<=yv k) (hy:y1<=y2):(down YS yv y1 y2 fr tu t).1.Nodup:=by
 have hf:∀(L:List Nat) (p:Nat->Bool),L.Nodup->(L.filter p).Nodup:=fun L p h=>mQ _ h
 induction t with
 |leaf a=>
  rw[down];split
  .exact qU
  .exact hf _ _ (hf _ _ hn)
 |node l r il ir=>
  rw[down];split
  .exact qU
  .split
   .exact hf _ _ (hf _ _ hn)
   .refine tC.2 ⟨il hw.1,ir hw.2.1,fun i hi k hk e=>?_⟩;subst e;have h1:=((yD l hw.1 hs hy i).1 hi).1;have h2:=((yD r hw.2.1 hs hy i).1 hk).1;have h3:l.lo<=i/\i<l.hi:=by simpa using(bQ.1 h1).2
    have h4:r.lo<=i/\i<r.hi:=by simpa using(bQ.1 h2).2
    have:=hw.2.2;omega
end
end Go.Proofs.YtkjdbndekceffaaGreat
namespace Go.Proofs.YtkjdbndekceffaaGreat
abbrev Pt:=Int×Int×Int
def sK (p q:Pt):Prop:=p.1<q.1\/p.1=q.1/\p.2.2<q.2.2
def vN (p q:Pt):Prop:=p.2.1<q.2.1\/p.2.1=q.2.1/\p.2.2<q.2.2
def ovr (q p:Pt):Bool:=decide (p.1<=q.1)&&decide (p.2.1<=q.2.1)&&(decide (q.1≠p.1)||decide (q.2.1≠p.2.1))
def btn (l:List Pt) (p:Pt):Bool:=l.any fun q=>ovr q p
instance:DecidableRel sK:=fun p q=>by unfold sK;exact inferInstance
instance:DecidableRel vN:=fun p q=>by unfold vN;exact inferInstance
theorem AJ {p q r:Pt} (h:sK p q) (h2:sK q r):sK p r:=by unfold sK at*;omega
theorem yE (p:Pt):¬sK p p:=by unfold sK;omega
theorem TD {p q:Pt} (h:sK p q) (h2:sK q p):False:=by unfold sK at*;omega
theorem uX {p q r:Pt} (h:vN p q) (h2:vN q r):vN p r:=by unfold vN at*;omega
theorem yF (p:Pt):¬vN p p:=by unfold vN;omega
theorem G5 {p q:Pt} (h:vN p q) (h2:vN q p):False:=by unfold vN at*;omega
theorem mI {α:Type} {R:α->α->Prop} (hR:∀p,¬R p p) {l:List α} (h:l.Pairwise R):l.Nodup:=by
 show l.Pairwise (·≠·);exact h.imp fun{a b} hab e=>by subst e;exact hR a hab
theorem xC {α:Type} {R:α->α->Prop} (ak0:∀p,¬R p p) (has:∀{p q},R p q->R q p->False) {a b:List α} (ha:a.Pairwise R) (hb:b.Pairwise R) (h:∀p,p∈a↔p∈b):a=b:=by
 have hp:a.Perm b:=(BL (mI ak0 ha) (mI ak0 hb)).2 h;exact Oo (fun _ _ _ _ h1 h2=>(has h1 h2).elim) ha hb hp
def sky (S:List Pt):List Pt:=S.filter fun p=>!btn S p
theorem gW {α:Type} {R:α->α->Prop} {l:List α} (h:l.Pairwise R) {p q:α} (hp:p∈l) (hq:q∈l):p=q\/R p q\/R q p:=by
 obtain⟨i,hi,rfl⟩:=jA hp;obtain⟨j,hj,rfl⟩:=jA hq;rcases Nat.lt_trichotomy i j with h1|h1|h1
 .exact .inr (.inl (iq.1 h i j hi hj h1))
 .subst h1;exact .inl rfl
 .exact .inr (.inr (iq.1 h j i hj hi h1))
def ids (l:List Pt):List Int:=l.map fun p=>p.2.2
def Eg (l:List Pt):Bool:=decide (ids l).Nodup
def leX (p q:Pt):Bool:=!decide (sK q p)
def gM (l:List Pt):List Pt:=l.mergeSort leX
theorem eZ (l:List Pt):(gM l).Perm l:=sP l leX
theorem Eh (l:List Pt) (p:Pt):p∈gM l↔p∈l:=(eZ l).mem_iff
theorem ab7 {l:List Pt} (h:(ids l).Nodup) {p q:Pt} (hp:p∈l) (hq:q∈l) (e:p.2.2=q.2.2):p=q:=by
 have h3:l.Pairwise fun p q=>p.2.2≠q.2.2:=dG.1 h;rcases gW h3 hp hq with h1|h1|h1
 .exact h1
 .exact absurd e h1
 .exact absurd e.symm h1
theorem jd {l:List Pt} (h:(ids l).Nodup):(gM l).Pairwise sK:=by
 have h1:(gM l).Pairwise fun p q=>leX p q=true:=BM (le:=leX) (fun p q r hpq hqr=>by simp only[leX,qf,iE]at*;unfold sK at*;omega) (fun p q=>by simp only[leX,DU,qf,iE];unfold sK;omega) l;have h2:(ids (gM l)).Nodup:=((eZ l).map _).nodup_iff.2 h;have h3:(gM l).Pairwise fun p q=>p.2.2≠q.2.2:=by
  unfold ids at h2;exact dG.1 h2
 refine(h1.and h3).imp fun{a b} hab=>?_;obtain⟨ha,hb⟩:=hab;simp only[leX,qf,iE]at ha;unfold sK at*;omega
def WG (l:List Pt):List Pt:=sky (gM l)
theorem ab8 {l S:List Pt} (h:(ids l).Nodup) (hS:S.Pairwise sK) (hm:∀p,p∈S↔p∈l):S=gM l:=
 xC yE TD hS (jd h) fun p=>by rw[hm,Eh]
def bsrch (p:Nat->Bool):Nat->Nat->Nat->Nat->Nat×Nat
 |0,lo,_,k=>(lo,k)
 |f+1,lo,hi,k=>if lo<hi then(if p (lo+(hi-lo)/2)then bsrch p f lo (lo+(hi-lo)/2) (k+1)else bsrch p f (lo+(hi-lo)/2+1) hi (k+1))else(lo,k)
theorem OQ (p:Nat->Bool):∀(f g lo hi k:Nat),hi-lo<=f->hi-lo<=g->bsrch p f lo hi k=bsrch p g lo hi k:=by
 intro f
 induction f with
 |zero=>intro g lo hi k h1 h2;cases g with
  |zero=>rfl
  |succ g=>simp[bsrch,show¬lo<hi by omega]
 |succ f ih=>intro g lo hi k h1 h2;cases g with
  |zero=>simp[bsrch,show¬lo<hi by omega]
  |succ g=>
   simp only[bsrch];by_cases h:lo<hi
   .rw[aR h,aR h];rw[ih g _ _ _ (by omega) (by omega),ih g _ _ _ (by omega) (by omega)]
   .rw[aP h,aP h]
theorem Ji (p:Nat->Bool):∀(f lo hi k:Nat),hi-lo<=f->(bsrch p f lo hi k).2<=k+(hi-lo)/\(lo<=hi->lo<=(bsrch p f lo hi k).1/\(bsrch p f lo hi k).1<=hi):=by
 intro f
 induction f with
 |zero=>intro lo hi k h1;simp[bsrch]
 |succ f ih=>
  intro lo hi k h1;simp only[bsrch];by_cases h:lo<hi
  .rw[aR h];split
   .have:=ih lo (lo+(hi-lo)/2) (k+1) (by omega);omega
   .have:=ih (lo+(hi-lo)/2+1) hi (k+1) (by omega);omega
  .rw[aP h];simp
def aX (l:List Int) (x:Int):Nat×Nat:=bsrch (fun i=>decide (x<=l.getD i 0)) l.length 0 l.length 0
def aW (l:List Int) (x:Int):Nat×Nat:=bsrch (fun i=>decide (x<l.getD i 0)) l.length 0 l.length 0
end Go.Proofs.YtkjdbndekceffaaGreat
namespace Go.Proofs.YtkjdbndekceffaaGreat
open Go
abbrev bY (R:List Pt) (i:Nat):Pt:=R.getD i (0,0,0)
def ko (R:List Pt) (i:Nat):Int:=(bY R i).2.2
def mD (R:List Pt) (i:Nat):Int:=(bY R i).2.1
theorem AL {l:List Nat} {n:Nat} (h:l.Nodup) (hl:∀k∈l,k<n):l.length<=n:=by
 induction n generalizing l with
 |zero=>
  cases l with
  |nil=>exact aG _
  |cons x l=>exact absurd (hl x sQ) (ll _)
 |succ n ih=>
  have h1:=ih (l:=l.erase n) (h.erase n) fun k hk=>by
   have h2:=(List.Nodup.mem_erase_iff h).1 hk;have h3:=hl k h2.2;have h4:=h2.1;omega
  have h2:=List.length_erase_le (a:=n) (l:=l);have h3:l.length<=(l.erase n).length+1:=by
   rw[List.length_erase];split<;>omega
  omega
structure dm (R:List Pt) (gone:List Bool) (YS:List Nat):Prop where
 Ei:R.Pairwise sK
 ids:(ids R).Nodup
 ak1:gone.length=R.length
 nodup:YS.Nodup
 live:∀i,i∈YS↔gone[i]? =some false
 ysY:YS.Pairwise fun i k=>vN (bY R i) (bY R k)
theorem dm.lt {R:List Pt} {gone:List Bool} {YS:List Nat} (h:dm R gone YS) {i:Nat} (hi:i∈YS):i<R.length:=by
 have:=(gD.1 ((h.live i).1 hi)).1;have:=h.ak1;omega
theorem dm.le {R:List Pt} {gone:List Bool} {YS:List Nat} (h:dm R gone YS):YS.Pairwise fun i k=>mD R i<=mD R k:=
 h.ysY.imp fun h=>by unfold vN at h;unfold mD;omega
theorem dm.len {R:List Pt} {gone:List Bool} {YS:List Nat} (h:dm R gone YS):YS.length<=R.length:=by
 exact AL h.nodup fun k hk=>h.lt hk
theorem dm.top {R:List Pt} {gone:List Bool} {YS:List Nat} (h:dm R gone YS) (h0:0<R.length):nl YS (dO 0 R.length)=YS:=by
 obtain⟨-,e1,e2⟩:=bT 0 R.length h0;unfold nl;refine qc.2 fun i hi=>?_;have:=h.lt hi;rw[e1,e2];simp;omega
def bX (R:List Pt):List Int:=R.map fun p=>p.1
def jL (R:List Pt) (YS:List Nat):List Int:=YS.map (mD R)
def mJ (R:List Pt) (YS:List Nat) (x1 x2 y1 y2:Int):List Nat×Nat:=
 if R=[]\/x2<x1\/y2<y1 then([],0)else
  ((down YS (mD R) y1 y2 (aX (bX R) x1).1 (aW (bX R) x2).1 (dO 0 R.length)).1,
   (aX (bX R) x1).2+(aW (bX R) x2).2+(aX (jL R YS) y1).2+(aW (jL R YS) y2).2+(down YS (mD R) y1 y2 (aX (bX R) x1).1 (aW (bX R) x2).1 (dO 0 R.length)).2)
end Go.Proofs.YtkjdbndekceffaaGreat
namespace Go.Proofs.YtkjdbndekceffaaGreat
open Go.RowKit Go.Shelf
attribute [local go_sem] Oper.semAt_some
def WH (Bn:Nat) (W W':World):Prop:=∀o,W'.cell? (ah Bn o)=W.cell? (ah Bn o)
theorem WH.trans {Bn:Nat} {A B C:World} (h:WH Bn A B) (h2:WH Bn B C):WH Bn A C:=fun o=>(h2 o).trans (h o)
theorem Lm {α:Type} (enc:α->Int) (L R:α) (F:Fence) (n:Nat) (hF:F.fn 364) (hro:F.round=none) (hn:1<=n) (Bn:Nat) (w:World) (hBn:Bn<w.heap.size) (h1:w.cell? (ah Bn 1)=some (ag (enc L))) (h2:w.cell? (ah Bn 2)=some (ag (enc R))) (hL:(enc L !=-1)=true) (hR:(enc R !=-1)=true):
  SeqStopsK F n Tryz.prog 364 #[ay Bn] (fun v:α=>#[ag (enc v)]) (WH Bn) (fun xs=>xs=[L,R]) (fun pre=>pre=[L]\/pre=[L,R]) 2 w:=fun l J Jx W hW _ _ hY h0=>by
 have c1:W.cell? (ah Bn 1)=some (ag (enc L)):=(hW.cell (p:=(ah Bn 1)) hBn).trans h1;have c2:W.cell? (ah Bn 2)=some (ag (enc R)):=(hW.cell (p:=(ah Bn 2)) hBn).trans h2;clear h1 h2;refine callsIn_of_wp Tryz.func364 rfl hF ?_ hro;simp only[Tryz.ntmps364,List.size_toArray,List.length_cons,List.length_nil,Nat.reduceAdd,Nat.reduceSub,Array.replicate_succ,Array.replicate_zero,List.push_toArray,List.append_toArray,List.nil_append,List.cons_append];obtain⟨f1,t1,a1,b1,hy1,hR1⟩:=hY [] L W h0 (by simp);dsimp only at hy1
 gi_wp2
 refine hR1.mono ?_;rintro e W1 (⟨rfl,hJ1,ru⟩|⟨rfl,hx1⟩)
 .have d2:=(ru 2).trans c2;obtain⟨f2,t2,a2,b2,hy2,hR2⟩:=hY [L] R W1 hJ1 (by simp)
  gi_wp2
  refine hR2.mono ?_;rintro e W2 (⟨rfl,hJ2,_⟩|⟨rfl,hx2⟩)
  .gi_wp2
   go_end0
   exact⟨⟨_,rfl⟩,.inl ⟨[L,R],rfl,hJ2⟩⟩
  .gi_wp2
   go_end0
   exact⟨⟨_,rfl⟩,.inr ⟨[L,R],.inr rfl,hx2⟩⟩
 .gi_wp2
  refine ng (mF rfl _ _ _) rfl ?_;exact⟨⟨_,rfl⟩,.inr ⟨[L],.inl rfl,hx1⟩⟩
theorem Rj {α:Type} (enc:α->Int) (F:Fence) (n:Nat) (hF:F.fn 364) (hro:F.round=none) (hn:1<=n) (Bn:Nat) (w:World) (hBn:Bn<w.heap.size) (h1:w.cell? (ah Bn 1)=some (ag (-1))) (h2:w.cell? (ah Bn 2)=some (ag (-1))):
  SeqStopsK F n Tryz.prog 364 #[ay Bn] (fun v:α=>#[ag (enc v)]) (WH Bn) (fun xs=>xs=[]) (fun pre=>False) 0 w:=fun l J Jx W hW _ _ hY h0=>by
 have c1:W.cell? (ah Bn 1)=some (ag (-1)):=(hW.cell (p:=(ah Bn 1)) hBn).trans h1;have c2:W.cell? (ah Bn 2)=some (ag (-1)):=(hW.cell (p:=(ah Bn 2)) hBn).trans h2;clear h1 h2;refine callsIn_of_wp Tryz.func364 rfl hF ?_ hro;simp only[Tryz.ntmps364,tH,fU,iG,Nat.reduceAdd,Nat.reduceSub,sU,sV,tJ,sZ,iV,nT]
 gi_wp2
 refine⟨fun _ h=>(by cases h),?_⟩
 gi_wp2
 go_end0
 exact⟨⟨_,rfl⟩,.inl ⟨[],rfl,h0⟩⟩
def qo (d:Nd):List Value:=[.int .u8 d.kind,.int .i64 d.l,.int .i64 d.r,.int .i64 d.fr,.int .i64 d.Ri,.int .i64 0,.int .i64 d.item]
abbrev Ej (k l r f t i:Int):Value:=.agg #[.int .u8 k,ag l,ag r,ag f,ag t,ag 0,ag i]
theorem jO (d:Nd):(qo d).length=7:=rfl
theorem Rk (d:Nd):∀u∈qo d,u.oneCell'=true:=by intro u hu;simp[qo]at hu;rcases hu with rfl|rfl|rfl|rfl|rfl|rfl|rfl<;>rfl
theorem agi:eQ Tryz.prog 141 163 7 56:=.mk' (z:=.agg #[.int .u8 0,ag 0,ag 0,ag 0,ag 0,ag 0,ag 0]) Tryz.underlying141 (by kernel_rfl) rfl (by decide)
abbrev lY (k l r f t i:Int):Obj:=.cells #[.int .u8 k,ag l,ag r,ag f,ag t,ag 0,ag i] 163
theorem CZ (F:Fence) (n:Nat) (hF:F.fn 343) (hro:F.round=none) (k l r f t i:Int) (w:World):
  CallsIn F n Tryz.prog 343 #[Ej k l r f t i] w fun e w'=>e=.returned (.func (.func 364) #[] #[ay w.heap.size])/\w'=w.alloc (lY k l r f t i):=by
 refine callsIn_of_wp Tryz.func343 rfl hF ?_ hro;simp only[Tryz.ntmps343,tH,fU,iG,Nat.reduceAdd,Nat.reduceSub,sU,sV,tJ,sZ,iV,nT]
 gi_wp2
 go_ret;exact⟨rfl,rfl⟩
def marked {m:Nat} (kid:List Bool) (xs:List {q:Nat // q<m}):List Bool:=xs.foldl (fun l x=>l.set x.1 true) kid
theorem OT {m:Nat} (kid:List Bool) (xs:List {q:Nat // q<m}):(marked kid xs).length=kid.length:=by
 unfold marked
 induction xs generalizing kid with
 |nil=>rfl
 |cons x xs ih=>rw[List.foldl_cons,ih,qh]
theorem Lp {m:Nat} (kid:List Bool) (xs:List {q:Nat // q<m}) (x:{q:Nat // q<m}):marked kid (xs++[x])=(marked kid xs).set x.1 true:=by unfold marked;rw[List.foldl_append];rfl
theorem Da {Bn B:Nat} (h:Bn<B) (W:World) (l:Nat) (o o':Obj) (hl:B<=l):WH Bn W (W.putObj l o'):=fun q=>dX (World.putObj_heap_other (fun e=>by have h9:Bn=l:=(by first|exact e|exact e.symm);omega))
def agj (w0:World) (bx g:Nat) (kv:Value) (m base:Nat) (kid:List Bool) (pre:List {q:Nat // q<m}) (W:World):Prop:=
 W.heap[bx]? =some (.cells #[kv] 95 (0,0))/\W.ownsRow base 4 1 kv m ((marked kid pre).map Value.bool)/\aC (fun k=>k=g) w0 W
theorem WI {w0:World} {B bx g m base:Nat} {kv:Value} {kid:List Bool} (hB:w0.heap.size<=B):OwnFrom B (agj w0 bx g kv m base kid):=by
 rintro s W W' row ⟨h1,h2,h3⟩ hg hr;have hne:∀(b:Nat) cs t fr,W.heap[b]? =some (.cells cs t fr)->W'.heap[b]? =W.heap[b]? :=fun b cs t fr hb=>hg.block b (bn.1 hb).1 fun e=>by
  obtain⟨-,o,ho,hc⟩:=hr b e.symm;rw[hb]at ho;injection ho with ho;subst ho;cases hc
 refine⟨(hne _ _ _ _ h1).trans h1,bB h2 fun gb e=>?_,h3.grown hg fun k e=>.inr (bO hB (hr k e).1)⟩;rcases h2.2 with⟨rfl,_⟩|⟨g9,cap,cur,rfl,_,hh,_⟩
 .cases e
 .simp only[Value.ownBlock,jB]at e;subst e;exact hne _ _ _ _ hh
theorem Lr (W:World) (v:Value) (t:TypeId):∀j u,[v][j]? =some u->(W.alloc (.cells #[v] t)).cell? (((ah W.heap.size 0):Addr).add j)=some u:=by
 intro j u hu;have j6:((ah W.heap.size 0):Addr).add j=(ah W.heap.size j):=by unfold Addr.add;split<;>simp_all
 rw[j6,fw _ _ _ _ (by rfl)];simpa using hu
def WJ (w:World) (base m:Nat) (kv:Value) (kid:List Bool) (e:Ending) (w':World):Prop:=
 ∃v',e=.returned v'/\w'.ownsRow base 4 1 v' (m+1) ((kid++[false]).map Value.bool)/\(v'.ownBlock=kv.ownBlock\/∃b,v'.ownBlock=some b/\w.heap.size<=b)/\aC (fun k=>kv.ownBlock=some k) w w'
theorem OU (F:Fence) (n:Nat) (hF:F.fn 320) (hFk:F.fn 343) (El:F.fn 364) (hro:F.round=none) (hn:3<=n) (k f t it:Int) (i j:Nat) (g m cp base:Nat) (kid:List Bool) (w:World) (hk:kid.length=m) (hm:m<=100000) (hi:i<m) (hj:j<m)
  (hrow:w.ownsRow base 4 1 (aD g m cp) m (kid.map Value.bool)) (nJ:base<=w.heap.size):
  CallsIn F n Tryz.prog 320 #[Ej k i j f t it,aD g m cp] w (WJ w base m (aD g m cp) ((kid.set i true).set j true)):=by
 have h1:1<=n:=by omega
 have HR:=ae hrow;have hg:g<w.heap.size:=(hrow.lt g rfl).2;refine IA Tryz.func320 rfl hF ?_ hro;simp only[Tryz.ntmps320,tH,fU,iG,Nat.reduceAdd,Nat.reduceSub,sU,sV,tJ,sZ,iV,nT]
 gi_wp2_with (gi_at_call 343;refine(CZ F (n-1) hFk hro _ _ _ _ _ _ _).mono ?_;rintro e w' ⟨rfl,rfl⟩)
 obtain⟨wk,ni⟩:∃wk,wk=((w.alloc (lY k i j f t it)).alloc (.cells #[aD g m cp] 95)).alloc (lY k i j f t it):=⟨_,rfl⟩;have hB:Below w.heap.size w wk:=by rw[ni];exact(((aM _ w).alloc (aG _) _).alloc (by simp) _).alloc (by simp;omega) _
 have hsz:wk.heap.size=w.heap.size+3:=by rw[ni];simp
 have uY:wk.heap[w.heap.size+1]? =some (.cells #[aD g m cp] 95 (0,0)):=by
  rw[ni];exact(dB _ _ _ (by simp)).trans (Jb w _ _)
 have sM:wk.cell? (ah (w.heap.size+1+1) 1)=some (ag i):=by
  rw[ni,fw _ _ _ _ (by simp)];rfl
 have zL:wk.cell? (ah (w.heap.size+1+1) 2)=some (ag j):=by
  rw[ni,fw _ _ _ _ (by simp)];rfl
 rw[<-ni];have WK:agj w (w.heap.size+1) g (aD g m cp) m base kid [] wk:=⟨uY,au HR.out hB,(aC.refl _ w).below hB⟩;have OV:=ae WK;have HWK:=ae ni;have HB:=ae hB;clear WK ni hB uY hrow;refine IB hro h1 (gf:=364) (lb:=#[ay (w.heap.size+1+1)]) rfl El (dF Tryz.func364 (by kernel_rfl) rfl)
  (Lm (α:={q:Nat // q<m}) (fun x=>(x.1:Int)) ⟨i,hi⟩ ⟨j,hj⟩ F (n-1) El hro (by omega) (w.heap.size+1+1) wk (by omega) sM zL (by simp) (by simp)) WH.trans (fun W l o o' hl _ _ _=>Da (B:=wk.heap.size) (by omega) W l o o' hl) (aM _ _) (fun _=>rfl)
  (fun pre W=>agj w (w.heap.size+1) g (aD g m cp) m base kid pre W)
  (fun _ _ _=>False)
  (WI (by omega))
  (fun _ _ _ _ _ hs _ _=>hs)
  OV.out
  (fun x=>{tmps:=#[Ej k i j f t it,aD g m cp,ay w.heap.size,ay (w.heap.size+1),aN,ag x.1,Ej k i j f t it,.func (.func 364) #[] #[ay (w.heap.size+1+1)],ag x.1,undef,undef,undef,undef,undef,undef],defers:=[]}) ?assign ?body ?done ?stop
 case assign=>
  intro l x W K hK
  gi_wp2
  exact hK
 case body=>
  rintro l pre ⟨q,hq⟩ W ⟨hb,hr,VW⟩ _;have hc:W.cell? (ah (w.heap.size+1) 0)=some (aD g m cp):=by simp[World.cell?,hb]
  have yg:(marked kid pre).length=m:=by rw[OT];exact hk
  have z:=hr.cellAt q (by omega);obtain⟨bb,iY⟩:∃bb,(marked kid pre)[q]? =some bb:=⟨_,dD (by omega)⟩;rw[iO,iY]at z;simp only[aU]at z;have fz:=hr.frozenAt q;have hq2:(q:Int)<(m:Int):=by omega
  have hst:=(hr.stored q (.bool true)).1;rw[<-lJ]at hst;have Ls:=ae hb;have HST:=ae hst;have HKP:=ae VW;have HML:=ae yg;clear hb hst VW hr yg OV iY
  gi_wp2
  refine⟨IC _ _ _,fun o=>dX (aH (by simp;omega)),(aH (by simp;omega)).trans Ls.out,?_,HKP.out.set _ (.inl rfl)⟩;rw[Lp];exact HST.out
 case done=>
  rintro D ys W hD rfl ⟨hb,hr,VW⟩ hK;have hc:W.cell? (ah (w.heap.size+1) 0)=some (aD g m cp):=by simp[World.cell?,hb]
  obtain⟨i0,z0,hi0,hz0,hz1,hz2,hz3⟩:=Az.aeD;have hs:=VW.size;have agl:=ae (hr.alloc (.cells #[.bool false] 4));have HKP:=ae (VW.alloc (.cells #[.bool false] 4));have HK:=ae hK;clear hr VW hb hK
  gi_wp2_with (gi_at_builtin;refine wpListIn_append_own_at _ rfl _ _ 95 rfl base 4 i0 z0 1 1 Tryz.underlying95 hi0 hz0 hz1 hz2 hz3 (by decide) _ _ _ rfl agl.out (ah W.heap.size 0) 1 1 [.bool false] rfl rfl (Lr _ _ _) (by simp[Value.oneCell']) (by unfold maxLen;omega) (by omega) (by simp;omega) ?_;intro v' w1 hown' hgrow _ hat)
  have hDl:D<W.heap.size:=(bn.1 HK.out).1;have hK1:w1.heap[D]? =some (.deferred (some [])):=(hgrow.block D (by simp;omega) (fun e=>by have h9:D=g:=(by injection e);omega)).trans ((dB _ _ _ hDl).trans HK.out);refine⟨by simp,.inl ⟨_,_,rfl,IZ hK1,?_⟩⟩;refine⟨_,results_tmp rfl _ _ _,v',rfl,ownsRow_putObj (by rw[dh];exact hown') _ hK1 rfl,?_,?_⟩
  .rcases hat with h9|h9
   .exact .inl h9
   .exact .inr ⟨_,h9,by simp;omega⟩
  .exact(((HKP.out.mono (fun k h=>by rw[h];rfl)).grown hgrow (fun k e=>.inl e)).grown (grownBy_putObj' w1 D _) (fun k e=>by cases e;exact .inr (by omega)))
 case stop=>
  rintro D c pre W _ _ h _;exact h.elim
def WL (w0:World) (bx:Nat) (kv:Value) (m base:Nat) (kid:List Bool) (pre:List {q:Nat // q<m}) (W:World):Prop:=
 W.heap[bx]? =some (.cells #[kv] 95 (0,0))/\W.ownsRow base 4 1 kv m ((marked kid pre).map Value.bool)/\aC (fun k=>kv.ownBlock=some k) w0 W
theorem TE {w0:World} {B bx m base:Nat} {kv:Value} {kid:List Bool} (hB:w0.heap.size<=B):OwnFrom B (WL w0 bx kv m base kid):=by
 rintro s W W' row ⟨h1,h2,h3⟩ hg hr;have hne:∀(b:Nat) cs t fr,W.heap[b]? =some (.cells cs t fr)->W'.heap[b]? =W.heap[b]? :=fun b cs t fr hb=>hg.block b (bn.1 hb).1 fun e=>by
  obtain⟨-,o,ho,hc⟩:=hr b e.symm;rw[hb]at ho;injection ho with ho;subst ho;cases hc
 refine⟨(hne _ _ _ _ h1).trans h1,bB h2 fun gb e=>?_,h3.grown hg fun k e=>.inr (bO hB (hr k e).1)⟩;rcases h2.2 with⟨rfl,_⟩|⟨g9,cap,cur,rfl,_,hh,_⟩
 .cases e
 .simp only[Value.ownBlock,jB]at e;subst e;exact hne _ _ _ _ hh
theorem TF (F:Fence) (n:Nat) (hF:F.fn 320) (hFk:F.fn 343) (El:F.fn 364) (hro:F.round=none) (hn:3<=n) (k f t it:Int) (ka:Option Addr) (m cp base:Nat) (kid:List Bool) (w:World) (hk:kid.length=m) (hm:m<=100000)
  (hrow:w.ownsRow base 4 1 (.slice ka m cp) m (kid.map Value.bool)) (nJ:base<=w.heap.size):
  CallsIn F n Tryz.prog 320 #[Ej k (-1) (-1) f t it,.slice ka m cp] w (WJ w base m (.slice ka m cp) kid):=by
 have h1:1<=n:=by omega
 have HR:=ae hrow;have HRW:=ae hrow;refine IA Tryz.func320 rfl hF ?_ hro;simp only[Tryz.ntmps320,tH,fU,iG,Nat.reduceAdd,Nat.reduceSub,sU,sV,tJ,sZ,iV,nT]
 gi_wp2_with (gi_at_call 343;refine(CZ F (n-1) hFk hro _ _ _ _ _ _ _).mono ?_;rintro e w' ⟨rfl,rfl⟩)
 obtain⟨wk,ni⟩:∃wk,wk=((w.alloc (lY k (-1) (-1) f t it)).alloc (.cells #[.slice ka m cp] 95)).alloc (lY k (-1) (-1) f t it):=⟨_,rfl⟩;have hB:Below w.heap.size w wk:=by rw[ni];exact(((aM _ w).alloc (aG _) _).alloc (by simp) _).alloc (by simp;omega) _
 have hsz:wk.heap.size=w.heap.size+3:=by rw[ni];simp
 have uY:wk.heap[w.heap.size+1]? =some (.cells #[.slice ka m cp] 95 (0,0)):=by
  rw[ni];exact(dB _ _ _ (by simp)).trans (Jb w _ _)
 have sM:wk.cell? (ah (w.heap.size+1+1) 1)=some (ag (-1)):=by
  rw[ni,fw _ _ _ _ (by simp)];rfl
 have zL:wk.cell? (ah (w.heap.size+1+1) 2)=some (ag (-1)):=by
  rw[ni,fw _ _ _ _ (by simp)];rfl
 rw[<-ni];have WK:WL w (w.heap.size+1) (.slice ka m cp) m base kid [] wk:=⟨uY,au HR.out hB,(aC.refl _ w).below hB⟩;have OV:=ae WK;have HWK:=ae ni;have HB:=ae hB;clear WK ni hB uY hrow;refine IB hro h1 (gf:=364) (lb:=#[ay (w.heap.size+1+1)]) rfl El (dF Tryz.func364 (by kernel_rfl) rfl)
  (Rj (α:={q:Nat // q<m}) (fun x=>(x.1:Int)) F (n-1) El hro (by omega) (w.heap.size+1+1) wk (by omega) sM zL) WH.trans (fun W l o o' hl _ _ _=>Da (B:=wk.heap.size) (by omega) W l o o' hl) (aM _ _) (fun _=>rfl)
  (fun pre W=>WL w (w.heap.size+1) (.slice ka m cp) m base kid pre W)
  (fun _ _ _=>False)
  (TE (by omega))
  (fun _ _ _ _ _ hs _ _=>hs)
  OV.out
  (fun x=>{tmps:=#[Ej k (-1) (-1) f t it,.slice ka m cp,ay w.heap.size,ay (w.heap.size+1),aN,ag x.1,Ej k (-1) (-1) f t it,.func (.func 364) #[] #[ay (w.heap.size+1+1)],ag x.1,undef,undef,undef,undef,undef,undef],defers:=[]}) ?assign ?body ?done ?stop
 case assign=>
  intro l x W K hK
  gi_wp2
  exact hK
 case body=>
  intro l pre x W _ h;exact absurd h (ll _)
 case done=>
  rintro D ys W hD rfl ⟨hb,hr,VW⟩ hK;have hc:W.cell? (ah (w.heap.size+1) 0)=some (.slice ka m cp):=by simp[World.cell?,hb]
  obtain⟨i0,z0,hi0,hz0,hz1,hz2,hz3⟩:=Az.aeD;have hs:=VW.size;have agl:=ae (hr.alloc (.cells #[.bool false] 4));have HKP:=ae (VW.alloc (.cells #[.bool false] 4));have HK:=ae hK;clear hr VW hb hK
  gi_wp2_with (gi_at_builtin;refine wpListIn_append_own_at _ rfl _ _ 95 rfl base 4 i0 z0 1 1 Tryz.underlying95 hi0 hz0 hz1 hz2 hz3 (by decide) _ _ _ rfl agl.out (ah W.heap.size 0) 1 1 [.bool false] rfl rfl (Lr _ _ _) (by simp[Value.oneCell']) (by unfold maxLen;omega) (by omega) (by simp;omega) ?_;intro v' w1 hown' hgrow _ hat)
  have hDl:D<W.heap.size:=(bn.1 HK.out).1;have hK1:w1.heap[D]? =some (.deferred (some [])):=(hgrow.block D (by simp;omega) (fun e=>by have h9:=(HRW.out.lt D e.symm).2;omega)).trans ((dB _ _ _ hDl).trans HK.out);refine⟨by simp,.inl ⟨_,_,rfl,IZ hK1,?_⟩⟩;refine⟨_,results_tmp rfl _ _ _,v',rfl,ownsRow_putObj (by rw[dh];exact hown') _ hK1 rfl,?_,?_⟩
  .rcases hat with h9|h9
   .exact .inl h9
   .exact .inr ⟨_,h9,by simp;omega⟩
  .exact(((HKP.out).grown hgrow (fun k e=>.inl e)).grown (grownBy_putObj' w1 D _) (fun k e=>by cases e;exact .inr (by omega)))
 case stop=>
  rintro D c pre W _ _ h _;exact h.elim
theorem ab9 (k f t it:Int) (i j:Nat) (g m cp base:Nat) (kid:List Bool) (w:World) (hk:kid.length=m) (hm:m<=100000) (hi:i<m) (hj:j<m)
  (hrow:w.ownsRow base 4 1 (aD g m cp) m (kid.map Value.bool)) (nJ:base<=w.heap.size):
  aO 320 #[Ej k i j f t it,aD g m cp] w (WJ w base m (aD g m cp) ((kid.set i true).set j true)):=by
 refine(callsIn_wide (n:=3)).1 ?_;exact OU _ 3 trivial trivial trivial rfl (by decide) k f t it i j g m cp base kid w hk hm hi hj hrow nJ
theorem agm (k f t it:Int) (ka:Option Addr) (m cp base:Nat) (kid:List Bool) (w:World) (hk:kid.length=m) (hm:m<=100000)
  (hrow:w.ownsRow base 4 1 (.slice ka m cp) m (kid.map Value.bool)) (nJ:base<=w.heap.size):
  aO 320 #[Ej k (-1) (-1) f t it,.slice ka m cp] w (WJ w base m (.slice ka m cp) kid):=by
 refine(callsIn_wide (n:=3)).1 ?_;exact TF _ 3 trivial trivial trivial rfl (by decide) k f t it ka m cp base kid w hk hm hrow nJ
end Go.Proofs.YtkjdbndekceffaaGreat
namespace Go.Proofs.YtkjdbndekceffaaGreat
open Go Go.RowKit
section
variable {P:Program} {ops:Array Oper} {Q:Exit->Act->World->Prop} {md:Region.Mode} {C:World->Prop} {T:List Nat}
def iy (P:Program) (md:Region.Mode) (ops:Array Oper) (Q:Exit->Act->World->Prop) (C:World->Prop) (T:List Nat):Nat->Array Bool->Act->World->Prop
 |0,listed,a,w=>Region.ready md ops listed=[]/\Q .normal a w
 |fuel+1,listed,a,w=>
  (Region.ready md ops listed=[]->Q .normal a w)/\
  ∀i∈Region.ready md ops listed,wpOp P ops Q i (fun a' w'=>(C w->i∉T->C w')/\iy P md ops Q C T fuel (listed.setIfInBounds i true) a' w') a w
theorem xD:∀(fuel:Nat) (listed:Array Bool) (a:Act) (w:World),iy P md ops Q C T fuel listed a w->wpAny P md ops Q fuel listed a w
 |0,_,_,_,h=>h
 |fuel+1,_,_,_,h=>⟨h.1,fun i hi=>wpOp_mono (fun a' w' h'=>xD fuel _ a' w' h'.2) (h.2 i hi)⟩
def nC (md:Region.Mode) (ops:Array Oper) (listed:Array Bool):Prop:=
 ∀j oj,ops[j]? =some oj->listed.getD j false=true->∀e∈oj.after,Region.binds md e=true->listed.getD e.on false=true
theorem nC.set {i:Nat} {listed:Array Bool} (inv:nC md ops listed) (hi:i∈Region.ready md ops listed):nC md ops (listed.setIfInBounds i true):=by
 obtain⟨_,oi,hoi,hall⟩:=mem_ready.1 hi;intro j oj hj hl e he hb;by_cases oV:i=j
 .subst oV;have:oj=oi:=I6 (hj.symm.trans hoi);subst this;exact getD_set_true (hall e he hb)
 .rw[getD_set_ne false oV]at hl;exact getD_set_true (inv j oj hj hl e he hb)
def downs (md:Region.Mode) (ops:Array Oper) (i:Nat):Nat->List Nat
 |0=>[]
 |n+1=>if Region.waitsFor md ops n i||(downs md ops i n).any (fun k=>Region.waitsFor md ops n k)then n::downs md ops i n else downs md ops i n
theorem rz {listed:Array Bool} {i:Nat} (inv:nC md ops listed):∀(n t:Nat),t∈downs md ops i n->(∀ot,ops[t]? =some ot->∀e∈ot.after,Region.binds md e=true->listed.getD e.on false=true)->listed.getD i false=true
 |0,t,h,_=>by cases h
 |n+1,t,h,hd=>by
  unfold downs at h;split at h
  .rename_i hc;rcases mZ.1 h with h|h
   .rw[h]at hd;rcases(DU _ _).mp hc with hc|hc
    .obtain⟨ot,hot,e,he,hb,hon⟩:=Region.waitsFor_spec hc;exact hon▸hd ot hot e he hb
    .obtain⟨k,hk,hc⟩:=List.any_eq_true.1 hc;obtain⟨ot,hot,e,he,hb,hon⟩:=Region.waitsFor_spec hc;have hk2:listed.getD k false=true:=hon▸hd ot hot e he hb;exact rz inv n k hk fun ok hok e he hb=>inv k ok hok hk2 e he hb
   .exact rz inv n t h hd
  .exact rz inv n t h hd
theorem Jj {i:Nat} {oi:Oper} {v:Value} {b:Bool} (hi:ops[i]? =some oi) (Jk:∀(j:Nat) (o:Oper) cs b,ops[j]? =some o->o.op≠.select cs b)
  (hQ:∀c a w,Q (.panic c) (a.put oi.dst v) w->Q (.panic c) a w) (hT:b=true->∀t∈T,t∈downs md ops i ops.size):
  ∀(fuel:Nat) (listed:Array Bool) (a:Act) (w:World),nC md ops listed->
   (∀j oj,ops[j]? =some oj->j≠i->listed.getD j true=false->(∀e∈oj.after,Region.binds md e=true->e.on≠i)->oi.apart ops oj=true)->
   i∈Region.ready md ops listed->YieldsIf P ops (fun w=>b=true->C w) oi v a->(b=true->C w)->
   iy P md ops Q C T fuel (listed.setIfInBounds i true) (a.put oi.dst v) w->iy P md ops Q C T (fuel+1) listed a w:=by
 intro fuel
 induction fuel with
 |zero=>
  intro listed a w inv _ hr hy hS H;refine⟨fun h=>(by rw[h]at hr;cases hr),fun j hj=>?_⟩;by_cases oK:j=i
  .subst oK;exact hy.wpOp hi hS ⟨fun h _=>h,H⟩
  .have:=ready_mono hj oK;rw[H.1]at this;cases this
 |succ fuel ih=>
  intro listed a w inv aeL hr hy hS H;refine⟨fun h=>(by rw[h]at hr;cases hr),fun j hj=>?_⟩;by_cases oK:j=i
  .subst oK;exact hy.wpOp hi hS ⟨fun h _=>h,H⟩
  .have h1:=H.2 j (ready_mono hj oK);obtain⟨ak5,oj,hoj,hall⟩:=mem_ready.1 hj;have ak6:=getD_both (mem_ready.1 hr).1;have hjT:b=true->j∉T:=fun hb hjT=>by
    have:=rz inv ops.size j (hT hb j hjT) (fun ot hot e he hb=>by
     have:ot=oj:=I6 (hot.symm.trans hoj);subst this;exact hall e he hb)
    rw[ak6]at this;cases this
   have aca:∀e∈oj.after,Region.binds md e=true->e.on≠i:=fun e he hb heq=>by
    have h1:=hall e he hb;rw[heq,ak6]at h1;cases h1
   have h2:=wpOp_putIf hoj (aeL j oj hoj oK ak5 aca) (fun cs b=>Jk i oi cs b hi) (fun cs b=>Jk j oj cs b hoj) hQ hy h1;have agn:∀k ok,ops[k]? =some ok->k≠i->(listed.setIfInBounds j true).getD k true=false->
     (∀e∈ok.after,Region.binds md e=true->e.on≠i)->oi.apart ops ok=true:=fun k ok hk KD hun hno=>by
    refine aeL k ok hk KD ?_ hno;by_cases hjk:j=k
    .subst hjk;exact ak5
    .rw[getD_set_ne true hjk]at hun;exact hun
   refine wpOp_mono (fun a' w' h3=>⟨h3.2.1,ih (listed.setIfInBounds j true) a' w' (inv.set hj) agn (ready_mono hr (jb oK)) h3.1 (fun hb=>h3.2.1 (hS hb) (hjT hb)) ?_⟩) h2;rw[Array.setIfInBounds_comm _ _ oK];exact h3.2.2
def Oper.fM (P:Program) (o:Oper) (a:Act) (C:World->Prop) (b:Bool) (next:Act->Prop):Prop:=∃v,(∀w,(b=true->C w)->(execOp a.eval o).run P w=.ok (.value v) w)/\next (a.put o.dst v)
def wpHd (P:Program) (ops:Array Oper) (C:World->Prop) (L:Act->Prop):List (Oper×Bool)->Act->Prop
 |[],a=>L a
 |o::rest,a=>if Region.wanted o.1 (yielded ops a.tmps)then Oper.fM P o.1 a C o.2 (wpHd P ops C L rest)else wpHd P ops C L rest (a.put o.1.dst undef)
theorem aQ {L:Act->Prop} {a:Act} (h:L a):wpHd P ops C L [] a:=h
theorem aI {L:Act->Prop} {a:Act} {o:Oper} {b:Bool} {rest:List (Oper×Bool)}
  (h:∀K:Act->Prop,(∀a,wpHd P ops C L rest a->K a)->if Region.wanted o (yielded ops a.tmps)then Oper.fM P o a C b K else K (a.put o.dst undef)):wpHd P ops C L ((o,b)::rest) a:=
 h _ (fun _ h=>h)
def headOK (md:Region.Mode) (ops:Array Oper) (T:List Nat):List (Nat×Bool)->Array Bool->Bool
 |[],_=>true
 |i::l,listed=>(Region.ready md ops listed).contains i.1&&Region.free md ops listed i.1&&(!i.2||T.all (fun t=>(downs md ops i.1 ops.size).contains t))&&headOK md ops T l (listed.setIfInBounds i.1 true)
def yG:List (Nat×Bool)->Array Bool->Array Bool
 |[],listed=>listed
 |i::l,listed=>yG l (listed.setIfInBounds i.1 true)
def pick (ops:Array Oper) (hd:List Nat):List Oper:=hd.filterMap fun i=>ops[i]?
def bG (ops:Array Oper) (hd:List (Nat×Bool)):List (Oper×Bool):=hd.filterMap fun i=>ops[i.1]?.map fun o=>(o,i.2)
theorem uj (Jk:Region.noSelect ops=true) (hQ:∀c a d v w,Q (.panic c) (Act.put a d v) w->Q (.panic c) a w) {fuel:Nat} {w:World} (hC:C w):
  ∀(hd:List (Nat×Bool)) (listed:Array Bool) (a:Act),nC md ops listed->headOK md ops T hd listed=true->wpHd P ops C (fun a'=>iy P md ops Q C T fuel (yG hd listed) a' w) (bG ops hd) a->iy P md ops Q C T (fuel+hd.length) listed a w
 |[],listed,a,_,_,h=>h
 |(i,b)::l,listed,a,inv,hB,h=>by
  simp only[headOK,qQ]at hB;obtain⟨⟨⟨hr,hf⟩,hT⟩,hB'⟩:=hB;have WM:i∈Region.ready md ops listed:=by simpa using hr
  obtain⟨_,oi,hi,_⟩:=mem_ready.1 WM;have hT':b=true->∀t∈T,t∈downs md ops i ops.size:=fun hb t ht=>by
   subst hb;simp only[D8,Bool.false_or]at hT;have:=Af.1 hT t ht;simpa using this
  have hp:bG ops ((i,b)::l)=(oi,b)::bG ops l:=by simp[bG,hi]
  rw[hp]at h;have ih:=fun a'=>uj (fuel:=fuel) Jk hQ hC l (listed.setIfInBounds i true) a' (inv.set WM) hB';have key:∀v,YieldsIf P ops (fun w=>b=true->C w) oi v a->wpHd P ops C (fun a'=>iy P md ops Q C T fuel (yG l (listed.setIfInBounds i true)) a' w) (bG ops l) (a.put oi.dst v)->iy P md ops Q C T (fuel+((i,b)::l).length) listed a w:=fun v hy h2=>
   Jj hi (Region.noSelect_spec Jk) (fun c a w h=>hQ c a _ _ w h) hT' _ listed a w inv (Region.free_spec hi hf) WM hy (fun _=>hC) (ih _ h2)
  by_cases hw:Region.wanted oi (yielded ops a.tmps)=true
  .simp only[wpHd,hw,gV]at h;obtain⟨v,h1,h2⟩:=h;exact key v (.inl ⟨hw,h1⟩) h2
  .simp only[wpHd,hw,jU]at h;exact key undef (.inr ⟨by simpa using hw,rfl⟩) h
theorem aF {id:Nat} {a:Act} {w:World} {l:List Oper} (C:World->Prop) (T:List Nat) (hd:List (Nat×Bool)) (hm:P.follows .mixedOrders=true) (Jk:Region.noSelect l.toArray=true) (hQ:∀c a d v w,Q (.panic c) (Act.put a d v) w->Q (.panic c) a w) (hC:C w.drew)
  (n:Nat) (hn:n+hd.length=l.length) (hB:headOK .any l.toArray T hd (Array.replicate l.length false)=true)
  (h:wpHd P l.toArray C (fun a'=>iy P .any l.toArray Q C T n (yG hd (Array.replicate l.length false)) a' w.drew) (bG l.toArray hd) a):(Code.region id l.toArray true).wp P Q a w:=by
 refine wp_region_any hm (xD (C:=C) (T:=T) _ _ _ _ ?_);have h2:=uj (md:=.any) (ops:=l.toArray) (T:=T) Jk hQ hC hd (Array.replicate l.length false) a (fun j oj _ hl=>by rw[getD_replicate_false]at hl;cases hl) hB h;rw[hn]at h2;simpa using h2
def ak (P:Program) (md:Region.Mode) (ops:Array Oper) (Q:Exit->Act->World->Prop) (C:World->Prop) (T:List Nat) (fuel:Nat) (listed:Array Bool) (a:Act) (w:World) (rs:List Nat):Prop:=
 ∀i∈rs,wpOp P ops Q i (fun a' w'=>(C w->i∉T->C w')/\iy P md ops Q C T fuel (listed.setIfInBounds i true) a' w') a w
theorem ak.nil {fuel:Nat} {listed:Array Bool} {a:Act} {w:World}:ak P md ops Q C T fuel listed a w []:=fun _ h=>by cases h
theorem ak.cons {fuel:Nat} {listed:Array Bool} {a:Act} {w:World} {i:Nat} {o:Oper} {rs:List Nat} (ho:ops[i]? =some o)
  (h:∀K:Act->World->Prop,(∀a' w',(C w->i∉T->C w')->iy P md ops Q C T fuel (listed.setIfInBounds i true) a' w'->K a' w')->if Region.wanted o (yielded ops a.tmps)=true then Oper.wp P o a w K Q else K (a.put o.dst undef) w)
  (hs:ak P md ops Q C T fuel listed a w rs):ak P md ops Q C T fuel listed a w (i::rs):=fun j hj=>by
 rcases mZ.1 hj with e|hj
 .rw[e];have:=h (fun a' w'=>(C w->i∉T->C w')/\iy P md ops Q C T fuel (listed.setIfInBounds i true) a' w') (fun a' w' h1 h2=>⟨h1,h2⟩);unfold wpOp;simp only[ho];split
  .rename_i hw;simp only[hw,gV]at this;exact .inl this
  .rename_i hw;simp only[hw]at this;exact this
 .exact hs j hj
theorem az {fuel:Nat} {listed:Array Bool} {a:Act} {w:World} (rs:List Nat) (hr:Region.ready md ops listed=rs) (hne:rs≠[]) (h:ak P md ops Q C T fuel listed a w rs):iy P md ops Q C T (fuel+1) listed a w:=
 ⟨fun h0=>absurd (hr▸h0) hne,hr▸h⟩
theorem lZ {listed:Array Bool} {a:Act} {w:World} (hr:Region.ready md ops listed=[]) (h:Q .normal a w):iy P md ops Q C T 0 listed a w:=⟨hr,h⟩
def lineOK (md:Region.Mode) (ops:Array Oper) (T:List Nat):List Nat->Array Bool->Bool
 |[],listed=>(Region.ready md ops listed).isEmpty
 |i::l,listed=>decide (Region.ready md ops listed=[i])&&T.contains i&&lineOK md ops T l (listed.setIfInBounds i true)
theorem aK:∀(L:List Nat) (listed:Array Bool) (a:Act) (w:World),lineOK md ops T L listed=true->wpList P ops Q (pick ops L) a w->iy P md ops Q C T L.length listed a w
 |[],listed,a,w,hB,h=>⟨by simpa[lineOK]using hB,h⟩
 |i::l,listed,a,w,hB,h=>by
  simp only[lineOK,qQ,bZ]at hB;obtain⟨⟨hr,hT⟩,hB'⟩:=hB;have WM:i∈Region.ready md ops listed:=by rw[hr];simp
  have hT':i∈T:=by simpa using hT
  obtain⟨_,oi,hi,_⟩:=mem_ready.1 WM;have hp:pick ops (i::l)=oi::pick ops l:=by simp[pick,hi]
  rw[hp]at h;refine⟨fun h1=>(by rw[hr]at h1;cases h1),fun j hj=>?_⟩;rw[hr]at hj;have oK:j=i:=by simpa using hj
  rw[oK];have hw:wpOp P ops Q i (wpList P ops Q (pick ops l)) a w:=by unfold wpOp;simp only[hi];exact h
  exact wpOp_mono (fun a' w' h'=>⟨fun _ h9=>absurd hT' h9,aK l _ a' w' hB' h'⟩) hw
def Rl (md:Region.Mode) (ops:Array Oper) (listed:Array Bool):Bool:=
 (List.range ops.size).all fun j=>!listed.getD j false||((ops[j]?.map fun o=>o.after.toList.all fun e=>!Region.binds md e||listed.getD e.on false).getD true)
theorem nC.of {listed:Array Bool} (h:Rl md ops listed=true):nC md ops listed:=by
 intro j oj hj hl e he hb;have hjs:j<ops.size:=(bn.1 hj).1;have h1:=Af.1 h j (wZ.2 hjs);rw[hl,hj]at h1;simp only[D8,Bool.false_or,aU,fV]at h1;have h2:=Af.1 h1 e (by simpa using he);rw[hb]at h2;simpa using h2
theorem cK {fuel n:Nat} {w:World} {listed:Array Bool} {a:Act} (hd:List (Nat×Bool)) (Jk:Region.noSelect ops=true) (hQ:∀c a d v w,Q (.panic c) (Act.put a d v) w->Q (.panic c) a w) (hC:C w) (hc:Rl md ops listed=true)
  (hB:headOK md ops T hd listed=true) (hn:n=fuel+hd.length) (h:wpHd P ops C (fun a'=>iy P md ops Q C T fuel (yG hd listed) a' w) (bG ops hd) a):iy P md ops Q C T n listed a w:=by
 subst hn;exact uj Jk hQ hC hd listed a (nC.of hc) hB h
end
structure kC (F:World->Prop) where
 W:World
 h:F W
section
variable {P:Program} {ops:Array Oper} {Q:Exit->Act->World->Prop} {md:Region.Mode} {C C':World->Prop} {T T':List Nat}
def aeM (ops:Array Oper) (T:List Nat) (listed:Array Bool):Bool:=(List.range ops.size).all fun j=>listed.getD j false||T.contains j
theorem wE:∀(fuel:Nat) (listed:Array Bool) (a:Act) (w:World),aeM ops T listed=true->wpAny P md ops Q fuel listed a w->iy P md ops Q C T fuel listed a w
 |0,_,_,_,_,h=>h
 |fuel+1,listed,a,w,hr,h=>⟨h.1,fun i hi=>wpOp_mono (fun a' w' h'=>by
  obtain⟨hu,oi,hoi,-⟩:=mem_ready.1 hi;have hsz:i<ops.size:=(bn.1 hoi).1;have hT:i∈T:=by
   have h1:=Af.1 hr i (wZ.2 hsz);rw[getD_both hu]at h1;simpa using h1
  refine⟨fun _ h9=>absurd hT h9,wE fuel _ a' w' ?_ h'⟩;refine Af.2 fun j hj=>?_;have h2:=Af.1 hr j hj;rcases(DU _ _).mp h2 with h2|h2
  .rw[getD_set_true h2];rfl
  .rw[h2];simp) (h.2 i hi)⟩
theorem je (C':World->Prop) (T':List Nat) {fuel:Nat} {listed:Array Bool} {a:Act} {w:World} (hr:aeM ops T listed=true) (h:iy P md ops Q C' T' fuel listed a w):iy P md ops Q C T fuel listed a w:=
 wE fuel listed a w hr (xD fuel listed a w h)
end
theorem OW {P:Program} {ops:Array Oper} {o:Oper} {a:Act} {K:Act->World->Prop} {Q:Exit->Act->World->Prop} {E0:Prop} {f:FuncId} {w:World} {vals:Array Value} {R:Ending->World->Prop} (hen:∀args w,(callFunc f args).run P w=.ok (.enter f args) w) (hw:Region.wanted o (yielded ops a.tmps)=true) (args:Array Operand) (tys:Array TypeId) (ho:o.op=.call {callee:=.value (.func f),args:=args,argTypes:=tys}) (xz:vals=(args.toList.map a.eval).toArray)
  (C:Calls P f vals w R) (h:∀e w',R e w'->∃v,e=.returned v/\K (a.put o.dst v) w'):
  if Region.wanted o (yielded ops a.tmps)=true then Oper.wp P o a w K Q else E0:=by
 rw[aR hw];unfold Oper.wp;have BO:args.map a.eval=vals:=by rw[xz,<-IY]
 have he:(execOp a.eval o).run P w=.ok (.enter f vals) w:=by
  simp[execOp,ho,resolve,invoke,BO,Act.eval,Deferred.ofValue,hen]
 rw[he,Oper.upon_enter];refine C.mono fun e w' hr=>?_;obtain⟨v,rfl,hk⟩:=h e w' hr;exact hk
end Go.Proofs.YtkjdbndekceffaaGreat
namespace Go.Proofs.YtkjdbndekceffaaGreat
open Go.RowKit Go.Sort Go.Shelf Go.Lib Go.Maps
attribute [local irreducible] wpQuiet
attribute [local go_sem] Oper.fM
structure OX (w:World) (tb:Nat) (N:List Nd) (nm:Nat->Int) (YS:List Nat) (LN LL:Nat->Value):Prop where
 jG:∃gn off cn,w.cell? (ah tb 4)=some (.slice (some (ah gn off)) N.length cn)/\dU qo 7 w (some (ah gn off)) N
 Jl:∃gl cl,w.cell? (ah tb 5)=some (aD gl N.length cl)/\gl<w.heap.size/\∀k,k<N.length->w.cell? (ah gl (k*2))=some (LN k)/\w.cell? (ah gl (k*2+1))=some (LL k)
 Lt:∀t s,FT.At N t s->∃a c,LN (t.root s)=.slice a (nl YS t).length c/\(nl YS t).length<=c/\Rd (.int .u32) w a ((nl YS t).map nm)
 Em:∀l r s,FT.At N (.node l r) s->∃a c,LL ((FT.node l r).root s)=.slice a (lf l.hi (nl YS (.node l r))).length c/\Rd (.int .i64) w a (lf l.hi (nl YS (.node l r)))
 G6:∀k,k<N.length->∃a m c,LL k=.slice a m c
theorem OX.below {w w':World} {tb B:Nat} {N:List Nd} {nm:Nat->Int} {YS:List Nat} {LN LL:Nat->Value} (h:OX w tb N nm YS LN LL) (hb:Below B w w') (hB:w.heap.size<=B):OX w' tb N nm YS LN LL:=by
 have hb:=hb.mono hB;obtain⟨⟨gn,off,cn,c4,r4⟩,⟨gl,cl,c5,hl,h5⟩,hn,hf,hs⟩:=h;have ht:=iD w _ c4;exact⟨⟨gn,off,cn,(hb.cell (p:=(ah tb 4)) ht).trans c4,r4.below hb⟩,
  ⟨gl,cl,(hb.cell (p:=(ah tb 5)) ht).trans c5,bJ hl hb.size,fun k hk=>⟨(hb.cell (p:=(ah gl (k*2))) hl).trans (h5 k hk).1,(hb.cell (p:=(ah gl (k*2+1))) hl).trans (h5 k hk).2⟩⟩,
  fun t s ha=>by obtain⟨a,c,e,hc,r⟩:=hn t s ha;exact⟨a,c,e,hc,r.below hb⟩,fun l r s ha=>by obtain⟨a,c,e,r⟩:=hf l r s ha;exact⟨a,c,e,r.below hb⟩,hs⟩
structure Told (F:Nat) (cb:Array Value) (N:List Nd) (YS:List Nat) (LN LL:Nat->Value) (B:Nat) (w0:World) (FL:List Nat) (S:World->List Nat->(Nat->Prop)->Prop):Prop where
 enters:∀args w,(callFunc F args).run Tryz.prog w=.ok (.enter F args) w
 base:∀W acc D,S W acc D->Below B w0 W
 lt:∀W acc D,S W acc D->∀k,D k->B<=k/\k<W.heap.size
 kD:∀W W' acc D,S W acc D->Below W.heap.size W W'->S W' acc D
 told:∀W acc D t s a b,S W acc D->FT.At N t s->a<=b->b<=(nl YS t).length->acc++((nl YS t).take b).drop a <+: FL->
  aO F (#[.agg #[LN (t.root s),LL (t.root s)],ag (a:Nat),ag (b:Nat)]++cb) W fun e w'=>e=.returned (.tuple #[])/\∃D',S w' (acc++((nl YS t).take b).drop a) D'/\(∀k,D' k->D k\/W.heap.size<=k)/\aC D W w'
structure yH (D:Nat->Prop) (w:World) where
 W:World
 h:aC D w W
def DnP (S:World->List Nat->(Nat->Prop)->Prop) (W:World) (D:Nat->Prop) (acc:List Nat) (n:Nat) (e:Ending) (w':World):Prop:=
 e=.returned (ag n)/\∃D',S w' acc D'/\(∀k,D' k->D k\/W.heap.size<=k)/\aC D W w'
theorem Lu:∀args w,(callFunc 172 args).run Tryz.prog w=.ok (.enter 172 args) w:=dF Tryz.func172 (by kernel_rfl) rfl
theorem nW {w:World} {g off:Nat} {N:List Nd} {i:Nat} {d:Nd} (h:dU qo 7 w (some (ah g off)) N) (hi:N[i]? =some d):
  g<w.heap.size/\w.cell? (ah g (off+i*7))=some (.int .u8 d.kind)/\w.cell? (ah g (off+i*7+1))=some (ag d.l)/\w.cell? (ah g (off+i*7+2))=some (ag d.r)/\w.cell? (ah g (off+i*7+3))=some (ag d.fr)/\w.cell? (ah g (off+i*7+4))=some (ag d.Ri)/\w.cell? (ah g (off+i*7+5))=some (ag 0)/\w.cell? (ah g (off+i*7+6))=some (ag d.item):=by
 obtain⟨hl,hd⟩:=gD.1 hi;rcases h with h|⟨b,o,e,hb,hc⟩
 .subst h;simp at hl
 .cases e;have c:=hc i hl;rw[hd]at c;exact⟨hb,c 0 (by omega),c 1 (by omega),c 2 (by omega),c 3 (by omega),c 4 (by omega),c 5 (by omega),c 6 (by omega)⟩
theorem WN (n:Int) (h:-9223372036854775808<=n/\n<=9223372036854775807):wrap64 n=n:=by unfold wrap64;omega
theorem nK {YS:List Nat} {yv:Nat->Int} {y1 y2:Int} {fr ub:Nat}:∀t:FT,(down YS yv y1 y2 fr ub t).2<=t.size
 |.leaf a=>by
  rw[down];split<;>exact aG _
 |.node l r=>by
  have h1:=nK (YS:=YS) (yv:=yv) (y1:=y1) (y2:=y2) (fr:=fr) (ub:=ub) l;have h2:=nK (YS:=YS) (yv:=yv) (y1:=y1) (y2:=y2) (fr:=fr) (ub:=ub) r;have h3:(FT.node l r).size=l.size+r.size+1:=rfl;rw[down];split
  .show 1<=_;omega
  .split
   .show 1<=_;omega
   .show 1+_+_<=_;omega
theorem En (F:Nat) (cb:Array Value) (N:List Nd) (nm:Nat->Int) (YS:List Nat) (LN LL:Nat->Value) (tb B:Nat) (w0:World) (S:World->List Nat->(Nat->Prop)->Prop) (yv:Nat->Int) (y1 y2:Int) (fr ub:Nat)
  (HB:w0.heap.size<=B) (FL:List Nat) (hT:Told F cb N YS LN LL B w0 FL S) (hA:OX w0 tb N nm YS LN LL) (hs:YS.Pairwise fun i k=>yv i<=yv k) (hy:y1<=y2) (hN:N.length<=1000000) (hYS:YS.length<=1000000) (jP:fr<=1000000) (nk:ub<=1000000)
  (t:FT) (s:Nat) (W:World) (acc:List Nat) (D:Nat->Prop) (ha:FT.At N t s) (hw:t.wf) (hhi:t.hi<=1000000) (hS:S W acc D) (hFL:acc++(down YS yv y1 y2 fr ub t).1 <+: FL)
  (Jm:∀l r,t=.node l r->(∀W acc D,S W acc D->acc++(down YS yv y1 y2 fr ub l).1 <+: FL->
    aO 172 #[ay tb,ag (l.root s:Nat),ag (below yv y1 (nl YS l):Nat),ag (upto yv y2 (nl YS l):Nat),.agg #[ag fr,ag ub,.func (.func F) #[] cb]] W (DnP S W D (acc++(down YS yv y1 y2 fr ub l).1) (down YS yv y1 y2 fr ub l).2))/\
    ∀W acc D,S W acc D->acc++(down YS yv y1 y2 fr ub r).1 <+: FL->aO 172 #[ay tb,ag (r.root (s+l.size):Nat),ag (below yv y1 (nl YS r):Nat),ag (upto yv y2 (nl YS r):Nat),.agg #[ag fr,ag ub,.func (.func F) #[] cb]] W (DnP S W D (acc++(down YS yv y1 y2 fr ub r).1) (down YS yv y1 y2 fr ub r).2)):
  aO 172 #[ay tb,ag (t.root s:Nat),ag (below yv y1 (nl YS t):Nat),ag (upto yv y2 (nl YS t):Nat),.agg #[ag fr,ag ub,.func (.func F) #[] cb]] W (DnP S W D (acc++(down YS yv y1 y2 fr ub t).1) (down YS yv y1 y2 fr ub t).2):=by
 obtain⟨⟨gn,off,cn,c4,r4⟩,⟨gl,cl,c5,hl,h5⟩,hn,hf,hsl⟩:=hA.below (hT.base W acc D hS) HB;have nX:=ha.get;have hlt:=ha.lt;obtain⟨an,cnn,eLN,-⟩:=hn _ _ ha;obtain⟨al,ml,cll,eLL⟩:=hsl _ hlt;obtain⟨l50,l51⟩:=h5 _ hlt;obtain⟨Rm,n0,n1,n2,n3,n4,n5,n6⟩:=nW r4 nX;rw[FT.Je]at n3;rw[FT.xB]at n4;have hlh:=FT.fe t hw;have hab:=yB (yv:=yv) (L:=nl YS t) (y:=y2);have hba:=GZ (yv:=yv) (L:=nl YS t) (y:=y1);have TG:(nl YS t).length<=YS.length:=gG _ _;rw[eLN]at l50;rw[eLL]at l51;obtain⟨a,hae⟩:∃a,a=below yv y1 (nl YS t):=⟨_,rfl⟩;obtain⟨b,hbe⟩:∃b,b=upto yv y2 (nl YS t):=⟨_,rfl⟩;rw[<-hbe]at hab;rw[<-hae]at hba;have OY:∃hi lo:Nat,hi=t.hi/\lo=t.lo:=⟨_,_,rfl,rfl⟩;obtain⟨hi,lo,ehi,elo⟩:=OY;rw[<-ehi]at n4 hhi hlh;rw[<-elo]at n3 hlh;obtain⟨K,hK⟩:∃K,K=t.root s:=⟨_,rfl⟩;obtain⟨d,hd⟩:∃d,d=t.top s:=⟨_,rfl⟩;rw[<-hd]at n0 n1 n2 n6;rw[<-hK]at l50 l51 n0 n1 n2 n3 n4 n5 n6 hlt;have HE:Hid (a=below yv y1 (nl YS t)/\b=upto yv y2 (nl YS t)/\hi=t.hi/\lo=t.lo/\K=t.root s/\d=t.top s/\(nl YS t).length<=1000000):=⟨hae,hbe,ehi,elo,hK,hd,by omega⟩;rw[<-hae,<-hbe,<-hK];have hbl:a<=1000000/\b<=1000000:=by omega
 clear hae hbe ehi elo hK hd nX hab hba TG;have HS:=ae hS;have HAA:=ae hA;have Jn:=ae Jm;have yh:=ae (hT.base W acc D hS);have jk:=iD W _ c4;simp only at jk;have KE:=ae eLL;have HLN:=ae eLN;obtain⟨nn,KH⟩:∃nn,nn=(nl YS t).length:=⟨_,rfl⟩;rw[<-KH]at l50;have KI:=ae KH;clear eLL eLN hS hA Jm hsl hn hf r4 h5 KH;obtain⟨R,hR⟩:∃R,R=down YS yv y1 y2 fr ub t:=⟨_,rfl⟩;rw[<-hR];rw[<-hR]at hFL;have HR:=ae hR;have HFL:=ae hFL;clear hFL;clear hR;go_enter Tryz.func172,Tryz.ntmps172
 go_upto_region 1 with fail
 obtain⟨w1,fJ⟩:∃w1,w1=W.alloc (.cells #[ag fr,ag ub,.func (.func F) #[] cb] 245):=⟨_,rfl⟩;have NR:Hid (w1.heap[W.heap.size]? =some (.cells #[ag fr,ag ub,.func (.func F) #[] cb] 245 (0,0))):=by rw[fJ];exact dE W _
 have fK:Hid (Below W.heap.size W w1):=by rw[fJ];exact(aM _ _).alloc (aG _) _
 have hz1:W.heap.size<w1.heap.size:=by rw[fJ];simp
 rw[<-fJ];clear fJ
 go_cut [11,12]from 11 (fun v11 v12 wx=>∃x y:Nat,v11=ay x/\v12=ay y/\Hid (wx.heap[x]? =some (.cells #[.int .u8 d.kind,ag d.l,ag d.r,ag lo,ag hi,ag 0,ag d.item] 163 (0,0)))/\
  Hid (wx.heap[y]? =some (.cells #[.slice an nn cnn,.slice al ml cll] 150 (0,0)))/\Hid (Below w1.heap.size w1 wx)/\w1.heap.size<=x/\w1.heap.size<=y)
 case first=>
  have hb1:=fK.out;have g4:=aj ((hb1.cell (p:=(ah tb 4)) jk).trans c4);have g5:=aj ((hb1.cell (p:=(ah tb 5)) jk).trans c5);have k0:=aj ((hb1.cell (p:=(ah gn (off+K*7))) Rm).trans n0);have k1:=aj ((hb1.cell (p:=(ah gn (off+K*7+1))) Rm).trans n1);have k2:=aj ((hb1.cell (p:=(ah gn (off+K*7+2))) Rm).trans n2);have k3:=aj ((hb1.cell (p:=(ah gn (off+K*7+3))) Rm).trans n3);have k4:=aj ((hb1.cell (p:=(ah gn (off+K*7+4))) Rm).trans n4);have k5:=aj ((hb1.cell (p:=(ah gn (off+K*7+5))) Rm).trans n5);have k6:=aj ((hb1.cell (p:=(ah gn (off+K*7+6))) Rm).trans n6);have j0:=aj ((hb1.cell (p:=(ah gl (K*2))) hl).trans l50);have j1:=aj ((hb1.cell (p:=(ah gl (K*2+1))) hl).trans l51);clear hb1 c4 c5 n0 n1 n2 n3 n4 n5 n6 l50 l51;refine aF (fun W=>∃p:bg w1,W=p.W) [17] [(0,false),(1,false),(2,false),(3,true),(4,false),(5,false),(6,true),(7,false),(8,false),(9,false),(10,true),(11,false),(12,false),(13,true)] (by kernel_rfl) (by kernel_rfl) (fun _ _ d _ _ h=>by cases d<;>exact h) ⟨⟨_,(aM _ _).drew⟩,rfl⟩ 4 rfl (by kernel_rfl) ?_;simp only[bG,bz,bA,bu,aS,aT,aU]
  repeat(refine aI (fun K hK=>?_);go_simp;first|(refine hK _ ?_;clear hK K)|(apply Exists.intro;refine⟨fun _=>?_,hK _ ?_⟩;rfl;clear hK K))
  refine aQ ?_;refine az [14,15] (by kernel_rfl) (by simp) ?_;refine ak.cons rfl (fun K hK=>?_) (ak.cons rfl (fun K hK=>?_) ak.nil)
  .go_simp;refine hK _ _ (fun _ _=>⟨⟨_,(aM _ w1).alloc (aG _) _|>.drew⟩,rfl⟩) ?_;clear hK K;refine az [15] (by kernel_rfl) (by simp) ?_;refine ak.cons rfl (fun K hK=>?_) ak.nil;go_simp;refine hK _ _ (fun _ _=>⟨⟨_,((aM _ w1).alloc (aG _) _).alloc (by simp) _|>.drew⟩,rfl⟩) ?_;clear hK K;refine az [16] (by kernel_rfl) (by simp) ?_;refine ak.cons rfl (fun K hK=>?_) ak.nil;go_simp;refine hK _ _ (fun _ _=>⟨⟨_,((aM _ w1).alloc (aG _) _).alloc (by simp) _|>.drew⟩,rfl⟩) ?_;clear hK K;refine aK [17] _ _ _ (by kernel_rfl) ?_;simp only[pick,bz,bA,bu,aS,aT];go_wp2;go_meet;exact⟨w1.heap.size,w1.heap.size+1,rfl,rfl,GQ _ _ _,GR _ _ _,((aM _ w1).alloc (aG _) _).alloc (by simp) _|>.drew,aG _,by omega⟩
  .go_simp;refine hK _ _ (fun _ _=>⟨⟨_,(aM _ w1).alloc (aG _) _|>.drew⟩,rfl⟩) ?_;clear hK K;refine az [14] (by kernel_rfl) (by simp) ?_;refine ak.cons rfl (fun K hK=>?_) ak.nil;go_simp;refine hK _ _ (fun _ _=>⟨⟨_,((aM _ w1).alloc (aG _) _).alloc (by simp) _|>.drew⟩,rfl⟩) ?_;clear hK K;refine az [16] (by kernel_rfl) (by simp) ?_;refine ak.cons rfl (fun K hK=>?_) ak.nil;go_simp;refine hK _ _ (fun _ _=>⟨⟨_,((aM _ w1).alloc (aG _) _).alloc (by simp) _|>.drew⟩,rfl⟩) ?_;clear hK K;refine aK [17] _ _ _ (by kernel_rfl) ?_;simp only[pick,bz,bA,bu,aS,aT];go_wp2;go_meet;exact⟨w1.heap.size+1,w1.heap.size,rfl,rfl,GR _ _ _,GQ _ _ _,((aM _ w1).alloc (aG _) _).alloc (by simp) _|>.drew,by omega,aG _⟩
 case rest=>
  obtain⟨x,y,rfl,rfl,HX,HY,Ls,hx,hy0⟩:=hcut;have NS:=(Ls.out.block _ hz1).trans NR.out;have Lv:=HX.out;have hyc:=HY.out;have p0:wc.cell? (ah W.heap.size 0)=some (ag fr):=by simp[World.cell?,NS]
  have p1:wc.cell? (ah W.heap.size 1)=some (ag ub):=by simp[World.cell?,NS]
  have p2:wc.cell? (ah W.heap.size 2)=some (.func (.func F) #[] cb):=by simp[World.cell?,NS]
  have x0:wc.cell? (ah x 0)=some (.int .u8 d.kind):=by simp[World.cell?,Lv]
  have x1:wc.cell? (ah x 1)=some (ag d.l):=by simp[World.cell?,Lv]
  have x2:wc.cell? (ah x 2)=some (ag d.r):=by simp[World.cell?,Lv]
  have x3:wc.cell? (ah x 3)=some (ag lo):=by simp[World.cell?,Lv]
  have x4:wc.cell? (ah x 4)=some (ag hi):=by simp[World.cell?,Lv]
  have y0:wc.cell? (ah y 0)=some (.slice an nn cnn):=by simp[World.cell?,hyc]
  have y1':wc.cell? (ah y 1)=some (.slice al ml cll):=by simp[World.cell?,hyc]
  have yl:Hid (Below W.heap.size W wc):=fK.out.trans (Ls.out.mono fK.out.size);have HSc:Hid (S wc acc D):=hT.kD _ _ _ _ HS.out yl.out;have Lx:=ae hT;clear Lv hyc NS c4 c5 n0 n1 n2 n3 n4 n5 n6 l50 l51 hT;have nD:=iD _ _ x0;have hyl:=iD _ _ y0;have hpl:=iD _ _ p0;by_cases hout:b<=a\/hi<=fr\/ub<=lo
  .have hdn:down YS yv y1 y2 fr ub t=([],1):=by
    obtain⟨e1,e2,e3,e4,-⟩:=HE.out;rw[e1,e2,e3,e4]at hout;exact yC hout
   have HQ:Hid (DnP S W D (acc++R.1) R.2 (.returned (ag 1)) wc):=by
    rw[HR.out,hdn];show DnP S W D (acc++[]) 1 _ _;rw[jD];exact⟨rfl,D,HSc.out,fun k h=>.inl h,(aC.refl _ _).below yl.out⟩
   clear hdn;have done:True:=trivial;by_cases h1:b<=a
   .have d1:decide ((a:Int)>=(b:Int))=true:=by simp;omega
    have d2:decide ((b:Int)<=(a:Int))=true:=by simp;omega
    have d3:decide (b<=a)=true:=by simp;omega
    go_wp2;go_ret;exact HQ.out
   .have d1:decide ((a:Int)>=(b:Int))=false:=by simp;omega
    have d2:decide ((b:Int)<=(a:Int))=false:=by simp;omega
    have d3:decide (b<=a)=false:=by simp;omega
    by_cases h2:hi<=fr
    .have e1:decide ((hi:Int)<=(fr:Int))=true:=by simp;omega
     have e2:decide (hi<=fr)=true:=by simp;omega
     go_wp2;go_ret;exact HQ.out
    .have e1:decide ((hi:Int)<=(fr:Int))=false:=by simp;omega
     have e2:decide (hi<=fr)=false:=by simp;omega
     have f1:decide ((lo:Int)>=(ub:Int))=true:=by simp;omega
     have f2:decide ((ub:Int)<=(lo:Int))=true:=by simp;omega
     have f3:decide (ub<=lo)=true:=by simp;omega
     go_wp2;go_ret;exact HQ.out
  .have d1:decide ((a:Int)>=(b:Int))=false:=by simp;omega
   have d2:decide ((b:Int)<=(a:Int))=false:=by simp;omega
   have d3:decide (b<=a)=false:=by simp;omega
   have e1:decide ((hi:Int)<=(fr:Int))=false:=by simp;omega
   have e2:decide (hi<=fr)=false:=by simp;omega
   have f1:decide ((lo:Int)>=(ub:Int))=false:=by simp;omega
   have f2:decide ((ub:Int)<=(lo:Int))=false:=by simp;omega
   have f3:decide (ub<=lo)=false:=by simp;omega
   by_cases iC:fr<=lo/\hi<=ub
   .have g1:decide ((lo:Int)>=(fr:Int))=true:=by simp;omega
    have g2:decide ((fr:Int)<=(lo:Int))=true:=by simp;omega
    have g3:decide (fr<=lo)=true:=by simp;omega
    have g4:decide ((hi:Int)<=(ub:Int))=true:=by simp;omega
    have g5:decide (hi<=ub)=true:=by simp;omega
    have hdn:down YS yv y1 y2 fr ub t=(((nl YS t).take b).drop a,1):=by
     obtain⟨e1,e2,e3,e4,-⟩:=HE.out;rw[e1,e2,e3,e4]at hout;rw[e3,e4]at iC;rw[Jh hout iC,e1,e2];congr 1;exact(GY (hs.filter _) y1 y2 hy).symm
    have HDN:=ae hdn;have C:=Lx.out.told wc acc D t s a b HSc.out ha (by omega) (by rw[HE.out.2.1];exact yB) (by have h9:=HFL.out;rw[HR.out,hdn]at h9;exact h9);rw[KE.out,HLN.out,<-KI.out]at C;have eg:=Lx.out.enters;clear hdn
    go_wp2_with (go_at_fn F;refine C.mono ?_;rintro e w' ⟨rfl,D',hS',hD',hK'⟩)
    have HD:=ae hD';go_wp2;go_ret;have e:=HDN.out;rw[<-HR.out]at e;rw[e];exact⟨rfl,D',hS',fun k h=>(HD.out k h).imp id (fun h9=>bO yl.out.size h9),((aC.refl (fun k=>D k\/W.heap.size<=k) W).below yl.out|>.trans (hK'.mono fun k h=>.inl h)).strip⟩
   .have g12:(decide ((lo:Int)>=(fr:Int))=true/\decide ((hi:Int)<=(ub:Int))=false)\/decide ((lo:Int)>=(fr:Int))=false:=by simp;omega
    obtain⟨l,r,rfl⟩:∃l r,t=.node l r:=by
     cases t with
     |leaf q=>
      obtain⟨-,-,e3,e4,-⟩:=HE.out;simp only[FT.hi]at e3;simp only[FT.lo]at e4;omega
     |node l r=>exact⟨l,r,rfl⟩
    obtain⟨al',aAT,ak8,rl⟩:=HAA.out.Em l r s ha;rw[KE.out]at ak8;injection ak8 with ee1 ee2 ee3;subst ee1 ee2 ee3;obtain⟨ia,ib,ihi,ilo,iK,id,iL⟩:=HE.out;have hdn:down YS yv y1 y2 fr ub (.node l r)=((down YS yv y1 y2 fr ub l).1++(down YS yv y1 y2 fr ub r).1,1+(down YS yv y1 y2 fr ub l).2+(down YS yv y1 y2 fr ub r).2):=by
     rw[ia,ib,ihi,ilo]at hout;rw[ihi,ilo]at iC;exact AB hout iC
    obtain⟨br1,br2⟩:=Jg (yv:=yv) l r hw hs y1;obtain⟨bs1,bs2⟩:=Ll (yv:=yv) l r hw hs y2;rw[<-ia]at br1 br2;rw[<-ib]at bs1 bs2;have xE:a<(lf l.hi (nl YS (.node l r))).length:=by rw[ui,ia];have:=GZ (yv:=yv) (L:=nl YS (.node l r)) (y:=y1);omega
    have Eo:b<(lf l.hi (nl YS (.node l r))).length:=by rw[ui,ib];have:=yB (yv:=yv) (L:=nl YS (.node l r)) (y:=y2);omega
    obtain⟨bb,bo,rfl,iY,hcc⟩:=rl.get (by omega);have q1:=hcc a xE;have q2:=hcc b Eo;rw[rq,br1]at q1;rw[rq,bs1]at q2;have zM:d.l=((l.root s:Nat):Int):=by rw[id];show((s+l.size:Nat):Int)-1=_;unfold FT.root;have:=l.size_pos;omega
    have hdr:d.r=((r.root (s+l.size):Nat):Int):=by rw[id];show((s+l.size+r.size:Nat):Int)-1=_;unfold FT.root;have:=r.size_pos;omega
    rw[zM]at x1;rw[hdr]at x2;have ym:=ha.left.lt;have LA:=ha.right.lt;have REC:=Jn.out l r rfl;have HDN:=ae hdn;generalize l.root s=kl at*;generalize r.root (s+l.size)=kr at*;generalize below yv y1 (nl YS l)=la at*;generalize below yv y1 (nl YS r)=ra at*;generalize upto yv y2 (nl YS l)=lb at*;generalize upto yv y2 (nl YS r)=rb at*;clear hcc KE rl;generalize(lf l.hi (nl YS (.node l r))).length=ml at*;have era:(a:Int)-(la:Int)=(ra:Int):=by omega
    have erb:(b:Int)-(lb:Int)=(rb:Int):=by omega
    have Rn:=ae REC;have hbase:=Lx.out.base _ _ _ HSc.out;have q1:=(hbase.cell (p:=(ah bb (bo+a))) (show bb<B by omega)).trans q1;have q2:=(hbase.cell (p:=(ah bb (bo+b))) (show bb<B by omega)).trans q2;have hDlt:=Lx.out.lt _ _ _ HS.out;have nDx:¬D x:=fun h=>by have:=(hDlt x h).2;omega
    have nDy:¬D y:=fun h=>by have:=(hDlt y h).2;omega
    have nDp:¬D W.heap.size:=fun h=>by have:=(hDlt _ h).2;omega
    have nDb:¬D bb:=fun h=>by have:=(hDlt bb h).1;omega
    have hbc:bb<wc.heap.size:=by have:=hbase.size;omega
    clear hdn hDlt REC br1 bs1 ia ib ihi ilo iK id zM hdr Jn
    go_upto_block 0 with fail
    go_cut []from 27 (fun wx=>wx=wc)
    case first=>
     rcases g12 with⟨g1,g2⟩|g1
     .have g3:decide ((fr:Int)<=(lo:Int))=true:=by simpa using g1
      have g4:decide (fr<=lo)=true:=by simpa using g1
      have g5:decide (hi<=ub)=false:=by simpa using g2
      go_wp2;go_meet;rfl
     .have g3:decide ((fr:Int)<=(lo:Int))=false:=by simpa using g1
      have g4:decide (fr<=lo)=false:=by simpa using g1
      go_wp2;go_meet;rfl
    case rest=>
     subst hcut
     go_upto_region 7 with fail
     have keep:∀{bk o:Nat} {v:Value},bk<wc.heap.size->¬D bk->wc.cell? (ah bk o)=some v->∀p:yH D wc,p.W.cell? (ah bk o)=some v:=fun hb hd hv p=>((di p.h hb hd).1 _).trans hv;have m0:=keep hpl nDp p0;have m1:=keep hpl nDp p1;have m2:=keep hpl nDp p2;have m3:=keep nD nDx x1;have m4:=keep nD nDx x2;have m5:=keep hyl nDy y1';have m6:=keep hbc nDb q1;have m7:=keep hbc nDb q2;clear keep p0 p1 p2 x0 x1 x2 x3 x4 y0 y1' q1 q2;refine aF (fun W=>∃p:yH D wc,W=p.W) [34,35,36] [(0,false),(1,false),(2,true),(3,false),(4,true),(5,false),(6,false),(7,true),(8,false),(9,true),(10,false),(11,false),(12,true),(13,true),(16,false),(17,false),(18,true),(19,false),(20,false),(21,true),(22,false),(23,false),(24,true),(25,false),(26,false),(27,false),(28,true),(29,false),(30,false),(31,true),(32,false),(33,true)] (by kernel_rfl) (by kernel_rfl) (fun _ _ d _ _ h=>by cases d<;>exact h) ⟨⟨_,(aC.refl _ _).drew⟩,rfl⟩ 5 rfl (by kernel_rfl) ?_;simp only[bG,bz,bA,bu,aS,aT,aU]
     repeat(refine aI (fun K hK=>?_);go_simp;first|(refine hK _ ?_;clear hK K)|(apply Exists.intro;refine⟨fun _=>?_,hK _ ?_⟩;rfl;clear hK K))
     refine aQ ?_;have HFb:Hid ((acc++(down YS yv y1 y2 fr ub l).1)++(down YS yv y1 y2 fr ub r).1 <+: FL):=by
      have h9:=HFL.out;rw[HR.out,HDN.out]at h9;show _ <+: _;rw[ek];exact h9
     have HFa:Hid (acc++(down YS yv y1 y2 fr ub l).1 <+: FL):=(List.prefix_append _ _).trans HFb.out;have HSd:S wc.drew acc D:=Lx.out.kD _ _ _ _ HSc.out (aM _ _).drew;refine az [14] (by kernel_rfl) (by simp) ?_;refine ak.cons rfl (fun K hK=>?_) ak.nil;refine bD Lu rfl _ _ rfl (vals:=#[ay tb,ag kl,ag la,ag lb,.agg #[ag fr,ag ub,.func (.func F) #[] cb]]) rfl (Rn.out.1 _ _ _ HSd HFa.out) ?_;rintro e w2 ⟨rfl,D2,hS2,hD2,hK2⟩;have hk2:aC D wc w2:=(aC.refl _ wc).drew.trans hK2;refine⟨_,rfl,hK _ _ (fun _ _=>⟨⟨_,hk2⟩,rfl⟩) ?_⟩;clear hK K;refine cK [(15,false)] (by kernel_rfl) (fun _ _ d _ _ h=>by cases d<;>exact h) ⟨⟨_,hk2⟩,rfl⟩ (by kernel_rfl) (by kernel_rfl) rfl ?_;simp only[bG,bz,bA,bu,aS,aT,aU]
     repeat(refine aI (fun K hK=>?_);go_simp;first|(refine hK _ ?_;clear hK K)|(apply Exists.intro;refine⟨fun _=>?_,hK _ ?_⟩;rfl;clear hK K))
     refine aQ ?_;refine aK [34,35,36] _ _ _ (by kernel_rfl) ?_;simp only[pick,bz,bA,bu,aS,aT];have C2:=Rn.out.2 _ _ _ hS2 HFb.out;have HKK:=ae hk2;have HDD:=ae hD2;have HD0:=ae (Lx.out.lt _ _ _ HS.out);clear hk2 hD2 hK2 hS2 HSd
     go_wp2_with (go_at_call 172;refine C2.mono ?_;rintro e w3 ⟨rfl,D3,hS3,hD3,hK3⟩)
     have hz1:=nK (YS:=YS) (yv:=yv) (y1:=y1) (y2:=y2) (fr:=fr) (ub:=ub) l;have hz2:=nK (YS:=YS) (yv:=yv) (y1:=y1) (y2:=y2) (fr:=fr) (ub:=ub) r;have hz3:=FT.size_eq _ hw;have hz4:(FT.node l r).size=l.size+r.size+1:=rfl;have hz5:=HE.out.2.2.1;have e:=HDN.out;rw[<-HR.out]at e;rw[e];have arZ:=ae hD3;have hKw:aC (fun k=>D k\/W.heap.size<=k) W w3:=
      (((aC.refl (fun k=>D k\/W.heap.size<=k) W).below yl.out).trans (HKK.out.mono fun k h=>.inl h)).trans (hK3.mono fun k h=>by
       rcases HDD.out k h with h9|h9
       .exact .inl h9
       .right;have:=yl.out.size;simp at h9;omega)
     rw[ek]at hS3;go_ret;refine⟨?_,D3,hS3,fun k h=>?_,hKw.strip⟩
     .refine congrArg Ending.returned ?_;show ag (wrap64 (wrap64 (1+((down YS yv y1 y2 fr ub l).2:Int))+((down YS yv y1 y2 fr ub r).2:Int)))=_;generalize(down YS yv y1 y2 fr ub l).2=A at*;generalize(down YS yv y1 y2 fr ub r).2=B at*;have hA:A<=2000000:=by omega
      have hB:B<=2000000:=by omega
      rw[WN (1+(A:Int)) (by omega),WN _ (by omega)];exact congrArg _ (by omega)
     .rcases arZ.out k h with h9|h9
      .rcases HDD.out k h9 with h8|h8
       .exact .inl h8
       .right;have:=yl.out.size;simp at h8;omega
      .right;have:=HKK.out.size;have:=yl.out.size;omega
theorem TH (F:Nat) (cb:Array Value) (N:List Nd) (nm:Nat->Int) (YS:List Nat) (LN LL:Nat->Value) (tb B:Nat) (w0:World) (S:World->List Nat->(Nat->Prop)->Prop) (yv:Nat->Int) (y1 y2:Int) (fr ub:Nat)
  (HB:w0.heap.size<=B) (FL:List Nat) (hT:Told F cb N YS LN LL B w0 FL S) (hA:OX w0 tb N nm YS LN LL) (hs:YS.Pairwise fun i k=>yv i<=yv k) (hy:y1<=y2) (hN:N.length<=1000000) (hYS:YS.length<=1000000) (jP:fr<=1000000) (nk:ub<=1000000):
  ∀(t:FT) (s:Nat),FT.At N t s->t.wf->t.hi<=1000000->∀(W:World) (acc:List Nat) (D:Nat->Prop),S W acc D->acc++(down YS yv y1 y2 fr ub t).1 <+: FL->
  aO 172 #[ay tb,ag (t.root s:Nat),ag (below yv y1 (nl YS t):Nat),ag (upto yv y2 (nl YS t):Nat),.agg #[ag fr,ag ub,.func (.func F) #[] cb]] W (DnP S W D (acc++(down YS yv y1 y2 fr ub t).1) (down YS yv y1 y2 fr ub t).2):=by
 intro t
 induction t with
 |leaf x=>exact fun s ha hw hh W acc D hS hF=>En F cb N nm YS LN LL tb B w0 S yv y1 y2 fr ub HB FL hT hA hs hy hN hYS jP nk _ s W acc D ha hw hh hS hF (fun l r e=>by cases e)
 |node l r il ir=>
  intro s ha hw hh W acc D hS hF;refine En F cb N nm YS LN LL tb B w0 S yv y1 y2 fr ub HB FL hT hA hs hy hN hYS jP nk _ s W acc D ha hw hh hS hF fun l' r' e=>?_;cases e;have h1:=FT.fe r hw.2.1;have h2:=hw.2.2;have h3:(FT.node l r).hi=r.hi:=rfl;exact⟨fun W acc D hS hF=>il s ha.left hw.1 (by omega) W acc D hS hF,fun W acc D hS hF=>ir _ ha.right hw.2.1 (by omega) W acc D hS hF⟩
end Go.Proofs.YtkjdbndekceffaaGreat
namespace Go.Proofs.YtkjdbndekceffaaGreat
open Go.RowKit
section
variable {P:Program} {ops:Array Oper} {rest:List Oper} {o:Oper} {a:Act} {Q:Exit->Act->World->Prop}
theorem Db {α:Type} {enc:α->List Value} {sz:Nat} {W:World} {ad:Option Addr} {l:List α} {c:Nat} (hl:dU enc sz W ad l) (hc:l.length<=c) (lo hi:Nat) (hh:hi<=l.length):
  dU enc sz W (if c=lo then ad else ad.map (·.add (lo*sz))) ((l.take hi).drop lo):=by
 by_cases h:c=lo
 .exact .inl (by rw[List.drop_eq_nil_iff,eF];omega)
 .rw[aP h];rcases hl with rfl|⟨b,off,rfl,hb,hcs⟩
  .exact .inl (by simp)
  .have h1:dU enc sz W (some (ah b off)) l:=.inr ⟨b,off,rfl,hb,hcs⟩;have j6:((ah b off):Addr).add (lo*sz)=(ah b (off+lo*sz)):=by unfold Addr.add;split<;>simp_all
   simp only[aU,j6];exact(h1.take hi).drop lo
theorem TI {α:Type} {enc:α->List Value} {sz:Nat} {t e:TypeId} {bytes:Nat} (E:eQ P t e sz bytes) {W:World} {ad:Option Addr} {l:List α} {c:Nat} (hl:dU enc sz W ad l) (hc:l.length<=c) (lo hi:Nat) (h1:lo<=hi) (h2:hi<=l.length)
  (hgd:o.guard=none) (x:Operand) (low high:Option Operand) (ho:o.op=.slice t x low high none) (hx:a.eval x=.slice ad l.length c)
  (nY:(low.map a.eval).getD (.int .i64 0)=.int .i64 lo) (gI:(high.map a.eval).getD (.int .i64 l.length)=.int .i64 hi)
  (h:∀Ep,dU enc sz W Ep ((l.take hi).drop lo)->wpList P ops Q rest (a.put o.dst (.slice Ep (hi-lo) (c-lo))) W):wpList P ops Q (o::rest) a W:=by
 obtain⟨ht,⟨i,z,hi',hz,hsize,hby,hzs⟩,hsz⟩:=E;refine Au hgd fun K hK=>?_;have hk:=hK _ _ (h _ (Db hl hc lo hi h2));have hu:∀W',(underlying t).run P W'=.ok (.slice e) W':=fun W'=>pM ht W';have hs:∀W',(sizeOf e).run P W'=.ok sz W':=fun W'=>by simp[sizeOf,typeInfo,hi',hsize]
 unfold Oper.wp execOp;have hhc:hi<=c:=by omega
 rcases low with _|lw
 .simp only[nS,oQ,mE,mH]at nY;obtain rfl:lo=0:=by omega
  rcases high with _|hg
  .simp only[nS,oQ,mE,mH]at gI;obtain rfl:hi=l.length:=by omega
   simp only[ho,hx,nS,Instr.sliceAt,Instr.slice,Instr.sliceBounds,Av,hu,hs,Aa,Aw];exact hk
  .simp only[aU,fV]at gI;simp[ho,hx,gI,Instr.sliceAt,Instr.slice,Instr.sliceBounds,Instr.sliceBound,hu,hs,asIntOf,hhc];simp only[Nat.zero_mul,Nat.sub_zero]at hk;exact hk
 .simp only[aU,fV]at nY;rcases high with _|hg
  .simp only[nS,oQ,mE,mH]at gI;obtain rfl:hi=l.length:=by omega
   simp[ho,hx,nY,Instr.sliceAt,Instr.slice,Instr.sliceBounds,Instr.sliceBound,hu,hs,asIntOf,h1];exact hk
  .simp only[aU,fV]at gI;simp[ho,hx,nY,gI,Instr.sliceAt,Instr.slice,Instr.sliceBounds,Instr.sliceBound,hu,hs,asIntOf,h1,hhc];exact hk
end
end Go.Proofs.YtkjdbndekceffaaGreat
namespace Go.Proofs.YtkjdbndekceffaaGreat
open Go Go.RowKit
theorem wF {P:Program} {ops:Array Oper} {o:Oper} {a:Act} {C:World->Prop} {b:Bool} {K:Act->Prop} {E0:Prop} {α:Type} {enc:α->List Value} {sz:Nat} {t e:TypeId} {bytes:Nat} (E:eQ P t e sz bytes) (ad:Option Addr) (l:List α) (c lo hi:Nat) (hc:l.length<=c) (h1:lo<=hi) (h2:hi<=l.length)
  (hw:Region.wanted o (yielded ops a.tmps)=true) (x:Operand) (low high:Option Operand) (ho:o.op=.slice t x low high none) (hx:a.eval x=.slice ad l.length c) (nY:(low.map a.eval).getD (.int .i64 0)=.int .i64 lo) (gI:(high.map a.eval).getD (.int .i64 l.length)=.int .i64 hi)
  (h:∀Ep,(∀W,dU enc sz W ad l->dU enc sz W Ep ((l.take hi).drop lo))->K (a.put o.dst (.slice Ep (hi-lo) (c-lo)))):
  if Region.wanted o (yielded ops a.tmps)=true then Oper.fM P o a C b K else E0:=by
 rw[aR hw];have Jo:hi<=c:=by omega
 obtain⟨ht,⟨i,z,hi',hz,hsize,hby,hzs⟩,hsz⟩:=E;have hu:∀W',(underlying t).run P W'=.ok (.slice e) W':=fun W'=>pM ht W';have hs:∀W',(sizeOf e).run P W'=.ok sz W':=fun W'=>by simp[sizeOf,typeInfo,hi',hsize]
 refine⟨_,fun w _=>?_,h _ (fun W hr=>Db hr hc lo hi h2)⟩;unfold execOp;rcases low with _|lw
 .simp only[nS,oQ,mE,mH]at nY;obtain rfl:lo=0:=by omega
  rcases high with _|hg
  .simp only[nS,oQ,mE,mH]at gI;obtain rfl:hi=l.length:=by omega
   simp[ho,hx,Instr.sliceAt,Instr.slice,Instr.sliceBounds,Instr.sliceBound,hu,hs,asIntOf,Jo]
  .simp only[aU,fV]at gI;simp[ho,hx,gI,Instr.sliceAt,Instr.slice,Instr.sliceBounds,Instr.sliceBound,hu,hs,asIntOf,Jo]
 .simp only[aU,fV]at nY;rcases high with _|hg
  .simp only[nS,oQ,mE,mH]at gI;obtain rfl:hi=l.length:=by omega
   simp[ho,hx,nY,Instr.sliceAt,Instr.slice,Instr.sliceBounds,Instr.sliceBound,hu,hs,asIntOf,h1]
  .simp only[aU,fV]at gI;simp[ho,hx,nY,gI,Instr.sliceAt,Instr.slice,Instr.sliceBounds,Instr.sliceBound,hu,hs,asIntOf,h1,Jo]
end Go.Proofs.YtkjdbndekceffaaGreat
