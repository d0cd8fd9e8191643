/- Made small by a program. -/
import Derived.Test.YtkjdbndekceffaaGreatY17
set_option linter.unusedSimpArgs false
set_option linter.unusedVariables false
set_option maxRecDepth 100000
set_option maxHeartbeats 16000000
namespace Go.Proofs.YtkjdbndekceffaaGreat
open Tryz
section
open Go.RowKit Go.Sort Go.Shelf Go.Lib Go.Maps
attribute [local irreducible] wpQuiet
def fK (B:List (Nat×Nat×List Pt)) (i:Nat):List Pt:=(B[i]?.getD (0,0,[])).2.2
def jH (B:List (Nat×Nat×List Pt)) (i:Nat):Nat:=(B[i]?.getD (0,0,[])).2.1
theorem JV {α b:Type} (B:List α) (d:α) (g:α->List b):(List.range B.length).flatMap (fun i=>g (B[i]?.getD d))=B.flatMap g:=by
 rw[Ar,Ar];congr 1;refine rF aA fun i c a=>?_;rw[bR]at a;rw[fM,fM,xI,bZ a,gG]
theorem DK (B:List (Nat×Nat×List Pt)) {a:Type} (g:List Pt->List a):(List.range B.length).flatMap (fun i=>g (fK B i))=B.flatMap fun b=>g b.2.2:=JV B (0,0,[]) fun b=>g b.2.2
theorem DL {α b:Type} {g h:α->List b}:∀(l:List α),(∀a,(g a).Perm (h a))->(l.flatMap g).Perm (l.flatMap h)
 |[],_=>.refl _
 |a::l,H=>by
  rw[lV,lV];exact(H a).append (DL l H)
theorem JW {B:List (Nat×Nat×List Pt)} {now:List Pt} (hp:(jm B).Perm now) (f:Pt->Bool):dR ((List.range B.length).flatMap fun i=>dR (ids ((fK B i).filter f)))=dR (ids (now.filter f)):=by
 rw[DK B fun l=>dR (ids (l.filter f))];refine EO (nK _) ((oC _ _).trans ?_);have a:(ids ((jm B).filter f)).Perm (ids (now.filter f)):=(hp.filter f).map _;refine a.symm.trans ?_;unfold jm ids;rw[List.filter_flatMap,List.map_flatMap];exact DL B fun b=>(oC _ _).symm
theorem SumB.two {bd:Nat->Nat->Prop} {r:Nat->Nat} {b:Nat} (c:∀i t,bd i t->r i<=t/\t<=2*r i+b):∀{i n:Nat},SumB bd i n->((List.range i).map r).sum<=n/\n<=2*((List.range i).map r).sum+i*b
 |0,n,a=>by simp[SumB]at a;subst a;simp
 |i+1,n,a=>by
  obtain⟨n',t,d,f,rfl⟩:=a;have g:=SumB.two c d;have h:=c i t f;have e:([i].map r).sum=r i:=aA;rw[uU,bP,Ay,e,mM i 1 b];omega
def DN (N:Int) (L CQ:Nat):Prop:=L<=CQ/\∀K:Nat,N<((2^K:Nat):Int)->CQ<=2*L+K*(8*K+1)
theorem bitLen_le {n K:Nat} (h:n<2^K) (f:n<=20000):Lib.bitLen n<=K:=by
 by_cases a:n=0
 .subst a;exact bH _
 .obtain⟨c,b,d⟩:=bB n aa a;have e:Lib.bitLen n-1<K:=(Ic (by decide:1<2)).1 (rz b h);omega
section
variable {w w1:World} {Pb m:Nat} {G GH:Nat->Prop} {now:List Pt} {A:List eP} {N wk eH:Int} {B:List (Nat×Nat×List Pt)} {F:Nat->Nat->Prop}
theorem Fp.cost (T:Fp w w1 GH A N B F) {r:Nat->Nat} {bd:Nat->Nat->Prop} (g:∀i t,bd i t->r i<=t/\t<=2*r i+(8*Lib.bitLen (jH B i)+1)) {n:Nat} (j:SumB bd B.length n):DN N ((List.range B.length).map r).sum n:=by
 have c:∀i,jH B i<=20000/\∀K:Nat,N<((2^K:Nat):Int)->jH B i<2^K:=fun i=>by
  unfold jH;by_cases hi:i<B.length
  .rw[bZ hi];have a:=T.built _ (bG hi);refine⟨a.2,fun K f=>?_⟩;simp only[gG];omega
  .rw[oz aa];exact⟨bH _,fun K _=>p8 ai⟩
 refine⟨(SumB.two (r:=r) (b:=2000) (fun i t h=>?_) j).1,fun K f=>?_⟩
 .have a:=g i t h;have d:Lib.bitLen (jH B i)<=15:=bitLen_le (rz (c i).1 ai) (c i).1;omega
 .have a:=(SumB.two (r:=r) (b:=8*K+1) (fun i t h=>by
   have a:=g i t h;have d:=bitLen_le ((c i).2 K f) (c i).1;omega) j).2
  have d:B.length<=K:=by
   by_cases k:B.length=0
   .omega
   .have e:=T.log k;have l:((2:Int)^(B.length-1))=((2^(B.length-1):Nat):Int):=aA;rw[l]at e;have m:(2:Nat)^(B.length-1)<2^K:=aa;have o:=(Ic (by decide:1<2)).1 m;omega
  have e:=pF (8*K+1) d;omega
def K6 (w:World) (Pb:Nat) (G:Nat->Prop) (m:Nat) (now:List Pt) (N wk eH:Int) (L:List Int) (e:Ending) (w':World):Prop:=
 ∃(v:Value) (CQ:Nat),e=.returned (.tuple #[v,ae CQ])/\w'.ownsRow w.heap.size 27 1 v L.length (L.map (Value.int .u32))/\DN N L.length CQ/\ay (fun k=>k=Pb) w w'/\ek w' Pb G m now N wk (wrap64 (eH+CQ))
theorem oq.at (W:oq w G F B) {i:Nat} (hi:i<B.length):Bk w (F i) B[i].1 (jH B i) (fK B i):=by
 have h:=W.bk i hi;unfold jH fK;rwa [bZ hi]
theorem oq.few (W:oq w G F B) (f:Pt->Bool) (i:Nat):((fK B i).filter f).length<=20000:=by
 refine bA (gV _ _) ?_;by_cases hi:i<B.length
 .obtain⟨lo,m0,m1,m2,m3,m4,a,bx,cn,hp,lw,ob,tl,sv,dn,h⟩:=W.at hi;have:=h.box.Fe;omega
 .unfold fK;rw[oz aa];simp
theorem oq.Wm (hp:(jm B).Perm (A.map (·.1))) (d:∀c∈A,Be c.1) (i:Nat):T9 (fK B i):=fun p a=>by
 have b:p∈jm B:=by
  unfold fK at a;by_cases hi:i<B.length
  .rw[bZ hi]at a;exact xO.2 ⟨_,bG hi,a⟩
  .rw[oz aa]at a;simp at a
 obtain⟨c,e,rfl⟩:=cu.1 (hp.mem_iff.1 b);exact d c e
theorem JX {fn:FuncId} {cs:Array Value} (f:Pt->Bool) (q:∀args w,(callFunc fn args).run prog w=.ok (.enter fn args) w) (h:ek w Pb G m now N wk eH)
  (ask:∀(u:World) (F:Nat->Prop) (tb n0:Nat) (l:List Pt),Below w.heap.size w u->Bk u F tb n0 l->T9 l->aK fn (#[aj tb]++cs) u fun e d=>∃(v:Value) (t:Nat),e=.returned (.tuple #[v,ae t])/\((dR (ids (l.filter f))).length<=t/\t<=2*(dR (ids (l.filter f))).length+(8*Lib.bitLen n0+1))/\d.ownsRow u.heap.size 27 1 v (dR (ids (l.filter f))).length ((dR (ids (l.filter f))).map (Value.int .u32))/\Below u.heap.size u d):
  aK 65 #[aj Pb,.func (.func fn) #[] cs] w (K6 w Pb G m now N wk eH (dR (ids (now.filter f)))):=by
 obtain⟨Hb,Ab,base,av,GH,SD,A,D,ALL,a,rfl,s⟩:=h;have x:=a.half.facts.2.2.2.2.1;refine(Rt (Q:=fun L n=>L=dR (ids ((A.map (·.1)).filter f))/\DN N L.length n) q a.blk a.half (fun k E=>(a.q9.1 k E).2.2.2) ?_).mono ?_
 .intro w1 B F T;have p:∀i,(dR (ids ((fK B i).filter f))).length=((fK B i).filter f).length:=fun i=>by rw[iB];exact bR _
  have o:=fun i=>T.wd.few f i;refine⟨fun i=>dR (ids ((fK B i).filter f)),fun i t=>(dR (ids ((fK B i).filter f))).length<=t/\t<=2*(dR (ids ((fK B i).filter f))).length+(8*Lib.bitLen (jH B i)+1)/\jH B i<=20000,fun i t ht=>?_,fun i=>by rw[p];exact o i,fun i hi u b y=>?_,fun n H=>⟨JW T.perm f,?_⟩⟩
  .have g:=o i
   replace ht:(dR (ids ((fK B i).filter f))).length<=t/\t<=2*(dR (ids ((fK B i).filter f))).length+(8*Lib.bitLen (jH B i)+1)/\jH B i<=20000:=ht
   have j:Lib.bitLen (jH B i)<=15:=bitLen_le (rz ht.2.2 ai) ht.2.2;rw[p]at ht;omega
  .refine(ask u (F i) B[i].1 (jH B i) (fK B i) b (y.at hi) (oq.Wm T.perm x i)).mono ?_;rintro e d ⟨v,t,rfl,ht,c,z⟩;refine⟨v,t,rfl,⟨ht.1,ht.2,?_⟩,c,z⟩;unfold jH;rw[bZ hi];exact(T.built _ (bG hi)).2
  .have g:=T.cost (r:=fun i=>(dR (ids ((fK B i).filter f))).length) (fun i t ht=>⟨ht.1,ht.2.1⟩) H;have j:(dR ((List.range B.length).flatMap fun i=>dR (ids ((fK B i).filter f)))).length=((List.range B.length).map fun i=>(dR (ids ((fK B i).filter f))).length).sum:=by rw[iB,List.length_flatMap]
   rw[j];exact g
 .rintro e w' ⟨v,L,I,rfl,c,⟨rfl,C⟩,K,b⟩;exact⟨v,I,rfl,c,C,K,Hb,Ab,base,av,GH,SD,A,D,ALL,a.Sa K b,rfl,s⟩
def Nb (x y way:Int) (p:Pt):Bool:=decide (way<=3)&&BF x y (decide (way%2=1)) (decide (2<=way)) p
theorem Rz (l:List Pt) (x y a:Int):Fs l x y a=dR (ids (l.filter (Nb x y a))):=by
 unfold Fs Nb;by_cases b:a<=3
 .simp only[b,gN,decide_true,Bool.true_and];rfl
 .simp only[b,jO,decide_false,Bool.false_and];rw[uD.2 aA];exact OG.symm
theorem Hg (h:ek w Pb G m now N wk eH) (x1 x2 y1 y2 a:Int):aK 17 #[aj Pb,.agg #[ae x1,ae x2,ae y1,ae y2,ak a]] w (K6 w Pb G m now N wk eH (dR (ids (now.filter (CK x1 x2 y1 y2))))):=by
 have s:Below w.heap.size w (w.alloc (.cells #[ae x1,ae x2,ae y1,ae y2,ak a] 38)):=(aJ _ _).alloc (aB _) _;have sz:(w.alloc (.cells #[ae x1,ae x2,ae y1,ae y2,ak a] 38)).heap.size=w.heap.size+1:=aA;have i:(w.alloc (.cells #[ae x1,ae x2,ae y1,ae y2,ak a] 38)).heap[w.heap.size]? =some (Obj.cells #[ae x1,ae x2,ae y1,ae y2,ak a] 38 (0,0)):=by
  have q:=df w (.cells #[ae x1,ae x2,ae y1,ae y2,ak a] 38);have e:w.heap.size=w.heap.size:=aA;rw[e]at q;exact q
 have j:=ag (JX (fn:=66) (cs:=#[aj w.heap.size]) (CK x1 x2 y1 y2) G9 (h.below s) fun u F tb n0 l y x C=>by
  have b:=(aT y i).trans i;refine(M6 x x1 x2 y1 y2 a (fE b) (fE b) (fE b) (fE b) (fE b)).mono ?_;rintro e D ⟨v,t,rfl,⟨c,rfl,g⟩,f,z⟩;exact⟨v,_,rfl,⟨Nat.le_add_left _ _,by unfold hasB at*;omega⟩,f,z⟩)
 have d:ay (fun k=>k=Pb) w (w.alloc (.cells #[ae x1,ae x2,ae y1,ae y2,ak a] 38)):=(ay.refl _ w).alloc _;have d:=ag d;have A:=ag sz;go_enter func17,ntmps17
 go_wp2_with fail
 refine j.o.mono ?_;rintro e E ⟨v,B,rfl,f,g,K,hP⟩;have HO:=ag f;have r:=ag hP;have p:=ag K;have n:=ag g;go_wp2;go_ret2;exact⟨v,B,rfl,eF HO.o (by rw[A.o];omega),n.o,d.o.trans p.o,r.o⟩
theorem RA (h:ek w Pb G m now N wk eH) (x1 x2 y:Int):aK 19 #[aj Pb,ae x1,ae x2,ae y] w (K6 w Pb G m now N wk eH (dR (ids (now.filter (KC x1 x2 y))))):=by
 have r:Below w.heap.size w (((w.alloc (.cells #[ae x1] 2)).alloc (.cells #[ae x2] 2)).alloc (.cells #[ae y] 2)):=(((aJ _ _).alloc (aB _) _).alloc aA _).alloc aF _;have sz:(((w.alloc (.cells #[ae x1] 2)).alloc (.cells #[ae x2] 2)).alloc (.cells #[ae y] 2)).heap.size=w.heap.size+3:=aA;have d:(((w.alloc (.cells #[ae x1] 2)).alloc (.cells #[ae x2] 2)).alloc (.cells #[ae y] 2)).heap[w.heap.size]? =some (Obj.cells #[ae x1] 2 (0,0)):=by
  have q:=df w (.cells #[ae x1] 2);have e:w.heap.size=w.heap.size:=aA;rw[e]at q;exact(bW _ _ _ (by simp;try omega)).trans ((bW _ _ _ (by simp;try omega)).trans (q))
 have f:(((w.alloc (.cells #[ae x1] 2)).alloc (.cells #[ae x2] 2)).alloc (.cells #[ae y] 2)).heap[w.heap.size+1]? =some (Obj.cells #[ae x2] 2 (0,0)):=by
  have q:=df (w.alloc (.cells #[ae x1] 2)) (.cells #[ae x2] 2);have e:(w.alloc (.cells #[ae x1] 2)).heap.size=w.heap.size+1:=aA;rw[e]at q;exact(bW _ _ _ (by simp;try omega)).trans (q)
 have g:(((w.alloc (.cells #[ae x1] 2)).alloc (.cells #[ae x2] 2)).alloc (.cells #[ae y] 2)).heap[w.heap.size+2]? =some (Obj.cells #[ae y] 2 (0,0)):=by
  have q:=df ((w.alloc (.cells #[ae x1] 2)).alloc (.cells #[ae x2] 2)) (.cells #[ae y] 2);have e:((w.alloc (.cells #[ae x1] 2)).alloc (.cells #[ae x2] 2)).heap.size=w.heap.size+2:=aA;rw[e]at q;exact q
 have i:=ag (JX (fn:=68) (cs:=#[aj w.heap.size,aj (w.heap.size+1),aj (w.heap.size+2)]) (KC x1 x2 y) JO (h.below r) fun u F tb n0 l b s J=>by
  have D:=(aT b d).trans d;have E:=(aT b f).trans f;have H:=(aT b g).trans g;refine(PM s x1 x2 y (fE D) (fE E) (fE H)).mono ?_;rintro e L ⟨v,t,rfl,⟨A,B⟩,c,x⟩;exact⟨v,t,rfl,⟨A,bA B (by unfold KN xe;omega)⟩,c,x⟩)
 have a:ay (fun k=>k=Pb) w (((w.alloc (.cells #[ae x1] 2)).alloc (.cells #[ae x2] 2)).alloc (.cells #[ae y] 2)):=(((ay.refl _ w).alloc _).alloc _).alloc _;have a:=ag a;have C:=ag sz;go_enter func19,ntmps19
 go_wp2_with fail
 refine i.o.mono ?_;rintro e M ⟨v,I,rfl,c,z,K,hP⟩;have HO:=ag c;have p:=ag hP;have n:=ag K;have j:=ag z;go_wp2;go_ret2;exact⟨v,I,rfl,eF HO.o (by rw[C.o];omega),j.o,a.o.trans n.o,p.o⟩
theorem PS (h:ek w Pb G m now N wk eH) (x y a:Int) (B:0<=a):aK 18 #[aj Pb,ae x,ae y,.int .u8 a] w (K6 w Pb G m now N wk eH (dR (ids (now.filter (Nb x y a))))):=by
 have A:Below w.heap.size w (((w.alloc (.cells #[ae x] 2)).alloc (.cells #[ae y] 2)).alloc (.cells #[.int .u8 a] 5)):=(((aJ _ _).alloc (aB _) _).alloc aA _).alloc aF _;have sz:(((w.alloc (.cells #[ae x] 2)).alloc (.cells #[ae y] 2)).alloc (.cells #[.int .u8 a] 5)).heap.size=w.heap.size+3:=aA;have i:(((w.alloc (.cells #[ae x] 2)).alloc (.cells #[ae y] 2)).alloc (.cells #[.int .u8 a] 5)).heap[w.heap.size]? =some (Obj.cells #[ae x] 2 (0,0)):=by
  have q:=df w (.cells #[ae x] 2);have e:w.heap.size=w.heap.size:=aA;rw[e]at q;exact(bW _ _ _ (by simp;try omega)).trans ((bW _ _ _ (by simp;try omega)).trans (q))
 have j:(((w.alloc (.cells #[ae x] 2)).alloc (.cells #[ae y] 2)).alloc (.cells #[.int .u8 a] 5)).heap[w.heap.size+1]? =some (Obj.cells #[ae y] 2 (0,0)):=by
  have q:=df (w.alloc (.cells #[ae x] 2)) (.cells #[ae y] 2);have e:(w.alloc (.cells #[ae x] 2)).heap.size=w.heap.size+1:=aA;rw[e]at q;exact(bW _ _ _ (by simp;try omega)).trans (q)
 have n:(((w.alloc (.cells #[ae x] 2)).alloc (.cells #[ae y] 2)).alloc (.cells #[.int .u8 a] 5)).heap[w.heap.size+2]? =some (Obj.cells #[.int .u8 a] 5 (0,0)):=by
  have q:=df ((w.alloc (.cells #[ae x] 2)).alloc (.cells #[ae y] 2)) (.cells #[.int .u8 a] 5);have e:((w.alloc (.cells #[ae x] 2)).alloc (.cells #[ae y] 2)).heap.size=w.heap.size+2:=aA;rw[e]at q;exact q
 have p:=ag (JX (fn:=67) (cs:=#[aj w.heap.size,aj (w.heap.size+1),aj (w.heap.size+2)]) (Nb x y a) Hd (h.below A) fun u F tb n0 l d C E=>by
  have I:=(aT d i).trans i;have J:=(aT d j).trans j;have L:=(aT d n).trans n;refine(M7 C x y a E B (fE I) (fE J) (fE L)).mono ?_;rw[Rz];rintro e O ⟨v,t,rfl,⟨c,rfl,g⟩,f,D⟩;exact⟨v,_,rfl,⟨Nat.le_add_left _ _,aa⟩,f,D⟩)
 have b:ay (fun k=>k=Pb) w (((w.alloc (.cells #[ae x] 2)).alloc (.cells #[ae y] 2)).alloc (.cells #[.int .u8 a] 5)):=(((ay.refl _ w).alloc _).alloc _).alloc _;have b:=ag b;have H:=ag sz;go_enter func18,ntmps18
 go_wp2_with fail
 refine p.o.mono ?_;rintro e P ⟨v,M,rfl,f,g,K,hP⟩;have HO:=ag f;have z:=ag hP;have s:=ag K;have r:=ag g;go_wp2;go_ret2;exact⟨v,M,rfl,eF HO.o (by rw[H.o];omega),r.o,b.o.trans s.o,z.o⟩
end
end
section
open Go.RowKit Go.Sort Go.Shelf Go.Lib Go.Maps
attribute [local irreducible] wpQuiet
attribute [local go_sem] Oper.eT
def lowMin (s:Option Pt):Option Pt->Option Pt
 |none=>s
 |some p=>match s with
  |none=>some p
  |some q=>if nX p q<0 then some p else some q
def ug (l:List Pt) (x1 x2:Int):Option Pt:=(Nu l x1 x2).head?
theorem ay.Fv {S:Nat->Prop} {w w':World} (K:ay S w w') {g:Nat} (b:S g) (cs:Array Value):ay S w (w'.setRow g cs):=
 ⟨K.os,K.tape,K.output,by rw[setRow_size];exact K.size,fun k c a=>(setRow_other w' g k cs (fun e=>a (e▸b))).trans (K.block k c a)⟩
def Fw (s:Option Pt):Obj:=.cells #[.bool s.isSome] 4 (0,0)
theorem Hl:gF 42:=dh func42 aN rfl
theorem PT:gF 70:=dh func70 aN rfl
theorem TQ {u:World} {F:Nat->Prop} {tb n0:Nat} {l:List Pt} (h:Bk u F tb n0 l) (x1 x2:Int) (s:Option Pt) {ar av fb b:Nat} (ax:u.cell? (af ar 0)=some (ae x1)) (az:u.cell? (af av 0)=some (ae x2)) (aa:u.heap[fb]? =some (Fw s)) (hp:u.heap[b]? =some (zB (s.getD (0,0,0)))) (S:fb≠b):
  aK 70 #[aj tb,aj ar,aj av,aj fb,aj b] u fun e ac=>∃t:Nat,e=.returned (ae t)/\t<=uB n0/\ac.heap[fb]? =some (Fw (lowMin s (ug l x1 x2)))/\ac.heap[b]? =some (zB ((lowMin s (ug l x1 x2)).getD (0,0,0)))/\ay (fun k=>k=fb\/k=b) u ac:=by
 obtain⟨lo,m0,m1,m2,m3,m4,hi,bx,cn,a7,lw,ob,tl,sv,dn,h⟩:=h;have H:=ag h;have aw:u.cell? (af tb 4)=some (aj lw):=aD h.blk;have G:Hid (∀W,Below u.heap.size u W->aK 42 #[aj lw,ae x1,ae x2] W fun e w'=>(∃c:Nat,e=.returned (.tuple #[iV ((ug l x1 x2).getD (0,0,0)).1 ((ug l x1 x2).getD (0,0,0)).2.1 ((ug l x1 x2).getD (0,0,0)).2.2,.bool (ug l x1 x2).isSome,ae c])/\c<=uB n0)/\Below W.heap.size W w'):=fun W aU=>by
  refine(Re (H.o.low.kept ((ay.refl (fun _=>False) u).below aU) (fun _ _ _ h=>h)) x1 x2).mono ?_;rintro e w' ⟨⟨p,hp,c,aW,A⟩,aV⟩;subst hp;exact⟨⟨c,aW,A⟩,aV⟩
 have Z:=ah aw;have X:=ah ax;have Y:=ah az;have aX:=(aY.1 aa).1;have a0:=(aY.1 hp).1;have aP:=ag aa;have aQ:=ag hp;clear h aw aa hp ax az;generalize ug l x1 x2=r at*;go_enter func70,ntmps70
 go_upto_region 1 with fail
 go_cut [7,8,9]from 10 (fun a1 a2 a3 aL=>∃g c:Nat,a1=aj g/\a2=.bool r.isSome/\a3=.int .i64 c/\Hid (c<=uB n0)/\Hid (Below u.heap.size u aL)/\Hid (u.heap.size<=g)/\Hid (aL.heap[g]? =some (zB (r.getD (0,0,0)))))
 case first=>
  refine au (fun W=>∃p:aR u,W=p.W) [6,7,8,9,10,12,13,14] [(0,false),(1,false),(2,false),(3,true),(4,true),(5,true)] ⟨⟨_,(aJ _ _).drew⟩,rfl⟩ 9 ?_;have w:Below u.heap.size u u.drew:=(aJ _ _).drew;generalize u.drew=w0 at*;refine iQ 6 11 rfl rfl (fun K n=>?_) (fun K n=>?_)
  .refine aZ Hl rfl _ _ rfl (vals:=#[aj lw,ae x1,ae x2]) rfl (G.o _ w) ?_;rintro e w1 ⟨⟨c,rfl,A⟩,aA⟩;have m:=w.trans (aA.mono w.size);refine⟨_,rfl,?_⟩;refine n _ _ (fun _ h=>absurd ai h) ?_;clear n K Z X Y G;have x:=ag A;refine bq [(7,false),(8,false),(9,false),(10,false)] ⟨⟨_,m⟩,rfl⟩ rfl ?_;refine aH 11 rfl fun K n=>?_;go_simp;obtain⟨w2,Q⟩:∃W,W=w1.alloc (.cells #[ae 0,ae 0,ak 0] 29):=⟨_,rfl⟩;have E:w2.heap[w1.heap.size]? =some (zB (0,0,0)):=by rw[Q];exact df w1 _
   have B:Below u.heap.size u w2:=by rw[Q];exact m.alloc m.size _
   rw[<-Q];clear Q;refine n _ _ (fun _ _=>⟨⟨_,B⟩,rfl⟩) ?_;clear n K;refine aI [12,13,14] ?_;have z:=ag B;have ao:=ag E;have aF:=ag m.size;clear w m B E aA A;refine rC rfl 29 (.tmp 7) (.tmp 18) rfl rfl w1.heap.size #[ae (r.getD (0,0,0)).1,ae (r.getD (0,0,0)).2.1,ak (r.getD (0,0,0)).2.2] rfl rfl _ _ ao.o aN rfl (by simp[Value.oneCell']) ?_
   go_wp2_with fail
   go_meet;exact⟨_,c,rfl,rfl,rfl,x,ag (x9 z.o aF.o _),aF,ag (p9 _ _ _ _ _ _ ao.o)⟩
  .go_simp;obtain⟨w1,P⟩:∃W,W=w0.alloc (.cells #[ae 0,ae 0,ak 0] 29):=⟨_,rfl⟩;have E:w1.heap[w0.heap.size]? =some (zB (0,0,0)):=by rw[P];exact df w0 _
   have m:Below u.heap.size u w1:=by rw[P];exact w.alloc w.size _
   rw[<-P];clear P;refine n _ _ (fun _ _=>⟨⟨_,m⟩,rfl⟩) ?_;clear n K;refine aH 6 rfl fun K n=>?_;refine aZ Hl rfl _ _ rfl (vals:=#[aj lw,ae x1,ae x2]) rfl (G.o _ m) ?_;rintro e w2 ⟨⟨c,rfl,A⟩,d⟩;have B:=m.trans (d.mono m.size);have aq:=(d.block _ (aY.1 E).1).trans E;refine⟨_,rfl,?_⟩;refine n _ _ (fun _ h=>absurd ai h) ?_;clear n K Z X Y G;have x:=ag A;refine iR (fun _=>True) [12,13,14] aN ?_;refine bq [(7,false),(8,false),(9,false),(10,false)] trivial rfl ?_;refine aI [12,13,14] ?_;have z:=ag B;have ap:=ag aq;have aE:=ag w.size;clear w m B E aq d A;refine rC rfl 29 (.tmp 7) (.tmp 18) rfl rfl w0.heap.size #[ae (r.getD (0,0,0)).1,ae (r.getD (0,0,0)).2.1,ak (r.getD (0,0,0)).2.2] rfl rfl _ _ ap.o aN rfl (by simp[Value.oneCell']) ?_
   go_wp2_with fail
   go_meet;exact⟨_,c,rfl,rfl,rfl,x,ag (x9 z.o aE.o _),aE,ag (p9 _ _ _ _ _ _ ap.o)⟩
 case rest=>
  obtain⟨g,c,rfl,rfl,rfl,x,v,a5,V⟩:=hcut;have C:=(v.o.block fb aX).trans aP.o;have O:=(v.o.block b a0).trans aQ.o;have D:=ag C;have y:=ag O;have aG:=v.o.size;have a6:=ag aG;clear Z X Y G aG;cases r with
  |none=>
   simp only[Option.isSome_none,lowMin,mK]at*;clear C O;go_wp2;go_ret;exact⟨c,rfl,x.o,D.o,y.o,((ay.refl (fun k=>k=fb\/k=b) u).below v.o)⟩
  |some p=>
   obtain⟨f,i,j⟩:=p;simp only[Option.isSome_some,gG]at*;obtain⟨ad,al,am⟩:=jE V.o;simp only at ad al am;cases s with
   |none=>
    have f0:wc.cell? (af fb 0)=some (.bool false):=by simp[World.cell?,C,Fw]
    have aS:=ag (p9 wc b _ #[ae f,ae i,ak j] _ _ y.o);have HO:=ag ((setRow_other wc b fb #[ae f,ae i,ak j] S).trans D.o);have f1:(wc.setRow b #[ae f,ae i,ak j]).cell? (af fb 0)=some (.bool false):=by simp[World.cell?,HO.o,Fw]
    have f2:(wc.setRow b #[ae f,ae i,ak j]).frozen? (af fb 0)=false:=by simp[World.frozen?,HO.o,Fw]
    clear C O
    go_wp2_with (refine rC rfl 29 (.tmp 4) (.tmp 32) rfl rfl b #[ae f,ae i,ak j] rfl rfl _ _ y.o aN rfl (by simp[Value.oneCell']) ?_)
    go_ret;refine⟨c,rfl,x.o,?_,(aC (a:=(af fb 0)) S).trans aS.o,(((ay.refl (fun k=>k=fb\/k=b) u).below v.o).Fv (.inr rfl) _).set (a:=(af fb 0)) _ (.inl (show fb=fb\/fb=b from .inl rfl))⟩;rw[dC _ fb 0 _ _ _ HO.o];rfl
   |some q=>
    have f0:wc.cell? (af fb 0)=some (.bool true):=by simp[World.cell?,C,Fw]
    obtain⟨J,L,M⟩:=q;obtain⟨a4,y1,y2⟩:=jE y.o;simp only[gG]at a4 y1 y2;have CB:=ag (OW (f,i,j) (J,L,M) wc);generalize aB:nX (f,i,j) (J,L,M)=ab at*;have an:=ag aB;clear aB C O;by_cases R:ab<0
    .have hd:decide (ab<0)=true:=xQ R;have I:lowMin (some (J,L,M)) (some (f,i,j))=some (f,i,j):=by simp only[lowMin];rw[an.o,aO R]
     have T:=ag I;clear I
     go_wp2_with (first|(go_at_call 71;refine CB.o.mono ?_;rintro e w2 ⟨rfl,d⟩;obtain⟨ad,al,am⟩:=jE ((d.block g (aY.1 V.o).1).trans V.o);simp only at ad al am;have z:=ag (v.o.trans (d.mono v.o.size));have N:=ag ((aT d y.o).trans y.o);have U:=ag ((aT d D.o).trans D.o);have HO:=ag ((setRow_other w2 b fb #[ae f,ae i,ak j] S).trans U.o);have f1:(w2.setRow b #[ae f,ae i,ak j]).cell? (af fb 0)=some (.bool true):=(by simp[World.cell?,HO.o,Fw]);have f2:(w2.setRow b #[ae f,ae i,ak j]).frozen? (af fb 0)=false:=(by simp[World.frozen?,HO.o,Fw]);clear d)|(refine rC rfl 29 (.tmp 4) (.tmp 32) rfl rfl b #[ae f,ae i,ak j] rfl rfl _ _ N.o aN rfl (by simp[Value.oneCell']) ?_))
     go_ret;rw[T.o];refine⟨c,rfl,x.o,?_,(aC (a:=(af fb 0)) S).trans (p9 _ _ _ _ _ _ N.o),(((ay.refl (fun k=>k=fb\/k=b) u).below z.o).Fv (.inr rfl) _).set (a:=(af fb 0)) _ (.inl (show fb=fb\/fb=b from .inl rfl))⟩;rw[dC _ fb 0 _ _ _ HO.o];rfl
    .have hd:decide (ab<0)=false:=decide_eq_false R;have I:lowMin (some (J,L,M)) (some (f,i,j))=some (J,L,M):=by simp only[lowMin];rw[an.o,aM R]
     have T:=ag I;clear I
     go_wp2_with (go_at_call 71;refine CB.o.mono ?_;rintro e w2 ⟨rfl,d⟩;have z:=ag (v.o.trans (d.mono v.o.size));have N:=ag ((aT d y.o).trans y.o);have U:=ag ((aT d D.o).trans D.o);clear d)
     go_ret;rw[T.o];exact⟨c,rfl,x.o,U.o,N.o,((ay.refl (fun k=>k=fb\/k=b) u).below z.o)⟩
def Ck (x1 x2:Int) (l:List Pt):Option Pt->Prop
 |none=>∀p∈l,zD x1 x2 p=false
 |some p=>p∈l/\zD x1 x2 p=true/\∀q∈l,zD x1 x2 q=true->¬tX q p
theorem Fx (l:List Pt) (x1 x2:Int):Ck x1 x2 l (ug l x1 x2):=by
 have hp:=iY (l.filter (zD x1 x2));have f:(kD (l.filter (zD x1 x2))).Pairwise fun p q=>Nt p q=true:=rq (le:=Nt) (fun p q r g i=>by simp only[Nt,oF,gY]at*;unfold tX at*;omega) (fun p q=>by simp only[Nt,Au,oF,gY];unfold tX;omega) _;unfold ug Nu;generalize kD (l.filter (zD x1 x2))=S at*;cases S with
 |nil=>
  intro p c;cases h:zD x1 x2 p with
  |false=>rfl
  |true=>exact absurd (hp.mem_iff.2 (bD.2 ⟨c,h⟩)) iA
 |cons p T=>
  have a:=bD.1 (hp.mem_iff.1 nQ);refine⟨a.1,a.2,fun q d e h=>?_⟩;rcases ic.1 (hp.mem_iff.2 (bD.2 ⟨d,e⟩))with rfl|h2
  .exact wz _ h
  .have b:=(lT.1 f).1 q h2;unfold Nt at b;simp[h]at b
theorem Nc {x1 x2:Int} {l k:List Pt} {s r:Option Pt} (b:Ck x1 x2 l s) (c:Ck x1 x2 k r):Ck x1 x2 (l++k) (lowMin s r):=by
 cases r with
 |none=>
  cases s with
  |none=>exact fun p hp=>(bO.1 hp).elim (b p) (c p)
  |some q=>exact⟨bO.2 (.inl b.1),b.2.1,fun p hp a=>(bO.1 hp).elim (fun h=>b.2.2 p h a) (fun h=>absurd a (by rw[c p h];simp))⟩
 |some p=>
  cases s with
  |none=>exact⟨bO.2 (.inr c.1),c.2.1,fun q f a=>(bO.1 f).elim (fun h=>absurd a (by rw[b q h];simp)) (fun h=>c.2.2 q h a)⟩
  |some q=>
   simp only[lowMin];by_cases d:nX p q<0
   .rw[aO d];rw[qA]at d;refine⟨bO.2 (.inr c.1),c.2.1,fun t ht a=>(bO.1 ht).elim (fun h e=>b.2.2 t h a (sS e d)) (fun h=>c.2.2 t h a)⟩
   .rw[aM d];rw[qA]at d;refine⟨bO.2 (.inl b.1),b.2.1,fun t ht a=>(bO.1 ht).elim (fun h=>b.2.2 t h a) (fun h e=>?_)⟩;have:=c.2.2 t h a;unfold tX at*;omega
theorem DR {x1 x2:Int} {l k:List Pt} (hp:k.Perm l) (hu:(ids l).Nodup) {s r:Option Pt} (a:Ck x1 x2 l s) (b:Ck x1 x2 k r):s=r:=by
 cases s with
 |none=>
  cases r with
  |none=>rfl
  |some p=>exact absurd b.2.1 (by rw[a p (hp.mem_iff.1 b.1)];simp)
 |some q=>
  cases r with
  |none=>exact absurd a.2.1 (by rw[b q (hp.mem_iff.2 a.1)];simp)
  |some p=>
   have c:=a.2.2 p (hp.mem_iff.1 b.1) b.2.1;have d:=b.2.2 q (hp.mem_iff.2 a.1) a.2.1;rw[Ka hu a.1 (hp.mem_iff.1 b.1) (by unfold tX at*;omega)]
def Nf (B:List (Nat×Nat×List Pt)) (x1 x2:Int):Nat->Option Pt
 |0=>none
 |i+1=>lowMin (Nf B x1 x2 i) (ug (fK B i) x1 x2)
theorem K7 (B:List (Nat×Nat×List Pt)) (x1 x2:Int):∀i,Ck x1 x2 ((List.range i).flatMap (fK B)) (Nf B x1 x2 i)
 |0=>fun p hp=>by simp at hp
 |i+1=>by
  rw[uU,gZ];have e:[i].flatMap (fK B)=fK B i:=aA;rw[e];exact Nc (K7 B x1 x2 i) (Fx _ _ _)
theorem Hm {B:List (Nat×Nat×List Pt)} {now:List Pt} (hp:(jm B).Perm now) (hu:(ids now).Nodup) (x1 x2:Int):Nf B x1 x2 B.length=ug now x1 x2:=by
 have a:=K7 B x1 x2 B.length;rw[show(List.range B.length).flatMap (fK B)=jm B from DK B fun l=>l]at a;exact(DR hp hu (Fx now x1 x2) a).symm
section
variable {w w1:World} {Pb m:Nat} {G GH:Nat->Prop} {now:List Pt} {A:List eP} {N wk eH:Int}
def U4 (w:World) (Pb:Nat) (G:Nat->Prop) (m:Nat) (now:List Pt) (N wk eH:Int) (o:Option Pt) (e:Ending) (w':World):Prop:=
 ∃CQ:Nat,e=.returned (.tuple #[iV (o.getD (0,0,0)).1 (o.getD (0,0,0)).2.1 (o.getD (0,0,0)).2.2,.bool o.isSome,ae CQ])/\DN N 0 CQ/\ay (fun k=>k=Pb) w w'/\ek w' Pb G m now N wk (wrap64 (eH+CQ))
def yZ (w:World) (x1 x2:Int):World:=((((w.alloc (.cells #[ae x1] 2)).alloc (.cells #[ae x2] 2)).alloc (.cells #[ae 0,ae 0,ak 0] 29)).alloc (.cells #[ae 0,ae 0,ak 0] 29)).alloc (.cells #[.bool false] 4)
theorem JY (w:World) (x1 x2:Int):Below w.heap.size w (yZ w x1 x2)/\(yZ w x1 x2).heap.size=w.heap.size+5/\(yZ w x1 x2).heap[w.heap.size]? =some (.cells #[ae x1] 2 (0,0))/\(yZ w x1 x2).heap[w.heap.size+1]? =some (.cells #[ae x2] 2 (0,0))/\
  (yZ w x1 x2).heap[w.heap.size+1+1]? =some (zB (0,0,0))/\(yZ w x1 x2).heap[w.heap.size+1+1+1]? =some (zB (0,0,0))/\(yZ w x1 x2).heap[w.heap.size+1+1+1+1]? =some (Fw none):=by
 obtain⟨b,a⟩:∃W,W=yZ w x1 x2:=⟨_,rfl⟩;rw[<-a];unfold yZ at a;have c:Below w.heap.size w b:=by
  rw[a];exact(((((aJ _ _).alloc (aB _) _).alloc aA _).alloc (by simp<;>omega) _).alloc (by simp<;>omega) _).alloc (by simp<;>omega) _
 have sz:b.heap.size=w.heap.size+5:=by rw[a];simp
 have d:b.heap[w.heap.size]? =some (.cells #[ae x1] 2 (0,0)):=by
  rw[a];exact(bW _ _ _ (by simp<;>omega)).trans ((bW _ _ _ (by simp<;>omega)).trans ((bW _ _ _ (by simp<;>omega)).trans ((bW _ _ _ aA).trans (df w _))))
 have e:b.heap[w.heap.size+1]? =some (.cells #[ae x2] 2 (0,0)):=by
  rw[a];exact(bW _ _ _ (by simp<;>omega)).trans ((bW _ _ _ (by simp<;>omega)).trans ((bW _ _ _ aA).trans (Ew w (.cells #[ae x1] 2) (.cells #[ae x2] 2))))
 have f:b.heap[w.heap.size+1+1]? =some (zB (0,0,0)):=by
  rw[a];exact(bW _ _ _ (by simp<;>omega)).trans ((bW _ _ _ aA).trans (by have:=df ((w.alloc (.cells #[ae x1] 2)).alloc (.cells #[ae x2] 2)) (.cells #[ae 0,ae 0,ak 0] 29);rwa [show((w.alloc (.cells #[ae x1] 2)).alloc (.cells #[ae x2] 2)).heap.size=w.heap.size+1+1 by simp]at this))
 have g:b.heap[w.heap.size+1+1+1]? =some (zB (0,0,0)):=by
  rw[a];exact(bW _ _ _ aA).trans (by have:=df (((w.alloc (.cells #[ae x1] 2)).alloc (.cells #[ae x2] 2)).alloc (.cells #[ae 0,ae 0,ak 0] 29)) (.cells #[ae 0,ae 0,ak 0] 29);rwa [show(((w.alloc (.cells #[ae x1] 2)).alloc (.cells #[ae x2] 2)).alloc (.cells #[ae 0,ae 0,ak 0] 29)).heap.size=w.heap.size+1+1+1 by simp]at this)
 have h:b.heap[w.heap.size+1+1+1+1]? =some (Fw none):=by
  rw[a];have:=df ((((w.alloc (.cells #[ae x1] 2)).alloc (.cells #[ae x2] 2)).alloc (.cells #[ae 0,ae 0,ak 0] 29)).alloc (.cells #[ae 0,ae 0,ak 0] 29)) (.cells #[.bool false] 4);rwa [show((((w.alloc (.cells #[ae x1] 2)).alloc (.cells #[ae x2] 2)).alloc (.cells #[ae 0,ae 0,ak 0] 29)).alloc (.cells #[ae 0,ae 0,ak 0] 29)).heap.size=w.heap.size+1+1+1+1 by simp]at this
 exact⟨c,sz,d,e,f,g,h⟩
theorem PU {w:World} {v:Value} (x1 x2:Int) (Q:Option Pt->Nat->World->Prop)
  (x:aK 69 #[v,.func (.func 70) #[] #[aj w.heap.size,aj (w.heap.size+1),aj (w.heap.size+1+1+1+1),aj (w.heap.size+1+1+1)]] (yZ w x1 x2) fun e a=>∃(r:Option Pt) (d:Nat),e=.returned (ae d)/\a.heap[w.heap.size+1+1+1+1]? =some (Fw r)/\a.heap[w.heap.size+1+1+1]? =some (zB (r.getD (0,0,0)))/\a.heap[w.heap.size+1+1]? =some (zB (0,0,0))/\Q r d a):
  aK 20 #[v,ae x1,ae x2] w fun e w'=>∃(r:Option Pt) (d:Nat) (u:World),e=.returned (.tuple #[iV (r.getD (0,0,0)).1 (r.getD (0,0,0)).2.1 (r.getD (0,0,0)).2.2,.bool r.isSome,ae d])/\Q r d u/\w'=u.drew.setRow (w.heap.size+1+1) #[ae (r.getD (0,0,0)).1,ae (r.getD (0,0,0)).2.1,ak (r.getD (0,0,0)).2.2]:=by
 have j:=ag x;have k:Hid (((((w.alloc (.cells #[ae x1] 2)).alloc (.cells #[ae x2] 2)).alloc (.cells #[ae 0,ae 0,ak 0] 29)).alloc (.cells #[ae 0,ae 0,ak 0] 29)).alloc (.cells #[.bool false] 4)=yZ w x1 x2):=rfl;go_enter func20,ntmps20
 go_upto_region 3 with fail
 rw[k.o]
 go_wp2_with fail
 refine j.o.mono ?_;rintro e a ⟨r,d,rfl,y,hp,z,t⟩;have f:=ag y;have g:=ag hp;have HO:=ag z;have n:=ag t
 go_upto_region 4 with fail
 generalize F:w.heap.size+1+1+1+1=fb at*;generalize G:w.heap.size+1+1+1=b at*;generalize A:w.heap.size+1+1=c at*;have q:=ag (show c<b/\b<fb from aa);have m:=ag A;have C:∀p:jT (fun W:World=>W.heap[fb]? =some (Fw r)/\W.heap[b]? =some (zB (r.getD (0,0,0)))),p.W.cell? (af b 0)=some (ae (r.getD (0,0,0)).1):=fun p=>(jE p.h.2).1;have D:∀p:jT (fun W:World=>W.heap[fb]? =some (Fw r)/\W.heap[b]? =some (zB (r.getD (0,0,0)))),p.W.cell? (af b 1)=some (ae (r.getD (0,0,0)).2.1):=fun p=>(jE p.h.2).2.1;have E:∀p:jT (fun W:World=>W.heap[fb]? =some (Fw r)/\W.heap[b]? =some (zB (r.getD (0,0,0)))),p.W.cell? (af b 2)=some (ak (r.getD (0,0,0)).2.2):=fun p=>(jE p.h.2).2.2;have B:∀p:jT (fun W:World=>W.heap[fb]? =some (Fw r)/\W.heap[b]? =some (zB (r.getD (0,0,0)))),p.W.cell? (af fb 0)=some (.bool r.isSome):=fun p=>by simp[World.cell?,p.h.1,Fw]
 refine au (fun W=>∃p:jT (fun W:World=>W.heap[fb]? =some (Fw r)/\W.heap[b]? =some (zB (r.getD (0,0,0)))),W=p.W) [4,5] [(0,true),(1,true),(2,false)] ⟨⟨a.drew,⟨f.o,g.o⟩⟩,rfl⟩ 3 ?_;have i:a.drew.heap[c]? =some (zB (0,0,0)):=HO.o;refine aH 3 rfl fun K s=>?_;rw[aO (by simp[Region.wanted])];refine wp_store_row 29 (.tmp 6) (.tmp 15) rfl c #[ae (r.getD (0,0,0)).1,ae (r.getD (0,0,0)).2.1,ak (r.getD (0,0,0)).2.2] rfl rfl _ _ i aN rfl (by simp[Value.oneCell']) ?_;have H:=q.o;refine s _ _ (fun _ _=>⟨⟨a.drew.setRow c #[ae (r.getD (0,0,0)).1,ae (r.getD (0,0,0)).2.1,ak (r.getD (0,0,0)).2.2],(setRow_other a.drew c fb _ aa).trans f.o,(setRow_other a.drew c b _ aa).trans g.o⟩,rfl⟩) ?_;have l:=ag (p9 a.drew c _ #[ae (r.getD (0,0,0)).1,ae (r.getD (0,0,0)).2.1,ak (r.getD (0,0,0)).2.2] _ _ i);refine aI [4,5] ?_
 go_wp2_with fail
 refine jM (oo rfl _ _ c _ _ _ _ (.bool r.isSome) (.int .i64 (d:Nat)) rfl rfl rfl l.o underlying29 rfl aN) rfl ?_;exact⟨r,d,a,rfl,n.o,by rw[m.o]⟩
theorem PV (h:ek w Pb G m now N wk eH) (x1 x2:Int):aK 20 #[aj Pb,ae x1,ae x2] w (U4 w Pb G m now N wk eH (ug now x1 x2)):=by
 have⟨y,sz,H,I,ap,J,K⟩:=JY w x1 x2;obtain⟨Hb,Ab,base,av,GH,SD,A,D,ALL,j,rfl,Y⟩:=h;have l:=j.kept (S:=fun _=>False) ((ay.refl _ _).below y) fun _ _ h=>h;have E:=l.half.facts;have aq:Pb<w.heap.size:=(aY.1 j.blk).1;have L:=(KZ (fn:=70) (Sx:=fun k=>k=w.heap.size+1+1+1+1\/k=w.heap.size+1+1+1) (cs:=#[aj w.heap.size,aj (w.heap.size+1),aj (w.heap.size+1+1+1+1),aj (w.heap.size+1+1+1)]) (Q:=fun B c u=>u.heap[w.heap.size+1+1+1+1]? =some (Fw (ug (A.map (·.1)) x1 x2))/\u.heap[w.heap.size+1+1+1]? =some (zB ((ug (A.map (·.1)) x1 x2).getD (0,0,0)))/\DN N 0 c) PT l.blk l.half (fun k hk=>aa) (fun w1 B F o C v al am X=>by
  have T:Fp (yZ w x1 x2) w1 GH A N B F:=⟨o,C,v,al,am,X⟩;have U:=(aT o K).trans K;have R:=(aT o J).trans J;have P:=(aT o I).trans I;have O:=(aT o H).trans H;have ah:∀i t,(t<=uB (jH B i)/\jH B i<=20000)->t<=1000000:=fun i t ht=>by
   have z:Lib.bitLen (jH B i)<=15:=bitLen_le (rz ht.2 ai) ht.2;have ab:=ht.1;unfold uB at ab;omega
  refine⟨fun i n u=>SumB (fun i t=>t<=uB (jH B i)/\jH B i<=20000) i n/\u.heap[w.heap.size+1+1+1+1]? =some (Fw (Nf B x1 x2 i))/\u.heap[w.heap.size+1+1+1]? =some (zB ((Nf B x1 x2 i).getD (0,0,0)))/\ay (fun k=>k=w.heap.size+1+1+1+1\/k=w.heap.size+1+1+1) w1 u,⟨rfl,U,R,ay.refl _ _⟩,fun i n u f=>f.2.2.2,fun i n u f=>f.1.le ah,fun i n hi u f=>?_,fun n u f=>?_⟩
  .obtain⟨ao,q,s,d⟩:=f;have V:=bz d O aa;have W:=bz d P aa;refine(TQ ((C.kept d fun k hk e=>by have:=(j.q9.1 k hk).2.2.2;omega).at hi) x1 x2 (Nf B x1 x2 i) (fE V) (fE W) q s aa).mono ?_;rintro e ar ⟨t,rfl,ht,ak,an,ac⟩;refine⟨t,rfl,⟨n,t,ao,⟨ht,?_⟩,rfl⟩,ak,an,d.trans ac⟩;unfold jH;rw[bZ hi];exact(T.built _ (bG hi)).2
  .refine⟨by rw[<-Hm v E.2.2.2.1];exact f.2.1,by rw[<-Hm v E.2.2.2.1];exact f.2.2.1,?_⟩;have Z:=T.cost (r:=fun _=>0) (fun i t ht=>⟨bH _,by have:=ht.1;unfold uB at this;omega⟩) f.1;have z:((List.range B.length).map fun _=>0).sum=0:=by have:=K3 (r:=fun _=>0) (b:=0) (fun _=>aB _) B.length;omega
   rwa [z]at Z))
 have x:∀k,GH k\/SD k\/k=Pb\/av.ownBlock=some k->k<w.heap.size:=fun k hk=>by
  rcases hk with hk|hk|hk|hk
  .exact(j.q9.1 k hk).2.2.2
  .exact(j.q9.2.1 k hk).2.2
  .omega
  .exact(j.row.lt k hk).2
 have M:ay (fun k=>k=Pb) w (yZ w x1 x2):=(ay.refl _ _).below y;refine(PU x1 x2 (fun r c u=>r=ug (A.map (·.1)) x1 x2/\DN N 0 c/\ay (fun k=>k=Pb) w u/\Hf u Pb Hb Ab base av GH SD m A D ALL N wk (wrap64 (eH+(c:Int)))) (L.mono ?_)).mono ?_
 .rintro e au ⟨B,c,u,rfl,⟨q,s,p⟩,d,rfl⟩;have ag:=bz d l.blk aa;have ad:(u.setCell (af Pb 3) (.int .i64 (wrap64 (eH+(c:Int))))).heap[Pb]? =some (Obj.cells #[aj Hb,aj Ab,av,ae (wrap64 (eH+(c:Int)))] Cj (0,0)):=by
   rw[dC u Pb 3 _ _ _ ag];rfl
  exact⟨_,c,rfl,(aC (a:=(af Pb 3)) (fun e:Pb=w.heap.size+1+1+1+1=>aa)).trans q,(aC (a:=(af Pb 3)) (fun e:Pb=w.heap.size+1+1+1=>aa)).trans s,(aC (a:=(af Pb 3)) (fun e:Pb=w.heap.size+1+1=>aa)).trans (bz d ap aa),rfl,p,
   ay.strip (((M.mono fun k h=>.inl h).trans (d.mono fun k h=>.inr aa)).set (a:=(af Pb 3)) (.int .i64 (wrap64 (eH+(c:Int)))) (.inl (.inl rfl))),
   (l.kept d fun k hk=>by have j:=x k hk;omega).Sa ((ay.refl (fun k=>k=Pb) u).set (a:=(af Pb 3)) (.int .i64 (wrap64 (eH+(c:Int)))) (.inl rfl)) ad⟩
 .rintro e w' ⟨r,c,u,rfl,⟨rfl,p,d,hP⟩,rfl⟩;exact⟨c,rfl,p,ay.strip (((d.drew).mono fun k h=>.inl h).Fv (g:=w.heap.size+1+1) (.inr aa) _),Hb,Ab,base,av,GH,SD,A,D,ALL,hP.kept (((ay.refl (fun k=>k=w.heap.size+1+1) u).drew).Fv (g:=w.heap.size+1+1) rfl _) (fun k hk=>by have:=x k hk;omega),rfl,Y⟩
end
theorem uC {P:Program} {fn:Func} {p q:Tmp} {ty:TypeId} (h:fn.results=#[.cell p ty,.tmp q]) (a:Array Value) (w:World) (g:Nat) (t:TypeId) (cs:Array Value) (fr:Nat×Nat) (d:TypeDesc) (b:Value)
  (hp:a.getD p undef=aj g) (c:a.getD q undef=b) (f:w.heap[g]? =some (.cells cs t fr))
  (hu:P.underlying ty=some d) (hd:(match d with|.struct _|.array _ _=>true|_=>false)=true) (hi:(P.info? ty).map (·.size)=some cs.size):
  (results fn a).run P w=.ok (.tuple #[.agg cs,b]) w:=by
 have i:a[p]?.getD undef=aj g:=aP hp;have e:a[q]?.getD undef=b:=aP c;simp[results,h,i,e,asAddr,run_loadVar_row w g t ty cs fr d f hu hd hi]
section
variable {w:World} {Pb m:Nat} {G:Nat->Prop} {now:List Pt} {N wk eH:Int}
theorem PW (h:ek w Pb G m now N wk eH):aK 33 #[aj Pb] w (fV w (ae N)):=by
 obtain⟨Hb,Ab,base,av,GH,SD,A,D,ALL,b,rfl,i⟩:=h;have d:=ag (mf b.blk);have c:=ag (PG b.half);have g:w.cell? (af Pb 0)=some (aj Hb):=aD b.blk;go_enter func33,ntmps33
 go_wp2_with (first|(go_at_call 55;refine d.o.mono ?_;rintro e w1 ⟨rfl,a⟩;have f:=a.symm;clear a;subst f)|(refine c.o.mono ?_;rintro e w1 ⟨rfl,a⟩))
 go_ret;exact⟨rfl,a⟩
def sN (l:List Pt) (d:Int):Option Pt:=l.find? fun p=>decide (p.2.2=d)
theorem Ng {l:List Pt} {d:Int} (h:d∉ids l):sN l d=none:=by
 unfold sN;rw[xJ];intro p hp;simp only[bN];rintro rfl;exact h (rf hp)
theorem Nh {l:List Pt} {d:Int} {p:Pt} (h:sN l d=some p):p∈l/\p.2.2=d:=⟨List.mem_of_find?_eq_some h,by simpa using List.find?_some h⟩
theorem K8 {l:List Pt} (hu:(ids l).Nodup) {p:Pt} (hp:p∈l):sN l p.2.2=some p:=by
 cases h:sN l p.2.2 with
 |none=>
  unfold sN at h;exact absurd aA (xJ.1 h p hp)
 |some q=>
  obtain⟨b,a⟩:=Nh h;rcases eB (dm.1 hu) b hp with h3|h3|h3
  .rw[h3]
  .exact absurd a h3
  .exact absurd a.symm h3
def U5 (w:World) (r:Option Pt) (e:Ending) (w':World):Prop:=e=.returned (.tuple #[iV (r.getD (0,0,0)).1 (r.getD (0,0,0)).2.1 (r.getD (0,0,0)).2.2,.bool r.isSome])/\Below w.heap.size w w'
theorem U6 (h:ek w Pb G m now N wk eH) (d:Int):aK 23 #[aj Pb,ak d] w (U5 w (sN now d)):=by
 have X:=h.facts;obtain⟨Hb,Ab,base,av,GH,SD,A,D,ALL,V,rfl,ap⟩:=h;obtain⟨w1,j⟩:∃w1,w1=w.alloc (.cells #[ae 0,ae 0,ak 0] 29):=⟨_,rfl⟩;have B:Below w.heap.size w w1:=by rw[j];exact(aJ _ _).alloc (aB _) _
 have H:w1.heap[w.heap.size]? =some (zB (0,0,0)):=by rw[j];exact df w _
 have b:=V.kept (S:=fun _=>False) ((ay.refl _ _).below B) fun _ _ h=>h;have v:=ag (mf b.blk);have u:=ag (U2 b.dir d);have d1:w1.cell? (af Pb 1)=some (aj Ab):=aD b.blk;have O:=ag B;have an:=ag H;have a:=ag b;have M:=ag j;have z:=ag X.2.2.2.1;have ar:w.heap.size<w1.heap.size:=(aY.1 H).1;clear j B H V b X ap;go_enter func23,ntmps23
 go_upto_region 1 with fail
 rw[<-M.o];clear M
 go_wp2_with (go_at_call 55;refine v.o.mono ?_;rintro e w2 ⟨rfl,U⟩;have ao:=U.symm;clear U;subst ao)
 refine u.o.mono ?_;rintro e w3 ⟨t,-,g,f⟩;have C:=O.o.trans (f.mono O.o.size);have I:=(f.block w.heap.size ar).trans an.o;have i:=ag I;have P:=ag C;rcases g with⟨q,r,rfl⟩|⟨ad,rfl⟩
 .obtain⟨k,c,rfl,l,g,rfl⟩:=a.o.fwd d q r;have Y:sN (A.map (·.1)) c.1.2.2=some c.1:=K8 z.o (rf l);have Q:=ag Y;have E:=(fo.1 g).1;have F:=a.o.kept (S:=fun _=>False) ((ay.refl _ _).below f) fun _ _ h=>h;obtain⟨au,ac,T,-,-,ah⟩:=bV.aG bf ai F.row;obtain⟨aw,ax,R,aq,n⟩:=ah.get aa;have L:=n k E 0 aa;have x1:=n k E 1 aa;have x2:=n k E 2 aa;obtain⟨aA,Z⟩:=fo.1 g;rw[Z]at L x1 x2;simp only[dw,fG,dx,dH]at L x1 x2;have d2:w3.cell? (af Pb 2)=some av:=aD F.blk;rw[T,R]at d2;have az:(k:Int)<(ALL.length:Int):=aa;clear n ah aq Z F R T f C I a u v d1 l g r Y z;generalize W:c.1=p at*;obtain⟨J,K,s⟩:=p;have al:=ag W;clear W;simp only at L x1 x2 Q |-;have x:=ag (p9 w3 w.heap.size _ #[ae J,ae K,ak s] _ _ i.o);have y:=ag (x9 P.o (aB w.heap.size) #[ae J,ae K,ak s])
  go_wp2_with (refine rC rfl 29 (.tmp 4) (.tmp 31) rfl rfl w.heap.size #[ae J,ae K,ak s] rfl rfl _ _ i.o aN rfl (by simp[Value.oneCell']) ?_)
  refine jM (uC rfl _ _ w.heap.size _ _ _ _ (.bool true) rfl rfl x.o underlying29 rfl aN) rfl ?_;refine⟨?_,y.o⟩;rw[show c.1.2.2=s by rw[al.o],Q.o];rfl
 .have ab:sN (A.map (·.1)) d=none:=Ng fun h=>by
   obtain⟨p,hp,rfl⟩:=cu.1 h;obtain⟨c,l,rfl⟩:=cu.1 hp;obtain⟨q,r⟩:=a.o.bwd c l;exact ad q r
  have am:=ag ab;have x:=ag (p9 w3 w.heap.size _ #[ae 0,ae 0,ak 0] _ _ i.o);have y:=ag (x9 P.o (aB w.heap.size) #[ae 0,ae 0,ak 0]);clear ab ad f C I a u v d1 z
  go_wp2_with (refine rC rfl 29 (.tmp 4) (.tmp 24) rfl rfl w.heap.size #[ae 0,ae 0,ak 0] rfl rfl _ _ i.o aN rfl (by simp[Value.oneCell']) ?_)
  refine jM (uC rfl _ _ w.heap.size _ _ _ _ (.bool false) rfl rfl x.o underlying29 rfl aN) rfl ?_;refine⟨?_,y.o⟩;rw[am.o];rfl
end
end
section
open Go.RowKit Go.Lib
theorem Sc {p:Pt} (h:Be p):-9223372036854775808<=p.1/\p.1<=9223372036854775807/\-9223372036854775808<=p.2.1/\p.2.1<=9223372036854775807:=by
 obtain⟨a,b,-⟩:=h;simp[Lit.wf,IntKind.min,IntKind.max,IntKind.signed,IntKind.bits]at a b;omega
end
section
open Go.RowKit Go.Sort Go.Shelf Go.Lib Go.Maps
attribute [local irreducible] wpQuiet
attribute [local go_sem] Oper.eT
theorem DT:gF 55:=dh func55 aN rfl
theorem Ho:gF 56:=dh func56 aN rfl
theorem PX:gF 57:=dh func57 aN rfl
theorem Ni:gF 59:=dh func59 aN rfl
section
variable {w w':World} {Pb Hb Ab base m:Nat} {av:Value} {G GH SD S:Nat->Prop} {A:List eP} {D:List (Int×Int)} {ALL now:List Pt} {N wk eH Ry:Int}
theorem zw (h:ek w Pb G m now N wk eH) (x y d:Int) (C:d∈ids now):
  aK 12 #[aj Pb,iV x y d] w (fV w (.tuple #[ae 0,.bool false])):=by
 obtain⟨Hb,Ab,base,av,GH,SD,A,D,ALL,f,rfl,L⟩:=h;have r:Hid (∃q,(d,q)∈D):=by
  have⟨p,hp,e⟩:=cu.1 C;obtain⟨c,B,rfl⟩:=cu.1 hp;rw[<-e];exact f.bwd c B
 have s:=ag (df w (.cells #[ae x,ae y,ak d] 29));have g:Below w.heap.size w (w.alloc (.cells #[ae x,ae y,ak d] 29)):=(aJ _ _).alloc (aB _) _;have b:=ag (f.kept (S:=fun _=>False) ((ay.refl _ _).below g) fun _ _ h=>h);have j:=ag g;obtain⟨t,ac,rfl,-,-,-⟩:=bV.aG bf ai f.row;go_enter func12,ntmps12
 go_wp2_with fail
 generalize w.alloc (.cells #[ae x,ae y,ak d] 29)=w1 at*;have u:w1.cell? (af w.heap.size 2)=some (ak d):=fE s.o;have d1:w1.cell? (af Pb 1)=some (aj Ab):=aD b.o.blk;have d2:w1.cell? (af Pb 2)=some (.slice t ALL.length ac):=aD b.o.blk;have H:=ah u;have I:=ah d1;have J:=ah d2;have i:=ag (b.o.kept (w':=w1.drew) (S:=fun _=>False) ((ay.refl _ _).drew) fun _ _ h=>h);have k:=ag (mf i.o.blk);refine lN (fun W=>∃p:aR w1,W=p.W) [14,15,16] [(0,false)] ⟨⟨_,(aJ _ _).drew⟩,rfl⟩ 16 ?_;simp only[jR,uJ,uL,uF,fG,fP]
 repeat(refine iX (fun K a=>?_);go_simp;first|(refine a _ ?_;clear a K)|(apply Exists.intro;refine⟨fun _=>?_,a _ ?_⟩;rfl;clear a K))
 refine oN ?_;refine aH 1 rfl fun K a=>?_;refine aZ DT rfl _ _ rfl (vals:=#[aj Pb]) rfl k.o ?_;rintro e w2 ⟨rfl,v⟩;subst v;refine⟨_,rfl,?_⟩;refine a _ _ (fun h _=>h) ?_;refine bq [(2,false),(3,false),(4,false),(5,false),(6,true),(7,false),(8,true),(9,false),(10,false),(11,false),(12,true),(13,false)] ⟨⟨_,(aJ _ _).drew⟩,rfl⟩ rfl ?_;have⟨q,E⟩:=r.o;have l:=ag (JU i.o.dir d (ALL.length:Int) q E);refine aH 14 rfl fun K a=>?_;refine AX Ho rfl _ _ rfl (vals:=#[aj Ab,ak d,ae ALL.length]) rfl l.o ?_;rintro e w3 ⟨rfl,z⟩;refine⟨_,rfl,?_⟩;refine a _ _ (fun _ h=>absurd ai h) ?_;have n:=ag z;have F:=j.o.size;refine aI [15,16] ?_;go_wp2;go_ret2;exact⟨rfl,j.o.trans (((aJ _ _).drew.trans n.o).mono F)⟩
def U7 (w:World) (Pb:Nat) (G:Nat->Prop) (m:Nat) (now:List Pt) (N wk eH:Int) (p:Pt) (e:Ending) (w':World):Prop:=
 ∃n:Nat,KX N n/\e=.returned (.tuple #[ae n,.bool true])/\ek w' Pb (fun k=>G k\/w.heap.size<=k/\k<w'.heap.size) (m+1) (now++[p]) (N+1) (wk+n) eH/\ay G w w'
theorem tV (h:ek w Pb G m now N wk eH) (ap:m<5000) (x y d:Int) (bs:Be (x,y,d)) (aq:d∉ids now):
  aK 12 #[aj Pb,iV x y d] w (U7 w Pb G m now N wk eH (x,y,d)):=by
 obtain⟨Hb,Ab,base,av,GH,SD,A,D,ALL,H,rfl,bd⟩:=h;have bo:∀q,(d,q)∉D:=fun q hq=>by
  obtain⟨k,c,-,hc,-,e⟩:=H.fwd d q hq;exact aq (cu.2 ⟨c.1,cu.2 ⟨c,hc,rfl⟩,e⟩)
 have aW:=ag aq;have s:=ag bd;have bD:=H.few;have z:=ag (df w (.cells #[ae x,ae y,ak d] 29));have Y:Below w.heap.size w (w.alloc (.cells #[ae x,ae y,ak d] 29)):=(aJ _ _).alloc (aB _) _;have b:=ag (H.kept (S:=fun _=>False) ((ay.refl _ _).below Y) fun _ _ h=>h);have aE:=ag Y;have bu:=ag (mf b.o.blk);obtain⟨l,ac,rfl,-,-,-⟩:=bV.aG bf ai H.row;have t:=ag H;go_enter func12,ntmps12
 go_wp2_with fail
 generalize w.alloc (.cells #[ae x,ae y,ak d] 29)=w1 at*;have M:w1.cell? (af w.heap.size 0)=some (ae x):=fE z.o;have O:w1.cell? (af w.heap.size 1)=some (ae y):=fE z.o;have B:w1.cell? (af w.heap.size 2)=some (ak d):=fE z.o;have d1:w1.cell? (af Pb 1)=some (aj Ab):=aD b.o.blk;have d2:w1.cell? (af Pb 2)=some (.slice l ALL.length ac):=aD b.o.blk;have ad:=ah B;have bv:=ah d1;have al:=ah d2;have R:=ag (b.o.kept (w':=w1.drew) (S:=fun _=>False) ((ay.refl _ _).drew) fun _ _ h=>h);have aw:=ag (mf R.o.blk);refine lN (fun W=>∃p:aR w1,W=p.W) [14,15,16] [(0,false)] ⟨⟨_,(aJ _ _).drew⟩,rfl⟩ 16 ?_;simp only[jR,uJ,uL,uF,fG,fP]
 repeat(refine iX (fun K g=>?_);go_simp;first|(refine g _ ?_;clear g K)|(apply Exists.intro;refine⟨fun _=>?_,g _ ?_⟩;rfl;clear g K))
 refine oN ?_;refine aH 1 rfl fun K g=>?_;refine aZ DT rfl _ _ rfl (vals:=#[aj Pb]) rfl aw.o ?_;rintro e w2 ⟨rfl,a8⟩;subst a8;refine⟨_,rfl,?_⟩;refine g _ _ (fun h _=>h) ?_;refine bq [(2,false),(3,false),(4,false),(5,false),(6,true),(7,false),(8,true),(9,false),(10,false),(11,false),(12,true),(13,false)] ⟨⟨_,(aJ _ _).drew⟩,rfl⟩ rfl ?_;have az:=ag (PQ R.o.dir R.o.hb ap d (ALL.length:Int) bo);refine aH 14 rfl fun K g=>?_;refine AX Ho rfl _ _ rfl (vals:=#[aj Ab,ak d,ae ALL.length]) rfl az.o ?_;rintro e w3 ⟨rfl,bc,br⟩;refine⟨_,rfl,?_⟩;refine g _ _ (fun _ h=>absurd ai h) ?_;have u:ay SD w1 w3:=((ay.refl _ w1).drew).trans br.TN;have bK:=u.size;have aL:=ag bc.clip;have aO:=ag (b.o.half.kept u fun k hk=>(b.o.q9.1 k hk).1);have bi:=bz u b.o.blk (fun h9=>(b.o.q9.2.1 Pb h9).1 rfl);have bp:=aU b.o.row u (fun E e h9=>(b.o.q9.2.1 E h9).2.1 e);have bJ:=(aY.1 z.o).1;have L:=ag (bz u z.o (fun h9=>by have:=(t.o.q9.2.1 _ h9).2.2;omega));have T:=ag bi;have aX:=ag bp;have aT:=ag u;refine aI [15,16] ?_
 go_wp2_with fail
 have M:w3.cell? (af w.heap.size 0)=some (ae x):=fE L.o;have O:w3.cell? (af w.heap.size 1)=some (ae y):=fE L.o;have B:w3.cell? (af w.heap.size 2)=some (ak d):=fE L.o;have d2:w3.cell? (af Pb 2)=some (.slice l ALL.length ac):=aD T.o;have a9:=ah M;have ba:=ah O;have ad:=ah B;have al:=ah d2;refine au (fun W=>∃p:aR w3,W=p.W) [7,8,9,10] [(0,false),(1,false),(2,false),(3,false),(4,true),(5,true)] ⟨⟨_,(aJ _ _).drew⟩,rfl⟩ 5 ?_;refine aH 6 rfl fun K g=>?_;go_simp;refine g _ _ (fun _ _=>⟨⟨_,((aJ _ w3).alloc (aB _) _).drew⟩,rfl⟩) ?_;refine aH 7 rfl fun K g=>?_;refine bC OE 0 (aU (S:=fun _=>False) aX.o (((ay.refl _ _).alloc _).drew) (fun _ _ h=>h)) [.int .i64 x,.int .i64 y,.int .u32 d] rfl (by simp[Value.oneCell']) rfl (.tmp 27) (.tmp 29) rfl rfl _ rfl (kZ _ _) dI aa (bH _) ?_;intro f r w4 bb bk bj bl;refine g _ _ (fun _ h=>absurd ai h) ?_;have an:Value.ownBlock (.slice l ALL.length ac)=some f\/w3.heap.size<=f:=bj.imp id fun e=>by rw[e];simp
 have J:ay (fun k=>Value.ownBlock (.slice l ALL.length ac)=some k) w3 w4:=((((ay.refl _ w3).alloc _).drew)).grown bk fun k e=>.inl e;have bL:=J.size;have bB:=(aY.1 T.o).1;have X:=bz J T.o b.o.q9.2.2;have a4:=ag (bz J L.o (fun e=>by have:=(t.o.row.lt _ e).2;omega));have bN:w4.cell? (af Pb 2)=some (.slice l ALL.length ac):=aD X;have f4:w4.frozen? (af Pb 2)=false:=aD X;have bn:f≠Pb:=fun e=>an.elim (fun h=>b.o.q9.2.2 (by rw[h,e])) fun h=>aa;have bh:(w4.setCell (af Pb 2) (ax f (ALL.length+1) r)).heap[Pb]? =some (Obj.cells #[aj Hb,aj Ab,ax f (ALL.length+1) r,ae eH] Cj (0,0)):=by
  rw[dC w4 Pb 2 _ _ _ X];rfl
 have a3:ay (fun k=>Value.ownBlock (.slice l ALL.length ac)=some k\/k=Pb) w3 (w4.setCell (af Pb 2) (ax f (ALL.length+1) r)):=(J.mono fun k h=>.inl h).set _ (.inl (.inr rfl));have a6:=aU bb ((ay.refl (fun k=>k=Pb) w4).set (a:=(af Pb 2)) (ax f (ALL.length+1) r) (.inl rfl)) (fun E e h=>bn (by have C:f=E:=(by injection e);rw[C];exact h));have a5:(w4.setCell (af Pb 2) (ax f (ALL.length+1) r)).heap[w.heap.size]? =_:=(aC (a:=(af Pb 2)) (fun e:Pb=w.heap.size=>by have:=(aY.1 t.o.blk).1;omega)).trans a4.o;have bt:(w4.setCell (af Pb 2) (ax f (ALL.length+1) r)).heap.size=w4.heap.size:=aA;have Z:=ag bh;have U:=ag a3;have a0:=ag a6;have V:=ag a5;have a1:=ag bt;have aM:=ag an;have aV:=ag bl;refine aI [8,9,10] ?_
 go_wp2_with fail
 generalize w4.setCell (af Pb 2) (ax f (ALL.length+1) r)=j at*;have aQ:=ag (aO.o.kept U.o fun k hk h9=>by
  have P:=b.o.q9.1 k hk;rcases h9 with h9|h9
  .exact P.2.2.1 h9
  .exact P.2.1 h9)
 have M:j.cell? (af w.heap.size 0)=some (ae x):=fE V.o;have O:j.cell? (af w.heap.size 1)=some (ae y):=fE V.o;have B:j.cell? (af w.heap.size 2)=some (ak d):=fE V.o;have d0:j.cell? (af Pb 0)=some (aj Hb):=aD Z.o;have a9:=ah M;have ba:=ah O;have ad:=ah B;have al:=ah d0;have ar:=ag (TI (w:=j.drew) (aQ.o.kept (S:=fun _=>False) ((ay.refl _ j).drew) fun _ _ h=>h) ap x y d bs aW.o);refine au (fun W=>∃p:aR j,W=p.W) [5,6,7,8,9] [(0,false),(1,false),(2,false),(3,true),(4,true)] ⟨⟨_,(aJ _ _).drew⟩,rfl⟩ 5 ?_;refine aH 5 rfl fun K g=>?_;refine aZ PX rfl _ _ rfl (vals:=#[aj Hb,iV x y d]) rfl ar.o ?_;rintro e w6 ⟨n,q,bm,rfl,be,bg⟩;refine⟨_,rfl,?_⟩;refine g _ _ (fun _ h=>absurd ai h) ?_;have aS:=ag be.clip;have v:Hid (ay GH j w6):=((ay.refl _ j).drew).trans bg;refine iR (fun _=>True) [8,9] aN ?_;refine bq [(6,false),(7,false)] trivial rfl ?_;refine aI [8,9] ?_;go_wp2;go_ret2;have bM:=v.o.size;have bI:=a1.o;have i:=b.o.q9;have bx:=(aY.1 b.o.blk).1;have am:∀k,Value.ownBlock (.slice l ALL.length ac)=some k->k<w1.heap.size:=fun k e=>(b.o.row.lt k e).2;have I:∀k,Value.ownBlock (ax f (ALL.length+1) r)=some k->(Value.ownBlock (.slice l ALL.length ac)=some k\/w3.heap.size<=k)/\k<w4.heap.size:=fun k e=>by
  have C:f=k:=by injection e
  subst C;exact⟨aM.o,aV.o⟩
 have bE:w1.drew.heap.size=w1.heap.size:=rfl;have bF:j.drew.heap.size=j.heap.size:=rfl;have a2:ay (fun k=>(Value.ownBlock (.slice l ALL.length ac)=some k\/k=Pb)\/GH k) w3 w6:=(U.o.mono fun k h=>.inl h).trans (v.o.mono fun k h=>.inr h);have ao:∀k,Value.ownBlock (ax f (ALL.length+1) r)=some k->¬GH k:=fun k e h=>by
  rcases(I k e).1 with h9|h9
  .exact(i.1 k h).2.2.1 h9
  .have:=(i.1 k h).2.2.2;omega
 refine⟨n,bm,rfl,⟨Hb,Ab,base,_,_,_,_,D++[(d,(ALL.length:Int))],ALL++[(x,y,d)],⟨bz v.o Z.o (fun h=>(i.1 Pb h).2.1 rfl),?_,aS.o,aL.o.kept a2 ?_,bA t.o.hb aa,aF,?_,?_,⟨fun k hk=>?_,fun k hk=>?_,?_⟩⟩,aA,fun k hk=>?_⟩,?_⟩
 .have P:=aU a0.o v.o (fun E e=>ao E e);rw[bQ,gZ];exact P
 .rintro k ⟨hk,bG⟩ h9;rcases hk with hk|hk
  .rcases h9 with(h9|h9)|h9
   .exact(i.2.1 k hk).2.1 h9
   .exact(i.2.1 k hk).1 h9
   .exact(i.1 k h9).1 hk
  .rcases h9 with(h9|h9)|h9
   .have:=am k h9;omega
   .omega
   .have:=(i.1 k h9).2.2.2;omega
 .intro id Q hq;rcases bO.1 hq with hq|hq
  .obtain⟨k,c,a7,hc,ab,C⟩:=t.o.fwd id Q hq;exact⟨k,c,a7,Eb _ hc,by rw[lQ (fo.1 ab).1];exact ab,C⟩
  .obtain⟨rfl,rfl⟩:id=d/\Q=(ALL.length:Int):=aP hq;exact⟨ALL.length,((x,y,id),q),rfl,aA,aA,rfl⟩
 .intro c hc;rcases bO.1 hc with hc|hc
  .obtain⟨Q,hq⟩:=t.o.bwd c hc;exact⟨Q,Eb _ hq⟩
  .obtain rfl:c=((x,y,d),q):=aP hc;exact⟨_,List.mem_append_right _ nQ⟩
 .refine⟨?_,?_,fun e=>?_,hk.2⟩
  .rintro⟨h9,bw⟩;rcases hk.1 with vE|vE
   .rcases h9 with h9|h9
    .exact(i.1 k vE).1 h9
    .have:=(i.1 k vE).2.2.2;omega
   .omega
  .rintro rfl;rcases hk.1 with vE|vE
   .exact(i.1 k vE).2.1 rfl
   .omega
  .rcases hk.1 with vE|vE
   .exact ao k e vE
   .have:=(I k e).2;omega
 .refine⟨?_,fun e=>?_,by have:=hk.2;omega⟩
  .rintro rfl;rcases hk.1 with vE|vE
   .exact(i.2.1 k vE).1 rfl
   .omega
  .have F:=hk.2;rcases(I k e).1 with h9|h9
   .rcases hk.1 with vE|vE
    .exact(i.2.1 k vE).2.1 h9
    .have:=am k h9;omega
   .omega
 .intro e;rcases(I Pb e).1 with h9|h9
  .exact i.2.2 h9
  .omega
 .rcases hk with⟨hk,F⟩|⟨hk,F⟩|rfl|hk
  .rcases hk with hk|hk
   .exact .inl (s.o k (.inl hk))
   .exact .inr ⟨aa,F⟩
  .rcases hk with hk|hk
   .exact .inl (s.o k (.inr (.inl hk)))
   .exact .inr ⟨aa,aa⟩
  .exact .inl (s.o k (.inr (.inr (.inl rfl))))
  .have F:=I k hk;rcases F.1 with h9|h9
   .exact .inl (s.o k (.inr (.inr (.inr h9))))
   .exact .inr ⟨aa,aa⟩
 .refine((((ay.refl G w).below aE.o).trans (aT.o.mono fun k h=>s.o k (.inr (.inl h)))).trans (U.o.mono fun k h=>?_)).trans (v.o.mono fun k h=>s.o k (.inl h));rcases h with h|h
  .exact s.o k (.inr (.inr (.inr h)))
  .exact s.o k (.inr (.inr (.inl h)))
end
section
variable {w w':World} {Pb Hb Ab base m:Nat} {av:Value} {G GH SD S:Nat->Prop} {A:List eP} {D:List (Int×Int)} {ALL now:List Pt} {N wk eH Ry:Int}
theorem Nj (h:ek w Pb G m now N wk eH) (d:Int) (p:d∉ids now):
  aK 13 #[aj Pb,ak d] w (fV w (.tuple #[ae 0,.bool false])):=by
 obtain⟨Hb,Ab,base,av,GH,SD,A,D,ALL,a,rfl,t⟩:=h;have r:∀q,(d,q)∉D:=fun q s=>by
  obtain⟨k,c,-,n,-,e⟩:=a.fwd d q s;exact p (cu.2 ⟨c.1,cu.2 ⟨c,n,rfl⟩,e⟩)
 have i:=ag (mf a.blk);have g:=ag (PR a.dir d r);have d1:w.cell? (af Pb 1)=some (aj Ab):=aD a.blk;go_enter func13,ntmps13
 go_wp2_with (first|(go_at_call 55;refine i.o.mono ?_;rintro e w1 ⟨rfl,b⟩;have l:=b.symm;clear b;subst l)|(go_at_call 58;refine g.o.mono ?_;rintro e w1 ⟨rfl,f⟩;have j:=ag f;clear f))
 go_ret2;exact⟨rfl,j.o⟩
def U8 (w:World) (Pb:Nat) (G:Nat->Prop) (m:Nat) (now:List Pt) (N wk eH:Int) (p:Pt) (e:Ending) (w':World):Prop:=
 ∃(n:Nat) (N':Int),e=.returned (.tuple #[ae n,.bool true])/\ek w' Pb (fun k=>G k\/w.heap.size<=k/\k<w'.heap.size) (m+1) (now.filter fun q=>decide (q≠p)) N' (wk+n) eH/\ay G w w'/\VW (now.filter fun q=>decide (q≠p)).length N N' n
theorem vV (h:ek w Pb G m now N wk eH) (aS:m<5000) (x y d:Int) (P:(x,y,d)∈now):
  aK 13 #[aj Pb,ak d] w (U8 w Pb G m now N wk eH (x,y,d)):=by
 obtain⟨Hb,Ab,base,av,GH,SD,A,D,ALL,g,rfl,aE⟩:=h;have⟨c,u,O⟩:=cu.1 P;have aP:=g.half.facts.2.2.2.1;have Q:∀f∈A,f.1.2.2=d->f.1=(x,y,d):=fun f j e=>by
  have aB:(A.map (·.1)).Pairwise fun p q=>p.2.2≠q.2.2:=dm.1 aP;rcases eB aB (rf j) P with h1|h1|h1
  .exact h1
  .exact absurd e h1
  .exact absurd e.symm h1
 have⟨q,i⟩:=g.bwd c u;rw[O]at i;obtain⟨k,f,rfl,j,hk,hid⟩:=g.fwd d q i;rw[Q f j hid]at hk;have F:=(fo.1 hk).1;have ao:=ag Q;have Y:=ag u;have Z:=ag O;have am:=ag hk;have l:=ag aE;have V:=ag (mf g.blk);have U:=ag (Na g.dir g.hb d (k:Int) i);have d1:w.cell? (af Pb 1)=some (aj Ab):=aD g.blk;have a:=ag g;have a8:=g.few;go_enter func13,ntmps13
 go_wp2_with (go_at_call 55;refine V.o.mono ?_;rintro e w1 ⟨rfl,J⟩;have aA:=J.symm;clear J;subst aA)
 refine U.o.mono ?_;rintro e w3 ⟨rfl,aC,aV⟩;have s:=aV.TN;have ab:=ag aC.clip;have ae:=ag (a.o.half.kept s fun k hk=>(a.o.q9.1 k hk).1);have C:=bz s a.o.blk (fun h9=>(a.o.q9.2.1 Pb h9).1 rfl);have R:=aU a.o.row s (fun B e h9=>(a.o.q9.2.1 B h9).2.1 e);have be:=s.size;have X:=ag C;have ap:=ag R;have an:=ag s
 go_wp2_with fail
 obtain⟨aW,ac,az,-,-,aT⟩:=bV.aG bf ai R;have⟨aX,a0,ax,a9,E⟩:=aT.get aa;have I:=E k F 0 aa;have x1:=E k F 1 aa;have x2:=E k F 2 aa;have⟨bd,aQ⟩:=fo.1 am.o;rw[aQ]at I x1 x2;simp only[dw,fG,dx,dH]at I x1 x2;have d0:w3.cell? (af Pb 0)=some (aj Hb):=aD C;have d2:w3.cell? (af Pb 2)=some av:=aD C;rw[az,ax]at d2;have bc:(k:Int)<(ALL.length:Int):=aa;have a1:=ah d0;have a2:=ah d2;have a3:=ah I;have a4:=ah x1;have a5:=ah x2;have T:=ag (Rs (w:=w3.drew) (ae.o.kept (S:=fun _=>False) ((ay.refl _ w3).drew) fun _ _ h=>h) aS c Y.o x y d Z.o);refine au (fun W=>∃p:aR w3,W=p.W) [11,12,13,14,15] [(0,false),(1,false),(2,false),(3,true),(4,false),(5,false),(6,false),(7,true),(8,false),(9,false),(10,true)] ⟨⟨_,(aJ _ _).drew⟩,rfl⟩ 5 ?_;refine aH 11 rfl fun K aL=>?_;refine aZ Ni rfl _ _ rfl (vals:=#[aj Hb,iV x y d]) rfl T.o ?_;rintro e w6 ⟨n,aq,rfl,aF,aM,aO⟩;have ad:=ag aO;refine⟨_,rfl,?_⟩;refine aL _ _ (fun _ h=>absurd ai h) ?_;have al:=ag aF.clip;have r:Hid (ay GH w3 w6):=((ay.refl _ w3).drew).trans aM;refine iR (fun _=>True) [14,15] aN ?_;refine bq [(12,false),(13,false)] trivial rfl ?_;refine aI [14,15] ?_;go_wp2;go_ret2;have bg:=r.o.size;have b:=a.o.q9;have ba:w3.drew.heap.size=w3.heap.size:=rfl;have a7:=(aY.1 a.o.blk).1;have M:∀k,av.ownBlock=some k->k<w.heap.size:=fun k e=>(a.o.row.lt k e).2;refine⟨n,aq,rfl,⟨Hb,Ab,base,av,_,_,_,D.filter fun z=>decide (z.1≠d),ALL,⟨bz r.o X.o (fun h=>(b.1 Pb h).2.1 rfl),aU ap.o r.o (fun B e h=>(b.1 B h).2.2.1 e),al.o,(ab.o.mono (fun k h=>h) (Nat.le_succ _)).kept r.o ?_,bA a.o.hb aa,aa,?_,?_,⟨fun k hk=>?_,fun k hk=>?_,b.2.2⟩⟩,?_,fun k hk=>?_⟩,?_,?_⟩
 .rintro k ⟨hk,bb⟩ h9;rcases hk with hk|hk
  .exact(b.1 k h9).1 hk
  .have:=(b.1 k h9).2.2.2;omega
 .intro id H i;have⟨i,t⟩:=bD.1 i;have⟨k,f,ar,u,aw,v⟩:=a.o.fwd id H i;refine⟨k,f,ar,bD.2 ⟨u,?_⟩,aw,v⟩;simp only[bN]at t |-;intro e;rw[e]at v;exact t v.symm
 .intro f j;have⟨j,t⟩:=bD.1 j;have⟨H,i⟩:=a.o.bwd f j;refine⟨H,bD.2 ⟨i,?_⟩⟩;simp only[bN]at t |-;exact fun e=>t (ao.o f j e)
 .refine⟨?_,?_,fun e=>?_,hk.2⟩
  .rintro⟨h9,a6⟩;rcases hk.1 with vE|vE
   .rcases h9 with h9|h9
    .exact(b.1 k vE).1 h9
    .have:=(b.1 k vE).2.2.2;omega
   .omega
  .rintro rfl;rcases hk.1 with vE|vE
   .exact(b.1 k vE).2.1 rfl
   .omega
  .rcases hk.1 with vE|vE
   .exact(b.1 k vE).2.2.1 e
   .have:=M k e;omega
 .refine⟨?_,fun e=>?_,by have:=hk.2;omega⟩
  .rintro rfl;rcases hk.1 with vE|vE
   .exact(b.2.1 k vE).1 rfl
   .omega
  .rcases hk.1 with vE|vE
   .exact(b.2.1 k vE).2.1 e
   .have:=M k e;omega
 .rw[xP];rfl
 .rcases hk with⟨hk,L⟩|⟨hk,L⟩|rfl|hk
  .rcases hk with hk|hk
   .exact .inl (l.o k (.inl hk))
   .exact .inr ⟨aa,L⟩
  .rcases hk with hk|hk
   .exact .inl (l.o k (.inr (.inl hk)))
   .exact .inr ⟨aa,aa⟩
  .exact .inl (l.o k (.inr (.inr (.inl rfl))))
  .exact .inl (l.o k (.inr (.inr (.inr hk))))
 .exact(an.o.mono fun k h=>l.o k (.inr (.inl h))).trans (r.o.mono fun k h=>l.o k (.inl h))
 .rw[xP,bR];exact ad.o
end
def addN (now:List Pt) (p:Pt):List Pt:=if p.2.2∈ids now then now else now++[p]
def kz (now:List Pt) (d:Int):List Pt:=now.filter fun q=>decide (q.2.2≠d)
theorem Hq {now:List Pt} {d:Int} (h:d∉ids now):kz now d=now:=by
 unfold kz;rw[mF];intro q a;simp only[bN,ne_eq];rintro rfl;exact h (rf a)
theorem Hr {now:List Pt} (hu:(ids now).Nodup) {p:Pt} (hp:p∈now):(now.filter fun q=>decide (q≠p))=kz now p.2.2:=by
 unfold kz;refine oG fun q a=>?_;simp only[ne_eq,decide_not,Bool.not_inj_iff];rw[lI,bN,bN];refine⟨fun e=>by rw[e],fun e=>?_⟩;rcases eB (dm.1 hu) a hp with h|h|h
 .exact h
 .exact absurd e h
 .exact absurd e.symm h
section
variable {w:World} {Pb m:Nat} {G:Nat->Prop} {now:List Pt} {N wk eH:Int}
def Ht (w:World) (Pb:Nat) (G:Nat->Prop) (m:Nat) (VJ:List Pt) (did:Bool) (wk eH:Int) (lo:Nat) (e:Ending) (w':World):Prop:=
 ∃(n:Nat) (N':Int),e=.returned (.tuple #[ae n,.bool did])/\ek w' Pb (fun k=>G k\/w.heap.size<=k/\k<w'.heap.size) (m+did.toNat) VJ N' (wk+n) eH/\ay G w w'/\(did=true->lo<=n)/\(did=false->n=0)
theorem PY (h:ek w Pb G m now N wk eH) (f:m<5000) (p:Pt) (i:Be p):
  aK 12 #[aj Pb,iV p.1 p.2.1 p.2.2] w (Ht w Pb G m (addN now p) (decide (p.2.2∉ids now)) wk eH 1):=by
 by_cases a:p.2.2∈ids now
 .refine(zw h p.1 p.2.1 p.2.2 a).mono ?_;rintro e w' ⟨rfl,c⟩;have b:decide (p.2.2∉ids now)=false:=by simp[a]
  unfold addN;rw[aO a,b];exact⟨0,N,rfl,by rw[show wk+((0:Nat):Int)=wk by omega];exact(h.below c).more fun k h=>.inl h,(ay.refl _ _).below c,(fun h=>by cases h),fun _=>rfl⟩
 .refine(tV h f p.1 p.2.1 p.2.2 i a).mono ?_;rintro e w' ⟨n,g,rfl,hP,d⟩;have b:decide (p.2.2∉ids now)=true:=by simp[a]
  unfold addN;rw[aM a,b];exact⟨n,_,rfl,hP,d,fun _=>g.pos,fun h=>by cases h⟩
theorem K9 (h:ek w Pb G m now N wk eH) (i:m<5000) (d:Int):
  aK 13 #[aj Pb,ak d] w (Ht w Pb G m (kz now d) (decide (d∈ids now)) wk eH 0):=by
 by_cases a:d∈ids now
 .obtain⟨p,hp,rfl⟩:=cu.1 a;refine(vV h i p.1 p.2.1 p.2.2 hp).mono ?_;rintro e w' ⟨n,f,rfl,hP,g,-⟩;have b:decide (p.2.2∈ids now)=true:=by simp[a]
  rw[b,<-Hr h.facts.2.2.2.1 hp];exact⟨n,f,rfl,hP,g,fun _=>bH _,fun h=>by cases h⟩
 .refine(Nj h d a).mono ?_;rintro e w' ⟨rfl,c⟩;have b:decide (d∈ids now)=false:=by simp[a]
  rw[Hq a,b];exact⟨0,N,rfl,by rw[show wk+((0:Nat):Int)=wk by omega];exact(h.below c).more fun k h=>.inl h,(ay.refl _ _).below c,(fun h=>by cases h),fun _=>rfl⟩
abbrev RB:=Int×Pt×Bx×Int
def Fy (o:RB):List Value:=[.int .u8 o.1,.int .i64 o.2.1.1,.int .i64 o.2.1.2.1,.int .u32 o.2.1.2.2,.int .i64 o.2.2.1.1,.int .i64 o.2.2.1.2.1,.int .i64 o.2.2.1.2.2.1,.int .i64 o.2.2.1.2.2.2.1,.int .u32 o.2.2.1.2.2.2.2,.int .u8 o.2.2.2]
theorem U9:eG prog 47 49 10 80:=.mk' (z:=.agg (Fy (0,(0,0,0),(0,0,0,0,0),0)).toArray) underlying47 aN rfl ai
def Uc (o:RB):Prop:=(Lit.int .u8 o.1).wf=true/\Be o.2.1/\Bx.wf o.2.2.1/\(Lit.int .u8 o.2.2.2).wf=true
def DU (now:List Pt) (o:RB):List Pt:=if o.1%2=0 then addN now o.2.1 else kz now o.2.1.2.2
def Nk (now:List Pt) (o:RB):Bool:=if o.1%2=0 then decide (o.2.1.2.2∉ids now)else decide (o.2.1.2.2∈ids now)
theorem TR (h:ek w Pb G m now N wk eH) (B:m<5000) (o:RB) (t:Uc o):
  aK 22 #[aj Pb,.agg (Fy o).toArray] w (Ht w Pb G m (DU now o) (Nk now o) wk eH 0):=by
 obtain⟨b,⟨c,d,a⟩,⟨x1,x2,y1,y2,g⟩,i⟩:=o;obtain⟨w1,r⟩:∃w1,w1=w.alloc (.cells #[.int .u8 b,ae c,ae d,ak a,ae x1,ae x2,ae y1,ae y2,ak g,.int .u8 i] 49):=⟨_,rfl⟩;have f:Below w.heap.size w w1:=by rw[r];exact(aJ _ _).alloc (aB _) _
 have j:w1.heap[w.heap.size]? =some (.cells #[.int .u8 b,ae c,ae d,ak a,ae x1,ae x2,ae y1,ae y2,ak g,.int .u8 i] 49 (0,0)):=by rw[r];exact df w _
 have J:w1.cell? (af w.heap.size 0)=some (.int .u8 b):=aD j;have K:w1.cell? (af w.heap.size 1)=some (ae c):=aD j;have L:w1.cell? (af w.heap.size 2)=some (ae d):=aD j;have M:w1.cell? (af w.heap.size 3)=some (ak a):=aD j;have P:=f.size;have A:Hid (∀(y:List Pt) (x:Bool) (lo:Nat) (e:Ending) (w':World),Ht w1 Pb G m y x wk eH lo e w'->Ht w Pb G m y x wk eH 0 e w'):=by
  rintro y x lo e w' ⟨n,l,E,hP,D,O,I⟩;exact⟨n,l,E,hP.more fun k F=>F.imp id fun h=>⟨aa,h.2⟩,((ay.refl G w).below f).trans D,fun _=>bH _,I⟩
 have H:0<=b/\b<=255:=by
  have:=t.1;simp[Lit.wf,IntKind.min,IntKind.max,IntKind.signed,IntKind.bits]at this;omega
 have C:Int.tmod b 2=b%2:=Int.tmod_eq_emod_of_nonneg H.1;have z:=ag r.symm;by_cases hd:b%2=0
 .have u:=ag (PY (h.below f) B (c,d,a) t.2.1);have p:DU now (b,(c,d,a),(x1,x2,y1,y2,g),i)=addN now (c,d,a):=by unfold DU;exact aO hd
  have q:Nk now (b,(c,d,a),(x1,x2,y1,y2,g),i)=decide (a∉ids now):=by unfold Nk;exact aO hd
  rw[p,q];clear q;generalize decide (a∉ids now)=bd at*;have d1:(b%2==0)=true:=by rw[hd];rfl
  clear h t p C hd f j r;go_enter func22,ntmps22
  go_upto_region 1 with fail
  simp only[Fy];rw[z.o]
  go_wp2_with fail
  refine u.o.mono ?_;intro e w2 hS;obtain⟨n,l,rfl,s⟩:=A.o _ _ _ _ _ hS;have v:=ag s;clear hS s;go_wp2;go_ret2;exact⟨n,l,rfl,v.o⟩
 .have u:=ag (K9 (h.below f) B a);have p:DU now (b,(c,d,a),(x1,x2,y1,y2,g),i)=kz now a:=by unfold DU;exact aM hd
  have q:Nk now (b,(c,d,a),(x1,x2,y1,y2,g),i)=decide (a∈ids now):=by unfold Nk;exact aM hd
  rw[p,q];clear q;generalize decide (a∈ids now)=bd at*;have d1:(b%2==0)=false:=aP hd;clear h t p C hd f j r;go_enter func22,ntmps22
  go_upto_region 1 with fail
  simp only[Fy];rw[z.o]
  go_wp2_with fail
  refine u.o.mono ?_;intro e w2 hS;obtain⟨n,l,rfl,s⟩:=A.o _ _ _ _ _ hS;have v:=ag s;clear hS s;go_wp2;go_ret2;exact⟨n,l,rfl,v.o⟩
end
end
section
open Go.RowKit Go.Maps
theorem pq {l:List Pt}:(bF l).length<=l.length:=by
 have a:(bF l).length<=(eQ l).length:=by unfold bF Cw;exact gV _ _
 rw[(dO l).length_eq]at a;exact a
theorem Cm (A B:List Pt) (p:Pt):tY (A++B) p=(tY A p||tY B p):=by unfold tY;rw[List.any_append]
theorem nG.self {l T:List Pt} (h:nG l T):nG T T:=⟨h.1,fun p=>⟨fun hp=>⟨hp,by rw[wB h];exact((h.2 p).1 hp).2⟩,fun hp=>hp.1⟩⟩
theorem Fz {l:List Pt} (hu:lF l=true) {p:Pt} (h:p∈bF l):p∈l:=((gI ((gW l).1 hu)).2 p).1 h|>.1
theorem FB {l:List Pt} (hu:lF l=true):lF (bF l)=true:=by
 rw[gW]at*;have a:(ids (eQ l)).Nodup:=((dO l).map _).nodup_iff.2 hu;unfold bF Cw;exact a.sublist (List.Sublist.map _ Ed)
theorem Cn {l:List Pt} (hu:lF l=true):kg (bF l)=true:=by
 unfold kg;rw[(FP _).2 (gI ((gW l).1 hu)).self,FB hu];rfl
theorem La {l:List Pt} (hu:lF l=true) (h:KQ l):KQ (bF l):=fun p hp=>h p (Fz hu hp)
theorem xw {A B:List Pt}:lF (A++B)=true↔lF A=true/\lF B=true/\∀p∈A,∀q∈B,p.2.2≠q.2.2:=by
 simp only[gW,ids,bP,pJ,cu];refine and_congr Iff.rfl (and_congr Iff.rfl ⟨fun h p hp q a=>h _ ⟨p,hp,rfl⟩ _ ⟨q,a,rfl⟩,?_⟩);rintro h _ ⟨p,hp,rfl⟩ _ ⟨q,a,rfl⟩;exact h p hp q a
theorem DV {A B:List Pt} (h:lF (A++B)=true):lF (bF A++bF B)=true:=by
 rw[xw]at*;exact⟨FB h.1,FB h.2.1,fun p hp q a=>h.2.2 p (Fz h.1 hp) q (Fz h.2.1 a)⟩
theorem DW {l m:List Pt} (b:lF l=true) (c:lF m=true) (h:∀p,(p∈l/\tY l p=false)↔(p∈m/\tY m p=false)):bF l=bF m:=by
 have a:=gI ((gW _).1 b);exact nG.unique (l:=m) ⟨a.1,fun p=>(a.2 p).trans (h p)⟩ (gI ((gW _).1 c))
theorem PZ {A B:List Pt} (h:lF (A++B)=true):bF (bF A++bF B)=bF (A++B):=by
 have d:=(xw.1 h).1;have e:=(xw.1 h).2.1;have b:=gI ((gW _).1 d);have c:=gI ((gW _).1 e);refine DW (DV h) h fun p=>?_;rw[Cm,Cm,wB b,wB c,bO,bO,b.2 p,c.2 p,Im];constructor
 .rintro⟨h1|h1,a⟩
  .exact⟨.inl h1.1,a⟩
  .exact⟨.inr h1.1,a⟩
 .rintro⟨h1|h1,a⟩
  .exact⟨.inl ⟨h1,a.1⟩,a⟩
  .exact⟨.inr ⟨h1,a.2⟩,a⟩
theorem RD:bF []=[]:=by simp[bF,Cw,eQ]
end
section
open Go.RowKit Go.Sort Go.Shelf Go.Lib Go.Maps
attribute [local irreducible] wpQuiet
attribute [local go_sem] Oper.eT
theorem JZ (B:List (Nat×Nat×List Pt)) (i:Nat):jm B=jm (B.take i)++jm (B.drop i):=by
 unfold jm;rw[<-gZ,jB]
theorem DX {B:List (Nat×Nat×List Pt)} {i:Nat} (hi:i<B.length):jm (B.take (i+1))=jm (B.take i)++B[i].2.2:=by
 unfold jm;rw[ig hi,gZ];simp
theorem Co (B:List (Nat×Nat×List Pt)) (i:Nat):(jm (B.take i)).Sublist (jm B):=by
 rw[JZ B i];exact List.sublist_append_left _ _
theorem RF {l m:List Pt} (h:l.Sublist m) (a:lF m=true):lF l=true:=(gW l).2 (((gW m).1 a).sublist (h.map _))
theorem Hu {l m:List Pt} (h:l.Perm m) (a:lF m=true):lF l=true:=(gW l).2 ((show(ids l).Perm (ids m)from h.map _).nodup_iff.2 ((gW m).1 a))
theorem Hw {l m:List Pt} (h:l.Perm m) (a:lF m=true):bF l=bF m:=
 DW (Hu h a) a fun p=>by rw[h.mem_iff,Dj (fun q=>h.mem_iff) p]
theorem bV.TN {α:Type} {enc:α->List Value} {sz:Nat} {w w':World} {a:Option Addr} {l:List α} {S:Nat->Prop} (h:bV enc sz w a l) (K:ay S w w') (hS:∀x,a=some x->¬S x.block):bV enc sz w' a l:=by
 rcases h with h|⟨b,off,rfl,c,d⟩
 .exact .inl h
 .have e:=K.block b c (hS _ rfl);exact .inr ⟨b,off,rfl,bT c K.size,fun i hi j f=>(dz e).trans (d i hi j f)⟩
section
variable {w:World} {Pb m:Nat} {G:Nat->Prop} {now:List Pt} {N wk eH:Int}
theorem oq.clip {w1:World} {F:Nat->Nat->Prop} {B:List (Nat×Nat×List Pt)} (W:oq w1 G F B):oq w1 G (fun j k=>F j k/\j<B.length) B:=
 ⟨fun j a=>by
  have:(fun k=>F j k/\j<B.length)=F j:=by funext k;simp[a]
  rw[this];exact W.bk j a,fun j k h=>W.UT j k h.1,fun i j k b c=>W.ap i j k b.1 c.1⟩
theorem oq.asked {w1 w2 w3:World} {F:Nat->Nat->Prop} {B:List (Nat×Nat×List Pt)} (W:oq w1 (fun k=>∃j,F j k) F B) (hF:∀j k,F j k->j<B.length) {i:Nat} (hi:i<B.length) (l:Bk w2 (fun k=>F i k\/w1.heap.size<=k/\k<w2.heap.size) B[i].1 B[i].2.1 B[i].2.2) (K:ay (F i) w1 w2) (a:Below w2.heap.size w2 w3):
  oq w3 (fun k=>∃j,F j k\/j=i/\w1.heap.size<=k/\k<w2.heap.size) (fun j k=>F j k\/j=i/\w1.heap.size<=k/\k<w2.heap.size) B:=by
 have b:∀j k,F j k->k<w1.heap.size:=fun j k h=>(W.bk j (hF j k h)).lt k h;refine⟨fun j m=>?_,fun j k h=>⟨j,h⟩,?_⟩
 .by_cases e:j=i
  .subst e;have:(fun k=>F j k\/j=j/\w1.heap.size<=k/\k<w2.heap.size)=fun k=>F j k\/w1.heap.size<=k/\k<w2.heap.size:=by funext k;simp
   rw[this];exact l.below a
  .have:(fun k=>F j k\/j=i/\w1.heap.size<=k/\k<w2.heap.size)=F j:=by funext k;simp[e]
   rw[this];exact((W.bk j m).kept K fun k f g=>e (W.ap j i k f g)).below a
 .rintro j c k (h|⟨e,h,-⟩) (h'|⟨d,h',-⟩)
  .exact W.ap j c k h h'
  .have:=b j k h;omega
  .have:=b c k h';omega
  .rw[e,d]
def Va (w:World) (Pb:Nat) (G:Nat->Prop) (m:Nat) (now:List Pt) (N wk eH:Int) (e:Ending) (w':World):Prop:=
 ∃(v:Value) (G':Nat->Prop),e=.returned v/\w'.ownsRow w.heap.size 27 1 v (dR (ids (bF now))).length ((dR (ids (bF now))).map (Value.int .u32))/\ek w' Pb G' m now N wk eH/\ay G w w'/\∀k,G' k->(G k\/w.heap.size<=k)/\k<w'.heap.size/\v.ownBlock≠some k
theorem Hy (h:ek w Pb G m now N wk eH) (ce:m<=20000):
  aK 16 #[aj Pb] w (Va w Pb G m now N wk eH):=by
 have ar:=h.facts;obtain⟨Hb,Ab,base,av,GH,SD,A,D,ALL,O,rfl,a3⟩:=h;have hu:lF (A.map (·.1))=true:=(gW _).2 ar.2.2.2.1;have aH:=ag (mf O.blk);have aI:=ag (KY O.half.clip);have bI:w.cell? (af Pb 0)=some (aj Hb):=aD O.blk;have f:=ag O;have H:=ag a3;have aX:=ag hu;have a0:=ag ar.2.2.2.2.1;have bY:(A.map (·.1)).length<=20000:=aa;clear O a3 hu ar;go_enter func16,ntmps16
 go_wp2_with (go_at_call 55;refine aH.o.mono ?_;rintro e w1 ⟨rfl,a2⟩;have bM:=a2.symm;clear a2;subst bM)
 refine aI.o.mono ?_;rintro e w1 ⟨v,B,F,rfl,K,q,ao,Q,-,-,b6,a7⟩;have be:lF (jm B)=true:=Hu Q aX.o;have cd:(jm B).length<=20000:=by rw[Q.length_eq];exact bY
 have bg:KQ (jm B):=fun p hp=>by
  obtain⟨c,bS,rfl⟩:=cu.1 (Q.mem_iff.1 hp);exact(a0.o c.1 (rf bS)).2.2
 obtain⟨va,cp,rfl,-,-,-⟩:=Rd.aG (enc:=R8) K;have aT:=ag K;have bo:=ag q;have aZ:=ag ao;have bq:=ag a7;have bB:Hid (bF (jm B)=bF (A.map (·.1))):=Hw Q aX.o;have bC:=ag be;have bD:=ag bg;have cf:=q.size;have ab:Hid (∀j k,F j k->GH k/\k<w.heap.size):=fun j k h=>ao.UT j k h;clear K q ao Q a7 be bg aI aH bI a0
 go_wp2_with fail
 go_loopw [3,17] (fun av E wr=>∃(i:Nat) (S:List Pt) (J:Option Addr) (ac:Nat) (g:Nat->Nat->Prop),av=.slice J S.length ac/\E=.int .i64 i/\i<=B.length/\S.length<=ac/\Hid (S=bF (jm (B.take i)))/\Hid (bV dw 3 wr J S)/\Hid (∀x,J=some x->∀j k,g j k->k≠x.block)/\Hid (oq wr (fun k=>∃j,g j k) g B)/\Hid (∀j k,g j k->j<B.length/\(F j k\/w1.heap.size<=k))/\Hid (ay (fun k=>∃j,F j k) w1 wr)) (fun _ E _=>B.length-(intOf E).toNat)
 case atStart=>exact⟨0,[],none,0,fun j k=>F j k/\j<B.length,rfl,rfl,bH _,bH _,by show[]=_;simp[jm,RD],.inl rfl,(fun x e=>by cases e),⟨aZ.o.clip.bk,fun j k h=>⟨j,h⟩,aZ.o.clip.ap⟩,fun j k h=>⟨h.2,.inl h.1⟩,ay.refl _ _⟩
 case round=>
  obtain⟨i,S,J,ac,g,rfl,rfl,hi,bO,n,aV,aQ,t,r,s⟩:=hrel;by_cases d:i<B.length
  .have bd:=aU aT.o s.o (fun X e h9=>by
    obtain⟨j,h9⟩:=h9;have u:=(aT.o.lt X e).1;have y:=(ab.o j X h9).2;omega)
   obtain⟨co,cq,ah,-,-,bc⟩:=Rd.aG (enc:=R8) bd;injection ah with ah _ bL;subst ah bL;obtain⟨b4,b5,V,-,z⟩:=bc.get aa;have bl:=z i d;have Z:=ag (VD (t.o.bk i d));have aM:=ag (fun w2 w3 u y al=>t.o.asked (w2:=w2) (w3:=w3) (fun j k h=>(r.o j k h).1) d u y al);have aW:=ag (DX d);have Y:=(Co B (i+1)).length_le;have C:lF (jm (B.take (i+1)))=true:=RF (Co B (i+1)) bC.o;have R:KQ (jm (B.take (i+1))):=fun p hp=>bD.o p ((Co B (i+1)).subset hp);rw[DX d]at C R Y;unfold R8 at bl;subst V;generalize B[i]=b at*;obtain⟨tb,n0,lb⟩:=b;simp only at bl Z aM aW C R Y;clear z bc bd;have cb:(i:Int)<(B.length:Int):=aa;rw[bQ]at Y;have am:=(xw.1 C).1;have an:=(xw.1 C).2.1;have bW:=pq (l:=jm (B.take i));have bX:=pq (l:=lb);have aC:=ag (fun(W:World) (T:Option Addr) (U:Nat) (u:bV dw 3 W J S) (y:bV dw 3 W T (bF lb)) (al:(bF lb).length<=U)=>by
    have h:=MR J T S (bF lb) S.length (bF lb).length ac U W rfl rfl bO al u y (by have:=n.o;subst this;omega) (by have:=n.o;subst this;exact La am fun p hp=>R p (Eb _ hp)) (La an fun p hp=>R p (List.mem_append_right _ hp)) (by have:=n.o;subst this;exact Cn am) (Cn an) (by have:=n.o;subst this;exact DV C);have e:bF (S++bF lb)=bF (jm (B.take (i+1))):=by rw[aW.o,n.o];exact PZ C
    rw[e]at h;exact h)
   clear C R Y am an bW bX
   go_wp2_with fail
   refine Z.o.mono ?_;rintro e w2 ⟨T,U,rfl,a8,ba,a5,au⟩;have bp:=ag a5;have ad:=ag au;have aE:=ag (aC.o w2 T U (aV.o.TN au fun x az h=>aQ.o x az i _ h rfl) ba a8);clear a5 au ba a8 aC Z
   go_wp2_with fail
   refine aE.o.mono ?_;rintro e w3 ⟨cn,rfl,aw,a6⟩;obtain⟨bE,bJ,rfl,-,bT,bb⟩:=bV.aG bf ai aw;have bt:=ag aw;have aN:=ag a6;have bw:=ag bb;have cg:=ad.o.size;have cj:=s.o.size;clear aw a6 bb aE;go_wp2;go_roundw
   case rel=>
    refine⟨i+1,_,bE,bJ,fun j k=>g j k\/j=i/\wr.heap.size<=k/\k<w2.heap.size,rfl,by go_num,aa,bT,rfl,bw.o,fun x az j k h=>?_,aM.o w2 w3 bp.o ad.o aN.o,fun j k h=>?_,?_⟩
    .have u:=(bt.o.lt x.block (by rw[az];rfl)).1;rcases h with h|⟨-,-,h⟩
     .have y:=(t.o.bk j (r.o j k h).1).lt k h;omega
     .omega
    .rcases h with h|⟨rfl,h,-⟩
     .exact r.o j k h
     .exact⟨d,.inr aa⟩
    .refine(ay.strip (((s.o.mono fun k h=>.inl h)).trans (ad.o.mono fun k h=>?_))).below aN.o;rcases(r.o i k h).2 with h9|h9
     .exact .inl ⟨i,h9⟩
     .exact .inr h9
   case measure=>exact dX
  .obtain rfl:i=B.length:=aa;rw[jK]at n;have b8:S.length<=20000:=by have u:=n.o;have y:=pq (l:=jm B);rw[<-u]at y;omega
   have ch:=s.o.size;have I:Hid (ay GH w wr):=((ay.refl GH w).below bo.o).trans (s.o.mono fun k h=>by
    obtain⟨j,h⟩:=h;exact(ab.o j k h).1)
   have aq:∀k,av.ownBlock=some k->k<w.heap.size:=fun k e=>(f.o.row.lt k e).2;have b7:=(aY.1 f.o.blk).1;have a:=f.o.q9;have P:∀j k,g j k->k<wr.heap.size/\(GH k\/w.heap.size<=k):=fun j k h=>⟨(t.o.bk j (r.o j k h).1).lt k h,(r.o j k h).2.imp (fun h=>(ab.o j k h).1) fun h=>aa⟩;have bv:Hid (ek wr Pb (fun k=>(G k\/w.heap.size<=k)/\k<wr.heap.size) m (A.map (·.1)) N wk eH):=by
    refine⟨Hb,Ab,base,av,fun k=>(GH k/\k<w.heap.size)\/∃j,g j k,SD,A,D,ALL,⟨bz I.o f.o.blk (fun h=>(a.1 Pb h).2.1 rfl),aU f.o.row I.o (fun X e h=>(a.1 X h).2.2.1 e),bq.o wr g _ s.o ⟨t.o.bk,fun j k h=>.inr ⟨j,h⟩,t.o.ap⟩ (fun k h=>.inl h) (fun j k h=>(r.o j k h).2),f.o.dir.kept I.o (fun k h h9=>(a.1 k h9).1 h),bA f.o.hb I.o.size,f.o.few,f.o.fwd,f.o.bwd,⟨fun k hk=>?_,fun k hk=>⟨(a.2.1 k hk).1,(a.2.1 k hk).2.1,by have:=(a.2.1 k hk).2.2;omega⟩,a.2.2⟩⟩,rfl,fun k hk=>?_⟩
    .have hq:GH k\/w.heap.size<=k:=hk.elim (fun h=>.inl h.1) fun⟨j,h⟩=>(P j k h).2;have a9:k<wr.heap.size:=hk.elim (fun h=>by have:=h.2;omega) fun⟨j,h⟩=>(P j k h).1;rcases hq with hq|hq
     .exact⟨(a.1 k hq).1,(a.1 k hq).2.1,(a.1 k hq).2.2.1,a9⟩
     .exact⟨fun h=>by have:=(a.2.1 k h).2.2;omega,aa,fun e=>by have:=aq k e;omega,a9⟩
    .rcases hk with hk|hk|rfl|hk
     .rcases hk with hk|⟨j,hk⟩
      .exact⟨.inl (H.o k (.inl hk.1)),by have:=hk.2;omega⟩
      .exact⟨(P j k hk).2.imp (fun h=>H.o k (.inl h)) id,(P j k hk).1⟩
     .exact⟨.inl (H.o k (.inr (.inl hk))),by have:=(a.2.1 k hk).2.2;omega⟩
     .exact⟨.inl (H.o k (.inr (.inr (.inl rfl)))),aa⟩
     .exact⟨.inl (H.o k (.inr (.inr (.inr hk)))),by have:=aq k hk;omega⟩
   have ca:¬(B.length:Int)<(B.length:Int):=aa;have bs:Hid (ay G w wr):=I.o.mono fun k h=>H.o k (.inl h);clear I a P aq;have bx:Hid (S=bF (A.map (·.1))):=n.o.trans bB.o;clear n aQ t r s;obtain⟨w4,bN⟩:∃w4:World,w4=wr:=⟨_,rfl⟩;subst bN
   go_wp2_with fail
   go_loopw [6,31] (fun v E wr=>∃i:Nat,E=.int .i64 i/\i<=S.length/\Hid (wr.ownsRow w4.heap.size 27 1 v (ids (S.take i)).length ((ids (S.take i)).map (Value.int .u32)))/\Below w4.heap.size w4 wr) (fun _ E _=>S.length-(intOf E).toNat)
   case atStart=>exact⟨0,rfl,bH _,by simp[ids];exact dA _ _ _ _,aJ _ _⟩
   case round=>
    obtain⟨i,rfl,hi,HO,q⟩:=hrel;have b1:=q.size;have bZ:(ids (S.take i)).length<=20000:=by
     unfold ids;rw[bR,eX];omega
    by_cases d:i<S.length
    .obtain⟨b,off,V,b9,z⟩:=(aV.o.below q).get aa;have bj:=z i d 0 aa;have x1:=z i d 1 aa;have x2:=z i d 2 aa;simp only[dw,fG,dx,dH]at bj x1 x2;have aO:Hid (ids (S.take (i+1))=ids (S.take i)++[S[i].2.2]):=by
      show _=_;unfold ids;rw[ig d,bP];rfl
     have aL:=ag V;clear z V;generalize S[i]=p at*;obtain⟨bh,bi,aA⟩:=p;simp only at bj x1 x2 aO;obtain rfl:=aL.o;clear aL;generalize ids (S.take i)=L at*;have cc:(i:Int)<(S.length:Int):=aa;have aR:=ag (HO.o.alloc (.cells #[ae bh,ae bi,ak aA] 29));have bm:=q.alloc b1 (.cells #[ae bh,ae bi,ak aA] 29)
     go_wp2_with (at_builtin;refine vB uj w4.heap.size aR.o [.int .u32 aA] rfl (by simp[Value.oneCell']) rfl _ _ rfl rfl _ (by show ax (wr.heap.size+1) 1 1=_;simp) dI aa aF ?_;intro cm w6 b0 bU;have bG:=dB bm aR.o bU aF (aB _))
     go_roundw
     case rel=>
      refine⟨i+1,by go_num,aa,?_,bG⟩;show World.ownsRow _ _ _ _ _ _ _;rw[aO.o,bP,bQ];exact b0
     case measure=>exact dX
    .obtain rfl:i=S.length:=aa;have M:=HO.o;rw[jK]at M bZ;have bn:=ag (zH M aa);have aS:=ag M;obtain⟨ck,cl,rfl,-,-,-⟩:=Rd.aG M;have br:=ag q;clear M HO q
     go_wp2_with (go_at_call 64;refine bn.o.mono ?_;rintro e b3 ⟨rfl,K,a4⟩;have bu:=ag K;have aP:=ag a4;clear K a4)
     go_ret;have ci:=aP.o.size;have a1:ay (fun _=>False) w4 b3:=ay.strip ((((ay.refl (fun _=>False) w4).below br.o).mono fun k h=>.inl h).trans (aP.o.mono fun k h=>.inr (aS.o.lt k h).1));have bK:dR (ids S)=dR (ids (bF (A.map (·.1)))):=by rw[<-bx.o]
     have b2:(dR (ids S)).length=(ids S).length:=iB _;refine⟨_,fun k=>(G k\/w.heap.size<=k)/\k<w4.heap.size,rfl,?_,bv.o.kept a1 fun _ _ h=>h,bs.o.trans (a1.mono fun _ h=>h.elim),fun k hk=>⟨hk.1,aa,fun e=>by have:=(aS.o.lt k e).1;omega⟩⟩;rw[<-bK,b2];exact eF bu.o aa
end
end
section
open Go.RowKit Go.Lib
theorem P5 (l:List Int) (x:Int):x∈dR l↔x∈l:=(oC l _).mem_iff
def Cu (L:List Pt):List Int:=dR (ids (bF L))
theorem Cq {L M:List Pt} (h:L.Perm M) (hu:(ids M).Nodup):Cu L=Cu M:=by unfold Cu;rw[Hw h ((gW M).2 hu)]
theorem FC {L:List Pt} (hu:(ids L).Nodup) (x:Int):x∈Cu L↔∃p∈L,tY L p=false/\p.2.2=x:=by
 unfold Cu;rw[P5];unfold ids;rw[cu];constructor
 .rintro⟨p,hp,e⟩;have:=((gI hu).2 p).1 hp;exact⟨p,this.1,this.2,e⟩
 .rintro⟨p,a,b,e⟩;exact⟨p,((gI hu).2 p).2 ⟨a,b⟩,e⟩
theorem P6 {L:List Pt} (hu:(ids L).Nodup):(Cu L).Pairwise (·<·):=by
 have a:(ids (bF L)).Nodup:=by
  refine dm.2 ((gI hu).1.imp_of_mem fun{p q} hp d h e=>?_);have c:=(((gI hu).2 p).1 hp).1;have f:=(((gI hu).2 q).1 d).1;rw[Ka hu c f e]at h;exact qh _ h
 have b:(Cu L).Nodup:=(oC _ _).nodup_iff.2 a;exact((nK (ids (bF L))).and b).imp fun h=>by have:=h.1;have:=h.2;omega
theorem P7 {L:List Pt} (hu:(ids L).Nodup) {d x:Int} (c:x∈Cu L) (hd:x≠d):x∈Cu (kz L d):=by
 obtain⟨p,hp,a,rfl⟩:=(FC hu x).1 c;refine(FC (Bw hu _) _).2 ⟨p,bD.2 ⟨hp,aP hd⟩,?_,rfl⟩;rw[mP]at a |-;exact fun q b=>a q (bD.1 b).1
theorem TS {L:List Pt} (hu:(ids L).Nodup) {x:Int} (a:x∈Cu L):∃p∈L,p.2.2=x:=by
 obtain⟨p,hp,-,e⟩:=(FC hu x).1 a;exact⟨p,hp,e⟩
theorem Nl {L:List Pt} (hu:(ids L).Nodup) {p:Pt} (hp:p∈L):(kz L p.2.2++[p]).Perm L:=by
 have e:kz L p.2.2=L.erase p:=by
  rw[<-Hr hu hp,(Bz hu).erase_eq_filter];refine oG fun q _=>?_;rw[lI,bN,bne_iff_ne]
 rw[e];exact(List.perm_append_singleton p _).trans (List.perm_cons_erase hp).symm
theorem J2 {L:List Pt} {d:Int}:d∉ids (kz L d):=by
 intro h;obtain⟨p,hp,e⟩:=cu.1 h;simpa[e]using(bD.1 hp).2
def Lb (A B:List Int) (k j:Nat):Prop:=∀i (hi:i<A.length) t (ht:t<B.length),k<=i->t<j->B[t]<A[i]
theorem P8 {A B:List Int} {d:Int} (f:∀x∈A,x≠d->x∈B) (g:B.Pairwise (·<·)) {k j:Nat} (h:Lb A B k j) (b:k<A.length) (c:∀a:j<B.length,A[k]<B[j]):A[k]=d:=by
 refine Classical.byContradiction fun l=>?_;obtain⟨t,ht,e⟩:=jb (f A[k] (bG b) l);by_cases m:t<j
 .have:=h k b t ht (aB _) m;omega
 .have a:j<B.length:=aa;have n:=c a;by_cases i:t=j
  .subst i;omega
  .have:=fZ.1 g j t a ht aa;omega
theorem J3 {A B:List Int} {k j:Nat} (h:Lb A B k j):Lb A B (k+1) j:=fun i hi t ht b a=>h i hi t ht aa a
theorem Cr {A B:List Int} (f:A.Pairwise (·<·)) {k j:Nat} (h:Lb A B k j) (l:j<B.length) (b:∀m:k<A.length,B[j]<A[k]):Lb A B k (j+1):=by
 intro i hi t ht c g;by_cases e:t=j
 .subst e;have d:=b aa;by_cases a:i=k
  .subst a;exact d
  .have:=fZ.1 f k i aa hi aa;omega
 .exact h i hi t ht c aa
theorem TT {A B:List Int} (a:A.Pairwise (·<·)) {k j:Nat} (h:Lb A B k j) (b:j<B.length) (c:k<A.length) (e:A[k]=B[j]):Lb A B (k+1) (j+1):=by
 refine Cr a (J3 h) b fun d=>?_;have:=fZ.1 a k (k+1) c d aa;omega
theorem RG {L:List Pt} {d:Int} (hu:(ids (L++[(9223372036854775807,9223372036854775807,d)])).Nodup) (c:∀q∈L,Be q) (h:L.filter (CK 9223372036854775807 9223372036854775807 9223372036854775807 9223372036854775807)=[]):Cu (L++[(9223372036854775807,9223372036854775807,d)])=[d]:=by
 have b:∀q∈L,¬(q.1=9223372036854775807/\q.2.1=9223372036854775807):=fun q hq a=>by
  have:=uD.1 h q hq;simp[CK,a.1,a.2]at this
 have e:bF (L++[(9223372036854775807,9223372036854775807,d)])=[(9223372036854775807,9223372036854775807,d)]:=by
  refine(gI hu).unique ⟨List.pairwise_singleton _ _,fun p=>?_⟩;rw[ji,mP];constructor
  .rintro rfl;refine⟨aA,fun q hq=>?_⟩;rcases bO.1 hq with hq|hq
   .have f:=Sc (c q hq);have g:=b q hq;simp only[y8,Ik,Im,gY];omega
   .rw[ji]at hq;subst hq;simp[y8]
  .rintro⟨hp,j⟩;rcases bO.1 hp with hp|hp
   .exfalso;have f:=Sc (c p hp);have g:=b p hp;have i:=j (9223372036854775807,9223372036854775807,d) aA;simp only[y8,Ik,Im,gY]at i;omega
   .simpa using hp
 unfold Cu;rw[e];simp[ids,dR]
end
end Go.Proofs.YtkjdbndekceffaaGreat
