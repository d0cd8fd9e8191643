/- heap.down: from a node down; what a closure is told. -/
import Derived.Test.YtggfdlanobndjaaGreatHpA
import Derived.Test.YtggfdlanobndjaaGreatCan
import Derived.Test.YtggfdlanobndjaaGreatQ3
import Derived.Outline
import Derived.Deep.CutBlock
import Derived.Deep.CutRange
namespace Go.Proofs.YtggfdlanobndjaaGreat
open Go.RowKit Go.Sort Go.Shelf Go.Lib Go.Maps
attribute [local irreducible] wpQuiet
attribute [local go_sem] Oper.still1
set_option linter.unusedSimpArgs false
set_option linter.unusedVariables false

/-- three sides as they are asked -/
abbrev askB (fr ub : Nat) (y : Int) (F : Nat) (cb : Array Value) (c : Nat) : Obj := .cells #[.int .i64 fr, .int .i64 ub, .int .i64 y, .func (.func F) #[] cb, .int .i64 c] 160 (0, 0)

/-- what a closure does that is told of points: it keeps a state, writes the blocks D alone, and says whether more are wanted -/
structure TldH (F : Nat) (cb : Array Value) (more : Bool) (R : List Pt) (w0 : World) (FL : List Nat) (S : World → List Nat → (Nat → Prop) → Prop) : Prop where
  enters : ∀ args w, (callFunc F args).run Tryz.prog w = .ok (.enter F args) w
  base : ∀ W acc D, S W acc D → Below w0.heap.size w0 W
  lt : ∀ W acc D, S W acc D → ∀ k, D k → w0.heap.size ≤ k ∧ k < W.heap.size
  stable : ∀ W W' acc D E, S W acc D → KpS E W W' → (∀ k, E k → w0.heap.size ≤ k ∧ ¬ D k) → S W' acc D
  told : ∀ W acc D i, S W acc D → i < R.length → acc ++ [i] <+: FL →
    Calls Tryz.prog F (#[vPt (ptAt R i).1 (ptAt R i).2.1 (ptAt R i).2.2] ++ cb) W fun e w' => e = .returned (.bool more) ∧ ∃ D', S w' (acc ++ [i]) D' ∧ (∀ k, D' k → D k ∨ W.heap.size ≤ k) ∧ KpS D W w'

def DnH (S : World → List Nat → (Nat → Prop) → Prop) (W : World) (D : Nat → Prop) (ab fr ub : Nat) (y : Int) (F : Nat) (cb : Array Value) (c : Nat) (acc : List Nat) (r : List Nat × Nat × Bool) (e : Ending) (w' : World) : Prop :=
  e = .returned (.bool r.2.2) ∧ ∃ D', S w' (acc ++ r.1) D' ∧ (∀ k, D' k → D k ∨ W.heap.size ≤ k) ∧ KpS (fun k => D k ∨ k = ab) W w' ∧ w'.heap[ab]? = some (askB fr ub y F cb (c + r.2.1))

/-- a call whose guard is met -/
theorem step_callW {P : Program} {ops : Array Oper} {o : Oper} {a : Act} {K : Act → World → Prop} {Q : Exit → Act → World → Prop} {E0 : Prop} {f : FuncId} {w : World} {vals : Array Value} {R : Ending → World → Prop} (hen : ∀ args w, (callFunc f args).run P w = .ok (.enter f args) w) (hw : Region.wanted o (yielded ops a.tmps) = true) (g : Operand) (args : Array Operand) (tys : Array TypeId) (ho : o.op = .call { callee := .value g, args := args, argTypes := tys })
    (cb : Array Value) (hg : a.eval g = .func (.func f) #[] cb) (hargs0 : vals = (args.toList.map a.eval).toArray ++ cb)
    (C : Calls P f vals w R) (h : ∀ e w', R e w' → ∃ v, e = .returned v ∧ K (a.put o.dst v) w') :
    if Region.wanted o (yielded ops a.tmps) = true then Oper.wp P o a w K Q else E0 := by
  rw [if_pos hw]
  unfold Oper.wp
  have hargs : args.map a.eval ++ cb = vals := by rw [hargs0, ← Array.toList_map]
  have he : (execOp a.eval o).run P w = .ok (.enter f vals) w := by
    simp [execOp, ho, resolve, invoke, hg, hargs, Deferred.ofValue, hen]
  rw [he, Oper.upon_enter]
  refine C.mono fun e w' hr => ?_
  obtain ⟨v, rfl, hk⟩ := h e w' hr
  exact hk

theorem enters_hdown : ∀ args w, (callFunc 90 args).run Tryz.prog w = .ok (.enter 90 args) w := enters_of Tryz.func90 (by kernel_rfl) rfl

set_option maxRecDepth 100000 in
set_option maxHeartbeats 8000000 in
theorem heap_down1 (F : Nat) (cb : Array Value) (more : Bool) (R : List Pt) (h : Hld) (cnt : Int) (V : HepV) (lo hi tb fb ab : Nat) (w0 : World) (S : World → List Nat → (Nat → Prop) → Prop) (y : Int) (fr ub : Nat) (FL : List Nat)
    (hT : TldH F cb more R w0 FL S) (hA : HptAt w0 lo hi tb fb R h cnt V) (hR : R.length ≤ 20000) (hab : w0.heap.size ≤ ab)
    (t : FT) (s : Nat) (W : World) (acc : List Nat) (D : Nat → Prop) (c : Nat) (ha : FT.At (nds R.length) t s) (hw : t.wf) (hhi : t.hi ≤ R.length) (ok : HpOK (ltI R) h t s) (hS : S W acc D) (hD : ¬ D ab) (hblk : W.heap[ab]? = some (askB fr ub y F cb c)) (hc : c + t.size ≤ 1000000)
    (hFL : acc ++ (downG more h (yvR R) y fr ub t s).1 <+: FL)
    (hrec : ∀ l r, t = .node l r → (∀ W acc D c, S W acc D → ¬ D ab → W.heap[ab]? = some (askB fr ub y F cb c) → c + l.size ≤ 1000000 → acc ++ (downG more h (yvR R) y fr ub l s).1 <+: FL →
      Calls Tryz.prog 90 #[.pointer (some ⟨tb, 0, none⟩), .int .i64 (l.root s : Nat), .pointer (some ⟨ab, 0, none⟩)] W (DnH S W D ab fr ub y F cb c acc (downG more h (yvR R) y fr ub l s))) ∧
      ∀ W acc D c, S W acc D → ¬ D ab → W.heap[ab]? = some (askB fr ub y F cb c) → c + r.size ≤ 1000000 → acc ++ (downG more h (yvR R) y fr ub r (s + l.size)).1 <+: FL →
      Calls Tryz.prog 90 #[.pointer (some ⟨tb, 0, none⟩), .int .i64 (r.root (s + l.size) : Nat), .pointer (some ⟨ab, 0, none⟩)] W (DnH S W D ab fr ub y F cb c acc (downG more h (yvR R) y fr ub r (s + l.size)))) :
    Calls Tryz.prog 90 #[.pointer (some ⟨tb, 0, none⟩), .int .i64 (t.root s : Nat), .pointer (some ⟨ab, 0, none⟩)] W (DnH S W D ab fr ub y F cb c acc (downG more h (yvR R) y fr ub t s)) := by
  have h0 : 0 < R.length := by have := t.lo_hi hw; omega
  have hsz0 := t.size_pos
  have hbW := hT.base W acc D hS
  have hDlt := hT.lt W acc D hS
  have HDLT := Lib.hid hDlt
  clear hDlt
  have habl : ab < W.heap.size := (Array.getElem?_eq_some_iff.1 hblk).1
  have k4 : W.cell? ⟨ab, 4, none⟩ = some (.int .i64 c) := by simp [World.cell?, hblk]
  have z4 : W.frozen? ⟨ab, 4, none⟩ = false := by simp [World.frozen?, hblk]
  have hc1 : c + 1 ≤ 1000000 := by omega
  obtain ⟨w1, ew1⟩ : ∃ w1, w1 = W.setCell ⟨ab, 4, none⟩ (.int .i64 ((c + 1 : Nat) : Int)) := ⟨_, rfl⟩
  have K1 : KpS (fun k => k = ab) W w1 := by rw [ew1]; exact (KpS.refl (fun k => k = ab) W).set (a := ⟨ab, 4, none⟩) _ (.inl rfl)
  have hblk1 : w1.heap[ab]? = some (askB fr ub y F cb (c + 1)) := by rw [ew1]; exact heap_setCell_same W ab 4 _ _ _ hblk
  have hS1 : S w1 acc D := hT.stable W w1 acc D _ hS K1 (fun k hk => by subst hk; exact ⟨hab, hD⟩)
  have hb1 := hT.base w1 acc D hS1
  have hA1 := hA.below hb1 hA.tbr.2.2.2.2
  obtain ⟨gn, off, cn, env, rnd⟩ := hA1.nodes h0
  obtain ⟨gh, ch, ehv, -, -, -, -, hghl, hcs, -⟩ := hA1.holds h0
  obtain ⟨ra, rc, erv, -, -, rrow⟩ := RdK.of_owns ePt_len (by decide) hA1.row
  have hb' := hA1.blk
  rw [env, ehv, erv] at hb'
  have hget := ha.get
  have hlt := ha.lt
  obtain ⟨hgn, n0, n1, n2, n3, n4, n5, n6⟩ := nd_all rnd hget
  rw [FT.top_fr] at n3
  rw [FT.top_to] at n4
  have e0 := (hcs _ hlt).1
  have htl : tb < w1.heap.size := hA1.tbl
  have c0 : w1.cell? ⟨tb, 0, none⟩ = some (.slice ra R.length rc) := by simp [World.cell?, hb']
  have c3 : w1.cell? ⟨tb, 3, none⟩ = some (.slice (some ⟨gn, off, none⟩) (nds R.length).length cn) := by simp [World.cell?, hb']
  have c4 : w1.cell? ⟨tb, 4, none⟩ = some (.slice (some ⟨gh, 0, none⟩) (nds R.length).length ch) := by simp [World.cell?, hb']
  have s0 : w1.cell? ⟨ab, 0, none⟩ = some (.int .i64 fr) := by simp [World.cell?, hblk1]
  have s1 : w1.cell? ⟨ab, 1, none⟩ = some (.int .i64 ub) := by simp [World.cell?, hblk1]
  have s2 : w1.cell? ⟨ab, 2, none⟩ = some (.int .i64 y) := by simp [World.cell?, hblk1]
  have s3 : w1.cell? ⟨ab, 3, none⟩ = some (.func (.func F) #[] cb) := by simp [World.cell?, hblk1]
  have hlh := t.lo_hi hw
  have hM : (nds R.length).length ≤ 40000 := by rw [nds_len]; omega
  have hst := t.size_pos
  -- names
  obtain ⟨th, eth⟩ : ∃ th, th = t.hi := ⟨_, rfl⟩
  obtain ⟨tl, etl⟩ : ∃ tl, tl = t.lo := ⟨_, rfl⟩
  rw [← eth] at n4 hhi hlh
  rw [← etl] at n3 hlh
  obtain ⟨K, hK⟩ : ∃ K, K = t.root s := ⟨_, rfl⟩
  obtain ⟨d, hd⟩ : ∃ d, d = t.top s := ⟨_, rfl⟩
  obtain ⟨o, ho⟩ : ∃ o, o = h (t.root s) := ⟨_, rfl⟩
  rw [← hd] at n0 n1 n2 n6
  rw [← ho] at e0
  rw [← hK] at n0 n1 n2 n3 n4 n5 n6 hlt e0
  obtain ⟨r, hr⟩ : ∃ r, r = downG more h (yvR R) y fr ub t s := ⟨_, rfl⟩
  have HE : Hid (th = t.hi ∧ tl = t.lo ∧ K = t.root s ∧ d = t.top s ∧ o = h (t.root s) ∧ r = downG more h (yvR R) y fr ub t s) := ⟨eth, etl, hK, hd, ho, hr⟩
  rw [← hr] at hFL ⊢
  rw [← hK]
  have HFL := Lib.hid hFL
  have HTT := Lib.hid hT
  have HS1 := Lib.hid hS1
  have HA := Lib.hid hA
  have HRW := Lib.hid rrow
  have HREC := Lib.hid hrec
  have HOK := Lib.hid ok
  have HK1 := Lib.hid K1
  have HB1 := Lib.hid hblk1
  have HWF := Lib.hid hw
  have HAA := Lib.hid ha
  have HC := Lib.hid hc
  have HDD := Lib.hid hD
  have hsz1 : w1.heap.size = W.heap.size := by rw [ew1]; simp
  have HSZ := Lib.hid hsz1
  obtain ⟨M, hMM⟩ : ∃ M, M = (nds R.length).length := ⟨_, rfl⟩
  obtain ⟨nR, hnR⟩ : ∃ nR, nR = R.length := ⟨_, rfl⟩
  rw [← hMM] at c3 c4 hlt hM
  rw [← hnR] at c0 hR hhi h0
  have HNN : Hid (M = (nds R.length).length ∧ nR = R.length) := ⟨hMM, hnR⟩
  have hwabl : ab < w1.heap.size := by omega
  have hrowlt : ∀ i, o = some i → i < nR ∧ tl ≤ i ∧ i < th := fun i ei => by
    rw [ho] at ei
    obtain ⟨L, eL⟩ := held_root ei
    have := ok.span hw i (by rw [eL]; simp)
    omega
  have HRL := Lib.hid hrowlt
  clear hrowlt eth etl hK hd ho hr hFL hT hS1 hA rrow hrec ok K1 hblk1 hw ha hc hD hsz1 hMM hnR hb' hget env ehv erv hcs rnd hS hbW hA1 hb1 hst hsz0 hblk
  go_enter Tryz.func90, Tryz.ntmps90
  go_upto_region 2 with fail
  rw [show W.setCell ⟨ab, 4, none⟩ (.int .i64 ((c : Int) + 1)) = w1 by rw [ew1]; rfl]
  clear ew1 k4 z4
  obtain ⟨w2, ew2⟩ : ∃ w2, w2 = (w1.alloc (.cells #[.int .u8 d.kind, .int .i64 d.l, .int .i64 d.r, .int .i64 tl, .int .i64 th, .int .i64 0, .int .i64 d.item] 119)).drew := ⟨_, rfl⟩
  have hb2 : Below w1.heap.size w1 w2 := by rw [ew2]; exact ((Below.refl _ _).alloc (Nat.le_refl _) _).drew
  have hx2 : w2.heap[w1.heap.size]? = some (.cells #[.int .u8 d.kind, .int .i64 d.l, .int .i64 d.r, .int .i64 tl, .int .i64 th, .int .i64 0, .int .i64 d.item] 119 (0, 0)) := by rw [ew2]; exact lit0 w1 _
  have HB2 := Lib.hid hb2
  have HX2 := Lib.hid hx2
  have HS2 : Hid (S w2 acc D) := HTT.out.stable w1 w2 acc D (fun _ => False) HS1.out ((KpS.refl _ w1).below hb2) (fun k h => h.elim)
  clear hb2 hx2
  have g3 := cell_belowW c3
  have g4 := cell_belowW c4
  have p0 := cell_belowW n0
  have p1 := cell_belowW n1
  have p2 := cell_belowW n2
  have p3 := cell_belowW n3
  have p4 := cell_belowW n4
  have p5 := cell_belowW n5
  have p6 := cell_belowW n6
  have pe := cell_belowW e0
  refine wp_region_head (fun W => ∃ p : BelowW w1, W = p.W) [16] [(0, false), (1, false), (2, false), (3, true), (4, false), (5, false), (6, true), (7, false), (8, false), (9, false), (10, true), (11, false), (12, false), (13, true)] (by kernel_rfl) (by kernel_rfl) (fun _ _ d _ _ h => by cases d <;> exact h) ⟨⟨_, (Below.refl _ _).drew⟩, rfl⟩ 3 rfl (by kernel_rfl) ?_
  simp only [pickB, List.filterMap_cons, List.filterMap_nil, List.getElem?_toArray, List.getElem?_cons_succ, List.getElem?_cons_zero, Option.map_some]
  repeat (refine wpHd_step (fun K hK => ?_); go_simp; first | (refine hK _ ?_; clear hK K) | (apply Exists.intro; refine ⟨fun _ => ?_, hK _ ?_⟩; rfl; clear hK K))
  refine wpHd_nil ?_
  refine wpAnyT_ready [14] (by kernel_rfl) (by simp) ?_
  refine AllReadyT.cons rfl (fun K hK => ?_) AllReadyT.nil
  go_simp
  refine hK _ _ (fun _ _ => ⟨⟨_, (Below.refl _ w1).alloc (Nat.le_refl _) _ |>.drew⟩, rfl⟩) ?_
  clear hK K
  refine wpAnyT_ready [15] (by kernel_rfl) (by simp) ?_
  refine AllReadyT.cons rfl (fun K hK => ?_) AllReadyT.nil
  go_simp
  refine hK _ _ (fun _ _ => ⟨⟨_, (Below.refl _ w1).alloc (Nat.le_refl _) _ |>.drew⟩, rfl⟩) ?_
  clear hK K
  refine wpAnyT_line [16] _ _ _ (by kernel_rfl) ?_
  simp only [pick, List.filterMap_cons, List.filterMap_nil, List.getElem?_toArray, List.getElem?_cons_succ, List.getElem?_cons_zero]
  rw [← ew2]
  clear g3 g4 p0 p1 p2 p3 p4 p5 p6 pe ew2
  go_upto_region 3 with fail
  have hb2 := HB2.out
  have hxl : w1.heap.size < w2.heap.size := (Array.getElem?_eq_some_iff.1 HX2.out).1
  have hx2 := HX2.out
  have b0 := (hb2.cell (p := ⟨tb, 0, none⟩) htl).trans c0
  have t0 := (hb2.cell (p := ⟨ab, 0, none⟩) hwabl).trans s0
  have t1 := (hb2.cell (p := ⟨ab, 1, none⟩) hwabl).trans s1
  have t2 := (hb2.cell (p := ⟨ab, 2, none⟩) hwabl).trans s2
  have t3 := (hb2.cell (p := ⟨ab, 3, none⟩) hwabl).trans s3
  have x0 : w2.cell? ⟨w1.heap.size, 0, none⟩ = some (.int .u8 d.kind) := by simp [World.cell?, hx2]
  have x1 : w2.cell? ⟨w1.heap.size, 1, none⟩ = some (.int .i64 d.l) := by simp [World.cell?, hx2]
  have x2 : w2.cell? ⟨w1.heap.size, 2, none⟩ = some (.int .i64 d.r) := by simp [World.cell?, hx2]
  have x3 : w2.cell? ⟨w1.heap.size, 3, none⟩ = some (.int .i64 tl) := by simp [World.cell?, hx2]
  have x4 : w2.cell? ⟨w1.heap.size, 4, none⟩ = some (.int .i64 th) := by simp [World.cell?, hx2]
  have HB2A : Hid (w2.heap[ab]? = some (askB fr ub y F cb (c + 1))) := (hb2.block ab hwabl).trans HB1.out
  have HKW : Hid (KpS (fun k => D k ∨ k = ab) W w2) := (HK1.out.mono fun k h => .inr h).below hb2
  have HR2 : Hid (RdK ePt 3 w2 ra R) := HRW.out.below hb2
  have FIN : Hid (∀ (wz : World) (n : Nat), Below w2.heap.size w2 wz → r = ([], 1, true) → DnH S W D ab fr ub y F cb c acc r (.returned (.bool true)) wz) := fun wz n hb e => by
    rw [e]
    show DnH S W D ab fr ub y F cb c acc ([], 1, true) _ _
    refine ⟨rfl, D, ?_, fun k h => .inl h, HKW.out.below hb, (hb.block ab (Nat.lt_trans hwabl hxl)).trans HB2A.out⟩
    show S wz (acc ++ []) D
    rw [List.append_nil]
    exact HTT.out.stable w2 wz acc D (fun _ => False) HS2.out ((KpS.refl _ w2).below hb) (fun k h => h.elim)
  clear hb2 hx2 c0 c3 c4 s0 s1 s2 s3 n0 n1 n2 n3 n4 n5 n6 e0
  cases o with
  | none =>
    have hr : r = ([], 1, true) := by
      obtain ⟨-, -, -, -, e5, e6⟩ := HE.out
      rw [e6]
      exact downG_no e5.symm
    have F1 : Hid (∀ n, DnH S W D ab fr ub y F cb c acc r (.returned (.bool true)) (w2.drewN n)) := fun n => FIN.out _ n (Below.drewAny _ _) hr
    clear hr
    simp only [eHo]
    go_quiet (fail)
    go_wp2
    go_ret
    exact F1.out _
  | some i =>
    obtain ⟨hiR, hi1, hi2⟩ := HRL.out i rfl
    have hiR2 : i < R.length := by rw [← HNN.out.2]; exact hiR
    obtain ⟨rb, ro, era, hrb, hrc⟩ := HR2.out.get (by omega)
    have r0 := hrc i hiR2 0 (by omega)
    have r1 := hrc i hiR2 1 (by omega)
    have r2 := hrc i hiR2 2 (by omega)
    simp only [ePt, List.getElem?_cons_zero, List.getElem?_cons_succ, Nat.add_zero] at r0 r1 r2
    rw [← ptAt_eq hiR2] at r0 r1 r2
    subst era
    have hyv : yvR R i = (ptAt R i).2.1 := rfl
    have HTOLD : Hid (∀ W acc D, S W acc D → acc ++ [i] <+: FL → Calls Tryz.prog F (#[vPt (ptAt R i).1 (ptAt R i).2.1 (ptAt R i).2.2] ++ cb) W fun e w' => e = .returned (.bool more) ∧ ∃ D', S w' (acc ++ [i]) D' ∧ (∀ k, D' k → D k ∨ W.heap.size ≤ k) ∧ KpS D W w') := fun W acc D h1 h2 => HTT.out.told W acc D i h1 hiR2 h2
    have HYV := Lib.hid hyv
    clear hrc hyv
    generalize ptAt R i = p at *
    obtain ⟨px, py, pi⟩ := p
    simp only at r0 r1 r2
    simp only [eHo_some]
    have e1 : ((i : Int) == -1) = false := by first | (simp; done) | (simp; omega)
    have e2 : decide ((i : Int) = -1) = false := by first | (simp; done) | (simp; omega)
    by_cases hp : y < py ∨ th ≤ fr ∨ ub ≤ tl
    · have hr : r = ([], 1, true) := by
        obtain ⟨q1, q2, -, -, e5, e6⟩ := HE.out
        rw [e6]
        refine downG_out e5.symm ?_
        have := HYV.out
        simp only at this
        rw [this, ← q1, ← q2]
        exact hp
      have F1 : Hid (∀ n, DnH S W D ab fr ub y F cb c acc r (.returned (.bool true)) (w2.drewN n)) := fun n => FIN.out _ n (Below.drewAny _ _) hr
      clear hr
      by_cases h1 : y < py
      · have d1 : decide (py > y) = true := by simp; omega
        have d2 : decide (y < py) = true := by simp; omega
        clear hp
        go_quiet (fail)
        go_wp2
        go_ret
        exact F1.out _
      · have d1 : decide (py > y) = false := by simp; omega
        have d2 : decide (y < py) = false := by simp; omega
        by_cases h2 : th ≤ fr
        · have f1 : decide ((th : Int) ≤ (fr : Int)) = true := by simp; omega
          have f2 : decide (th ≤ fr) = true := by simp; omega
          clear hp
          go_quiet (fail)
          go_wp2
          go_ret
          exact F1.out _
        · have f1 : decide ((th : Int) ≤ (fr : Int)) = false := by simp; omega
          have f2 : decide (th ≤ fr) = false := by simp; omega
          have f3 : decide ((tl : Int) ≥ (ub : Int)) = true := by simp; omega
          have f4 : decide ((ub : Int) ≤ (tl : Int)) = true := by simp; omega
          have f5 : decide (ub ≤ tl) = true := by simp; omega
          clear hp
          go_quiet (fail)
          go_wp2
          go_ret
          exact F1.out _
    · have d1 : decide (py > y) = false := by simp; omega
      have d2 : decide (y < py) = false := by simp; omega
      have f1 : decide ((th : Int) ≤ (fr : Int)) = false := by simp; omega
      have f2 : decide (th ≤ fr) = false := by simp; omega
      have f3 : decide ((tl : Int) ≥ (ub : Int)) = false := by simp; omega
      have f4 : decide ((ub : Int) ≤ (tl : Int)) = false := by simp; omega
      have f5 : decide (ub ≤ tl) = false := by simp; omega
      have HNP := Lib.hid hp
      clear hp FIN
      go_quiet (fail)
      obtain ⟨w3, ew3⟩ : ∃ w3, w3 = w2.drewN nq := ⟨_, rfl⟩
      have HB3 : Hid (Below w2.heap.size w2 w3) := by rw [ew3]; exact Below.drewAny _ _
      have b0 : w3.cell? ⟨tb, 0, none⟩ = some (.slice (some ⟨rb, ro, none⟩) nR rc) := by rw [ew3]; exact b0
      have t0 : w3.cell? ⟨ab, 0, none⟩ = some (.int .i64 fr) := by rw [ew3]; exact t0
      have t1 : w3.cell? ⟨ab, 1, none⟩ = some (.int .i64 ub) := by rw [ew3]; exact t1
      have t3 : w3.cell? ⟨ab, 3, none⟩ = some (.func (.func F) #[] cb) := by rw [ew3]; exact t3
      have x0 : w3.cell? ⟨w1.heap.size, 0, none⟩ = some (.int .u8 d.kind) := by rw [ew3]; exact x0
      have x1 : w3.cell? ⟨w1.heap.size, 1, none⟩ = some (.int .i64 d.l) := by rw [ew3]; exact x1
      have x2 : w3.cell? ⟨w1.heap.size, 2, none⟩ = some (.int .i64 d.r) := by rw [ew3]; exact x2
      have r0 : w3.cell? ⟨rb, ro + i * 3, none⟩ = some (.int .i64 px) := by rw [ew3]; exact r0
      have r1 : w3.cell? ⟨rb, ro + i * 3 + 1, none⟩ = some (.int .i64 py) := by rw [ew3]; exact r1
      have r2 : w3.cell? ⟨rb, ro + i * 3 + 2, none⟩ = some (.int .u32 pi) := by rw [ew3]; exact r2
      have HS3 : Hid (S w3 acc D) := HTT.out.stable w2 w3 acc D (fun _ => False) HS2.out ((KpS.refl _ w2).below HB3.out) (fun k h => h.elim)
      have HKW3 : Hid (KpS (fun k => D k ∨ k = ab) W w3) := HKW.out.below HB3.out
      have HB3A : Hid (w3.heap[ab]? = some (askB fr ub y F cb (c + 1))) := (HB3.out.block ab (Nat.lt_trans hwabl hxl)).trans HB2A.out
      have hx3 : w1.heap.size < w3.heap.size := by rw [ew3]; exact hxl
      go_upto_region 5 with fail
      rw [← ew3]
      clear ew3
      obtain ⟨T, eT⟩ : ∃ T : List Nat, T = (if fr ≤ i ∧ i < ub then [i] else []) := ⟨_, rfl⟩
      have HET := Lib.hid eT
      clear eT
      obtain ⟨nw, hnw⟩ : ∃ nw, nw = w1.heap.size := ⟨_, rfl⟩
      have HNW := Lib.hid hnw
      rw [← hnw] at x0 x1 x2 hx3 hxl HX2 ⊢
      clear hnw
      go_cut [93] from 65 (fun v93 wx => ∃ (bb : Bool) (DX : Nat → Prop), v93 = .bool bb ∧ Hid (bb = (decide (fr ≤ i ∧ i < ub) && !more)) ∧ Hid (S wx (acc ++ T) DX) ∧ Hid (∀ k, DX k → D k ∨ W.heap.size ≤ k) ∧ Hid (KpS (fun k => D k ∨ k = ab) W wx) ∧ Hid (wx.heap[ab]? = some (askB fr ub y F cb (c + 1))) ∧ Hid (¬ DX ab) ∧
        wx.cell? ⟨nw, 0, none⟩ = some (.int .u8 d.kind) ∧ wx.cell? ⟨nw, 1, none⟩ = some (.int .i64 d.l) ∧ wx.cell? ⟨nw, 2, none⟩ = some (.int .i64 d.r) ∧ Hid (¬ DX nw ∧ nw < wx.heap.size))
      case first =>
        by_cases hin : fr ≤ i ∧ i < ub
        · have g1 : decide ((i : Int) ≥ (fr : Int)) = true := by simp; omega
          have g2 : decide ((fr : Int) ≤ (i : Int)) = true := by simp; omega
          have g3 : decide (fr ≤ i) = true := by simp; omega
          have g4 : decide ((i : Int) < (ub : Int)) = true := by simp; omega
          have g5 : decide (i < ub) = true := by simp; omega
          have k0 := cell_belowW b0
          have k1 := cell_belowW t0
          have k2 := cell_belowW t1
          have k3 := cell_belowW t3
          have k4 := cell_belowW r0
          have k5 := cell_belowW r1
          have k6 := cell_belowW r2
          refine wp_region_head (fun W => ∃ p : BelowW w3, W = p.W) [26, 27, 28] [(0, false), (1, false), (2, false), (3, false), (4, true), (5, false), (6, false), (7, false), (8, false), (9, false), (10, false), (11, true), (12, false), (13, false), (14, false), (15, false), (16, false), (17, false), (18, true), (19, false), (20, false), (21, false), (22, true), (23, false), (24, false), (25, true)] (by kernel_rfl) (by kernel_rfl) (fun _ _ d _ _ h => by cases d <;> exact h) ⟨⟨_, (Below.refl _ _).drew⟩, rfl⟩ 3 rfl (by kernel_rfl) ?_
          simp only [pickB, List.filterMap_cons, List.filterMap_nil, List.getElem?_toArray, List.getElem?_cons_succ, List.getElem?_cons_zero, Option.map_some]
          repeat (refine wpHd_step (fun K hK => ?_); go_simp; first | (refine hK _ ?_; clear hK K) | (apply Exists.intro; refine ⟨fun _ => ?_, hK _ ?_⟩; rfl; clear hK K))
          refine wpHd_nil ?_
          refine wpAnyT_ready [26] (by kernel_rfl) (by simp) ?_
          refine AllReadyT.cons rfl (fun K hK => ?_) AllReadyT.nil
          have HSd : S w3.drew acc D := HTT.out.stable w3 w3.drew acc D (fun _ => False) HS3.out (KpS.refl _ w3).drew (fun k h => h.elim)
          have HPR : acc ++ [i] <+: FL := by
            obtain ⟨q1, q2, -, -, e5, e6⟩ := HE.out
            have h1 := downG_in (more := more) (yv := yvR R) (y := y) (fr := fr) (ub := ub) e5.symm (by rw [HYV.out, ← q1, ← q2]; exact HNP.out) hin
            rw [← e6] at h1
            exact ((List.prefix_append_right_inj acc).2 h1).trans HFL.out
          refine step_callW HTT.out.enters (by first | rfl | (go_simp; done)) (.tmp 83) _ _ rfl cb rfl (vals := #[vPt px py pi] ++ cb) rfl (HTOLD.out w3.drew acc D HSd HPR) ?_
          rintro e w4 ⟨rfl, D4, hS4, hD4, hK4⟩
          refine ⟨_, rfl, hK _ _ (fun _ h => absurd (by simp) h) ?_⟩
          clear hK K
          refine wpAnyT_line [27, 28] _ _ _ (by kernel_rfl) ?_
          simp only [pick, List.filterMap_cons, List.filterMap_nil, List.getElem?_toArray, List.getElem?_cons_succ, List.getElem?_cons_zero]
          have hDab : ¬ D ab := HDD.out
          have hDnw : ¬ D nw := fun h9 => by have := HDLT.out nw h9; have := HSZ.out; have := HNW.out; omega
          have hsw3 : ab < w3.heap.size := Nat.lt_trans (by have := HNW.out; omega) hx3
          have hk4 : KpS D w3 w4 := (KpS.refl D w3).drew.trans hK4
          have y0 := ((cellK hk4 hx3 hDnw).1 0).trans x0
          have y1 := ((cellK hk4 hx3 hDnw).1 1).trans x1
          have y2 := ((cellK hk4 hx3 hDnw).1 2).trans x2
          have hsz34 := hk4.size
          have HQ1 : Hid (S w4 (acc ++ T) D4) := by rw [HET.out, if_pos hin]; exact hS4
          have HQ2 : Hid (∀ k, D4 k → D k ∨ W.heap.size ≤ k) := fun k h9 => (hD4 k h9).imp id fun h8 => by
            have h7 : w3.heap.size ≤ k := h8
            have := HKW3.out.size
            omega
          have HQ3 : Hid (KpS (fun k => D k ∨ k = ab) W w4) := HKW3.out.trans (hk4.mono fun k h => .inl h)
          have HQ4 : Hid (w4.heap[ab]? = some (askB fr ub y F cb (c + 1))) := blkK hk4 HB3A.out hDab
          have HQ5 : Hid (¬ D4 ab ∧ ¬ D4 nw ∧ nw < w4.heap.size) := ⟨fun h9 => by
            rcases hD4 ab h9 with h8 | h8
            · exact hDab h8
            · have h7 : w3.heap.size ≤ ab := h8
              omega, fun h9 => by
            rcases hD4 nw h9 with h8 | h8
            · exact hDnw h8
            · have h7 : w3.heap.size ≤ nw := h8
              omega, by omega⟩
          have HQ6 : Hid ((!more) = (decide (fr ≤ i ∧ i < ub) && !more)) := by show _ = _; simp [hin]
          clear hK4 hS4 hD4 hk4 HSd HPR
          go_wp2
          go_meet
          exact ⟨_, D4, rfl, HQ6, HQ1, HQ2, HQ3, HQ4, HQ5.out.1, y0, y1, y2, HQ5.out.2⟩
        · have g12 : (decide ((i : Int) ≥ (fr : Int)) = true ∧ decide ((i : Int) < (ub : Int)) = false) ∨ decide ((i : Int) ≥ (fr : Int)) = false := by simp; omega
          have hDnw : ¬ D nw := fun h9 => by have := HDLT.out nw h9; have := HSZ.out; have := HNW.out; omega
          have HQ1 : Hid (∀ n, S (w3.drewN n) (acc ++ T) D) := fun n => by
            rw [HET.out, if_neg hin, List.append_nil]
            exact HTT.out.stable w3 _ acc D (fun _ => False) HS3.out ((KpS.refl _ w3).below (Below.drewAny _ _)) (fun k h => h.elim)
          have HQ3 : Hid (∀ n, KpS (fun k => D k ∨ k = ab) W (w3.drewN n)) := fun n => HKW3.out.below (Below.drewAny _ _)
          have HQ4 : Hid (∀ n, (w3.drewN n).heap[ab]? = some (askB fr ub y F cb (c + 1))) := fun n => HB3A.out
          have HQ5 : Hid (¬ D nw ∧ nw < w3.heap.size) := ⟨hDnw, hx3⟩
          have HQ6 : Hid (false = (decide (fr ≤ i ∧ i < ub) && !more)) := by show _ = _; simp [hin]
          have HQ7 : Hid (∀ n o, (w3.drewN n).cell? ⟨nw, o, none⟩ = w3.cell? ⟨nw, o, none⟩) := fun n o => rfl
          clear hin
          rcases g12 with ⟨g1, g2⟩ | g1
          · have g3 : decide ((fr : Int) ≤ (i : Int)) = true := by simpa using g1
            have g4 : decide (fr ≤ i) = true := by simpa using g1
            have g5 : decide (i < ub) = false := by simpa using g2
            go_quiet (fail)
            go_wp2
            go_meet
            exact ⟨_, D, rfl, HQ6, HQ1.out _, fun k h => .inl h, HQ3.out _, HQ4.out _, HDD.out, (HQ7.out _ _).trans x0, (HQ7.out _ _).trans x1, (HQ7.out _ _).trans x2, HQ5.out⟩
          · have g3 : decide ((fr : Int) ≤ (i : Int)) = false := by simpa using g1
            have g4 : decide (fr ≤ i) = false := by simpa using g1
            go_quiet (fail)
            go_wp2
            go_meet
            exact ⟨_, D, rfl, HQ6, HQ1.out _, fun k h => .inl h, HQ3.out _, HQ4.out _, HDD.out, (HQ7.out _ _).trans x0, (HQ7.out _ _).trans x1, (HQ7.out _ _).trans x2, HQ5.out⟩
      case rest =>
        obtain ⟨bb, DX, rfl, HBB, HSX, HDX, HKX, HBX, HNX, x0, x1, x2, HNN2⟩ := hcut
        have hnp := HNP.out
        obtain ⟨q1, q2, q3, q4, e5, e6⟩ := HE.out
        have hpp : ¬ (y < yvR R i ∨ t.hi ≤ fr ∨ ub ≤ t.lo) := by rw [HYV.out, ← q1, ← q2]; exact hnp
        have HPP := Lib.hid hpp
        have hnwx := HNN2.out.2
        have hnwab : nw ≠ ab := by have := HNW.out; omega
        clear hnp q1 q2 q3 hpp HNP HKW3 HB3A HS3 HB3 HB2 HX2 HS2 HR2 HKW HB2A HTOLD HB1 HK1 HS1 HRW e1 e2 d1 d2 f1 f2 f3 f4 f5 b0 t0 t1 t3 r0 r1 r2 hx3 hxl
        cases bb with
        | true =>
          have hb := HBB.out
          simp only [Bool.true_eq, Bool.and_eq_true, decide_eq_true_eq, Bool.not_eq_true'] at hb
          have hr2 : r = ([i], 1, false) := by rw [e6, hb.2]; exact downG_stop e5.symm HPP.out hb.1
          have HFIN : Hid (DnH S W D ab fr ub y F cb c acc r (.returned (.bool false)) wc) := by
            rw [hr2]
            have h1 := HSX.out
            rw [HET.out, if_pos hb.1] at h1
            exact ⟨rfl, DX, h1, HDX.out, HKX.out, HBX.out⟩
          clear hr2 hb q4 e5 e6
          go_wp2
          go_ret
          exact HFIN.out
        | false =>
          have HBF := Lib.hid HBB.out.symm
          cases t with
          | leaf a =>
            have hk : d.kind = 1 := by rw [q4]; rfl
            have hr2 : r = (T, 1, true) := by
              have e5' : h s = some i := e5.symm
              rw [e6, downG_leaf e5' HPP.out, HBF.out, HET.out]; rfl
            have HFIN : Hid (DnH S W D ab fr ub y F cb c acc r (.returned (.bool true)) wc) := by
              rw [hr2]
              exact ⟨rfl, DX, HSX.out, HDX.out, HKX.out, HBX.out⟩
            rw [hk] at x0
            clear hr2 hk q4 e5 e6 x1 x2
            go_wp2
            go_ret
            exact HFIN.out
          | node l rr =>
            have hk : d.kind = 2 := by rw [q4]; rfl
            have hdl : d.l = ((l.root s : Nat) : Int) := by rw [q4]; show ((s + l.size : Nat) : Int) - 1 = _; unfold FT.root; have := l.size_pos; omega
            have hdr : d.r = ((rr.root (s + l.size) : Nat) : Int) := by rw [q4]; show ((s + l.size + rr.size : Nat) : Int) - 1 = _; unfold FT.root; have := rr.size_pos; omega
            have hr2 := downG_node (more := more) (yv := yvR R) (y := y) (fr := fr) (ub := ub) e5.symm HPP.out HBF.out
            rw [← e6, ← HET.out] at hr2
            have hs1 := downG_size (h := h) (yv := yvR R) (y := y) (fr := fr) (ub := ub) more l s
            have hs2 := downG_size (h := h) (yv := yvR R) (y := y) (fr := fr) (ub := ub) more rr (s + l.size)
            have hcc := HC.out
            have hsz : (FT.node l rr).size = l.size + rr.size + 1 := rfl
            obtain ⟨REC1, REC2⟩ := HREC.out l rr rfl
            rw [hk] at x0
            rw [hdl] at x1
            rw [hdr] at x2
            have hpre := HFL.out
            rw [hr2] at hpre
            generalize downG more h (yvR R) y fr ub l s = dl at *
            generalize downG more h (yvR R) y fr ub rr (s + l.size) = dr at *
            obtain ⟨L1, c1, b1⟩ := dl
            obtain ⟨L2, c2, b2⟩ := dr
            simp only at hr2 hs1 hs2 hpre REC1 REC2
            have hp1 : (acc ++ T) ++ L1 <+: FL := by
              refine List.IsPrefix.trans ?_ hpre
              exact ⟨if b1 then L2 else [], by simp only [List.append_assoc]⟩
            have C1 := Lib.hid (REC1 wc (acc ++ T) DX (c + 1) HSX.out HNX.out HBX.out (by omega) hp1)
            have HREC2 := Lib.hid REC2
            have HR2 := Lib.hid hr2
            have HPRE := Lib.hid hpre
            have hcb : c + 1 + l.size ≤ 1000000 ∧ c + 1 + c1 + rr.size ≤ 1000000 := by omega
            clear REC1 REC2 hr2 hpre hp1 hk hdl hdr q4 e5 e6 hs1 hs2 hcc hsz HREC HE HOK HWF HAA HPP HRL
            generalize l.root s = kl at *
            generalize rr.root (s + l.size) = kr at *
            go_wp2_with fail
            refine C1.out.mono ?_
            rintro e w5 ⟨rfl, D5, hS5, hD5, hK5, hB5⟩
            have hD5ab : ¬ D5 ab := fun h9 => by
              rcases hD5 ab h9 with h8 | h8
              · exact HNX.out h8
              · have := (Array.getElem?_eq_some_iff.1 HBX.out).1; omega
            have hnd : ¬ (DX nw ∨ nw = ab) := fun h9 => h9.elim HNN2.out.1 hnwab
            have x2 := ((cellK hK5 hnwx hnd).1 2).trans x2
            have HS5 := Lib.hid hS5
            have HD5 : Hid (∀ k, D5 k → D k ∨ W.heap.size ≤ k) := fun k h9 => by
              rcases hD5 k h9 with h8 | h8
              · exact HDX.out k h8
              · have := HKX.out.size; exact .inr (by omega)
            have HK5 : Hid (KpS (fun k => D k ∨ k = ab) W w5) := ((HKX.out.mono (S' := fun k => (D k ∨ k = ab) ∨ W.heap.size ≤ k) (fun k h => .inl h)).trans (hK5.mono fun k h9 => by
              rcases h9 with h8 | h8
              · exact (HDX.out k h8).imp .inl id
              · exact .inl (.inr h8))).strip
            have HB5 := Lib.hid hB5
            have HD5ab := Lib.hid hD5ab
            clear hS5 hD5 hK5 hB5 hD5ab hnd x0 x1
            cases b1 with
            | false =>
              have HFIN : Hid (DnH S W D ab fr ub y F cb c acc r (.returned (.bool false)) w5) := by
                rw [HR2.out]
                simp only [Bool.false_eq_true, if_false, List.append_nil, Bool.false_and, Nat.add_zero]
                refine ⟨rfl, D5, ?_, HD5.out, HK5.out, ?_⟩
                · have := HS5.out; rwa [List.append_assoc] at this
                · have := HB5.out
                  rw [show c + (1 + c1) = c + 1 + c1 by omega]
                  exact this
              go_wp2
              go_ret
              exact HFIN.out
            | true =>
              have C2 := Lib.hid (HREC2.out w5 (acc ++ T ++ L1) D5 (c + 1 + c1) HS5.out HD5ab.out HB5.out hcb.2 (by
                have := HPRE.out
                simp only [if_true] at this
                simpa only [List.append_assoc] using this))
              go_wp2_with fail
              refine C2.out.mono ?_
              rintro e w6 ⟨rfl, D6, hS6, hD6, hK6, hB6⟩
              have HFIN : Hid (DnH S W D ab fr ub y F cb c acc r (.returned (.bool b2)) w6) := by
                rw [HR2.out]
                simp only [if_true, Bool.true_and]
                refine ⟨rfl, D6, ?_, fun k h9 => ?_, ?_, ?_⟩
                · simpa only [List.append_assoc] using hS6
                · rcases hD6 k h9 with h8 | h8
                  · exact HD5.out k h8
                  · have := HK5.out.size; exact .inr (by omega)
                · exact ((HK5.out.mono (S' := fun k => (D k ∨ k = ab) ∨ W.heap.size ≤ k) (fun k h => .inl h)).trans (hK6.mono fun k h9 => by
                    rcases h9 with h8 | h8
                    · exact (HD5.out k h8).imp .inl id
                    · exact .inl (.inr h8))).strip
                · rw [show c + (1 + c1 + c2) = c + 1 + c1 + c2 by omega]
                  exact hB6
              clear hS6 hD6 hK6 hB6
              go_wp2
              go_ret
              exact HFIN.out

theorem heap_down (F : Nat) (cb : Array Value) (more : Bool) (R : List Pt) (h : Hld) (cnt : Int) (V : HepV) (lo hi tb fb ab : Nat) (w0 : World) (S : World → List Nat → (Nat → Prop) → Prop) (y : Int) (fr ub : Nat) (FL : List Nat)
    (hT : TldH F cb more R w0 FL S) (hA : HptAt w0 lo hi tb fb R h cnt V) (hR : R.length ≤ 20000) (hab : w0.heap.size ≤ ab) :
    ∀ (t : FT) (s : Nat) (W : World) (acc : List Nat) (D : Nat → Prop) (c : Nat), FT.At (nds R.length) t s → t.wf → t.hi ≤ R.length → HpOK (ltI R) h t s → S W acc D → ¬ D ab → W.heap[ab]? = some (askB fr ub y F cb c) → c + t.size ≤ 1000000 →
    acc ++ (downG more h (yvR R) y fr ub t s).1 <+: FL →
    Calls Tryz.prog 90 #[.pointer (some ⟨tb, 0, none⟩), .int .i64 (t.root s : Nat), .pointer (some ⟨ab, 0, none⟩)] W (DnH S W D ab fr ub y F cb c acc (downG more h (yvR R) y fr ub t s)) := by
  intro t
  induction t with
  | leaf a => exact fun s W acc D c ha hw hh ok hS hD hb hc hF => heap_down1 F cb more R h cnt V lo hi tb fb ab w0 S y fr ub FL hT hA hR hab _ s W acc D c ha hw hh ok hS hD hb hc hF (fun l r e => by cases e)
  | node l r il ir =>
    intro s W acc D c ha hw hh ok hS hD hb hc hF
    refine heap_down1 F cb more R h cnt V lo hi tb fb ab w0 S y fr ub FL hT hA hR hab _ s W acc D c ha hw hh ok hS hD hb hc hF fun l' r' e => ?_
    cases e
    have h1 := FT.lo_hi r hw.2.1
    have h2 := hw.2.2
    have h3 : (FT.node l r).hi = r.hi := rfl
    exact ⟨fun W acc D c hS hD hb hc hF => il s W acc D c ha.left hw.1 (by omega) ok.2.2.1 hS hD hb hc hF, fun W acc D c hS hD hb hc hF => ir _ W acc D c ha.right hw.2.1 (by omega) ok.2.2.2 hS hD hb hc hF⟩
end Go.Proofs.YtggfdlanobndjaaGreat
