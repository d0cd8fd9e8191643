/- heap.lesser: which kid's point is the lesser one. -/
import Derived.Test.YtggfdlanobndjaaGreatHpA
import Derived.Test.YtggfdlanobndjaaGreatCan
import Derived.Test.YtggfdlanobndjaaGreatQ5
import Derived.Deep.CutBlock
import Derived.Deep.CutRange
namespace Go.Proofs.YtggfdlanobndjaaGreat
open Go.RowKit Go.Sort Go.Shelf Go.Lib Go.Maps
attribute [local irreducible] wpQuiet
attribute [local go_sem] Oper.still1
set_option linter.unusedSimpArgs false
set_option linter.unusedVariables false

theorem iByYB (p q : Pt) (w : World) : Calls Tryz.prog 48 #[vPt p.1 p.2.1 p.2.2, vPt q.1 q.2.1 q.2.2] w fun e w' => e = .returned (.int .i64 (ordY p q)) ∧ Below w.heap.size w w' :=
  (iByY p q w).mono fun e w' ⟨he, hg⟩ => ⟨he, hg.below (Nat.le_refl _)⟩

/-- the kid that holds the lesser point -/
def lesK (lb : Nat → Nat → Bool) (h : Hld) : FT → Nat → Int
  | .leaf _, _ => -1
  | .node l r, s => match h (l.root s), h (r.root (s + l.size)) with
    | none, none => -1
    | some _, none => (l.root s : Nat)
    | none, some _ => (r.root (s + l.size) : Nat)
    | some i, some j => if lb i j then (l.root s : Nat) else (r.root (s + l.size) : Nat)

set_option maxRecDepth 100000 in
set_option maxHeartbeats 4000000 in
theorem heap_lesser {w : World} {lo hi tb fb : Nat} {cnt : Int} {R : List Pt} {h : Hld} {V : HepV} (H : HptAt w lo hi tb fb R h cnt V) (hR : R.length ≤ 20000) {t : FT} {s : Nat} (ha : FT.At (nds R.length) t s) (hlt : ∀ k i, k < (nds R.length).length → h k = some i → i < R.length) :
    Calls Tryz.prog 57 #[.pointer (some ⟨tb, 0, none⟩), .int .i64 (t.root s : Nat)] w fun e w' => e = .returned (.int .i64 (lesK (ltB R) h t s)) ∧ Below w.heap.size w w' := by
  have hkl := ha.lt
  have hM : (nds R.length).length ≤ 40000 := by rw [nds_len]; omega
  have h0 : 0 < R.length := by have := nds_len R.length; omega
  obtain ⟨gn, off, cn, env, rnd⟩ := H.nodes h0
  obtain ⟨gh, ch, ehv, -, -, -, -, hghl, hcs, -⟩ := H.holds h0
  obtain ⟨ra, rc, erv, -, -, rrow⟩ := RdK.of_owns ePt_len (by decide) H.row
  have hb' := H.blk
  rw [env, ehv, erv] at hb'
  have htl := H.tbl
  obtain ⟨hgn, n0, n1, n2, n3, n4, n5, n6⟩ := nd_all rnd ha.get
  have c0 : w.cell? ⟨tb, 0, none⟩ = some (.slice ra R.length rc) := by simp [World.cell?, hb']
  have c3 : w.cell? ⟨tb, 3, none⟩ = some (.slice (some ⟨gn, off, none⟩) (nds R.length).length cn) := by simp [World.cell?, hb']
  have c4 : w.cell? ⟨tb, 4, none⟩ = some (.slice (some ⟨gh, 0, none⟩) (nds R.length).length ch) := by simp [World.cell?, hb']
  have HCS := Lib.hid hcs
  have HRW := Lib.hid rrow
  have HLT := Lib.hid hlt
  obtain ⟨M, hMM⟩ : ∃ M, M = (nds R.length).length := ⟨_, rfl⟩
  obtain ⟨nR, hnR⟩ : ∃ nR, nR = R.length := ⟨_, rfl⟩
  obtain ⟨K, hK⟩ : ∃ K, K = t.root s := ⟨_, rfl⟩
  rw [← hMM] at c3 c4 hM hkl
  rw [← hnR] at c0 hR h0
  rw [← hK] at n0 n1 n2 n3 n4 n5 n6 hkl ⊢
  have HNN : Hid (M = (nds R.length).length ∧ nR = R.length) := ⟨hMM, hnR⟩
  obtain ⟨w1, ew1⟩ : ∃ w1, w1 = w.alloc (.cells #[.int .u8 (t.top s).kind, .int .i64 (t.top s).l, .int .i64 (t.top s).r, .int .i64 (t.top s).fr, .int .i64 (t.top s).til, .int .i64 0, .int .i64 (t.top s).item] 119) := ⟨_, rfl⟩
  have hb1 : Below w.heap.size w w1 := by rw [ew1]; exact (Below.refl _ _).alloc (Nat.le_refl _) _
  have hx1 : w1.heap[w.heap.size]? = some (.cells #[.int .u8 (t.top s).kind, .int .i64 (t.top s).l, .int .i64 (t.top s).r, .int .i64 (t.top s).fr, .int .i64 (t.top s).til, .int .i64 0, .int .i64 (t.top s).item] 119 (0, 0)) := by rw [ew1]; exact lit0 w _
  have x0 : w1.cell? ⟨w.heap.size, 0, none⟩ = some (.int .u8 (t.top s).kind) := by simp [World.cell?, hx1]
  have x1 : w1.cell? ⟨w.heap.size, 1, none⟩ = some (.int .i64 (t.top s).l) := by simp [World.cell?, hx1]
  have x2 : w1.cell? ⟨w.heap.size, 2, none⟩ = some (.int .i64 (t.top s).r) := by simp [World.cell?, hx1]
  have HB1 := Lib.hid hb1
  have q0 := (hb1.cell (p := ⟨tb, 0, none⟩) htl).trans c0
  have q4 := (hb1.cell (p := ⟨tb, 4, none⟩) htl).trans c4
  have hxl : w.heap.size < w1.heap.size := (Array.getElem?_eq_some_iff.1 hx1).1
  have htl1 : tb < w1.heap.size := Nat.lt_trans htl hxl
  have hgl1 : gh < w1.heap.size := Nat.lt_trans hghl hxl
  clear hcs rrow hlt hMM hnR hb' env ehv erv rnd hb1 hx1 hK
  cases t with
  | leaf a =>
    have d1 : (((FT.leaf a).top s).kind != (2 : Int)) = true := rfl
    clear x1 x2 q0 q4 c0 c4
    generalize (FT.leaf a).top s = d at *
    go_enter Tryz.func57, Tryz.ntmps57
    go_upto_region 2 with fail
    rw [← ew1]
    clear ew1
    go_wp2
    go_ret
    exact ⟨rfl, HB1.out⟩
  | node l r =>
    have d1 : (((FT.node l r).top s).kind != (2 : Int)) = false := rfl
    have hll := ha.left.lt
    have hrl := ha.right.lt
    have hdl : ((FT.node l r).top s).l = ((l.root s : Nat) : Int) := by show ((s + l.size : Nat) : Int) - 1 = _; unfold FT.root; have := l.size_pos; omega
    have hdr : ((FT.node l r).top s).r = ((r.root (s + l.size) : Nat) : Int) := by show ((s + l.size + r.size : Nat) : Int) - 1 = _; unfold FT.root; have := r.size_pos; omega
    rw [hdl] at x1
    rw [hdr] at x2
    have e1 := (HB1.out.cell (p := ⟨gh, l.root s, none⟩) hghl).trans (HCS.out _ hll).1
    have e2 := (HB1.out.cell (p := ⟨gh, r.root (s + l.size), none⟩) hghl).trans (HCS.out _ hrl).1
    have HR : Hid (∀ o1 o2, h (l.root s) = o1 → h (r.root (s + l.size)) = o2 → lesK (ltB R) h (.node l r) s = match o1, o2 with | none, none => -1 | some _, none => (l.root s : Nat) | none, some _ => (r.root (s + l.size) : Nat) | some i, some j => if ltB R i j then (l.root s : Nat) else (r.root (s + l.size) : Nat)) := fun o1 o2 h1 h2 => by subst h1 h2; rfl
    have hllD := hll
    have hrlD := hrl
    rw [← HNN.out.1] at hll hrl
    obtain ⟨o1, ho1⟩ : ∃ o1, o1 = h (l.root s) := ⟨_, rfl⟩
    obtain ⟨o2, ho2⟩ : ∃ o2, o2 = h (r.root (s + l.size)) := ⟨_, rfl⟩
    have HR2 := Lib.hid (HR.out o1 o2 ho1.symm ho2.symm)
    have HL1 : Hid (∀ i, o1 = some i → i < R.length) := fun i e => HLT.out _ i hllD (ho1 ▸ e)
    have HL2 : Hid (∀ i, o2 = some i → i < R.length) := fun i e => HLT.out _ i hrlD (ho2 ▸ e)
    rw [← ho1] at e1
    rw [← ho2] at e2
    clear hdl hdr HR ho1 ho2 HLT HCS ha hllD hrlD
    generalize lesK (ltB R) h (.node l r) s = res at *
    generalize (FT.node l r).top s = d at *
    generalize l.root s = kl at *
    generalize r.root (s + l.size) = kr at *
    have z1 := cell_belowW q4
    have z2 := cell_belowW x1
    have z3 := cell_belowW x2
    have z4 := cell_belowW e1
    have z5 := cell_belowW e2
    go_enter Tryz.func57, Tryz.ntmps57
    go_upto_region 2 with fail
    rw [← ew1]
    clear ew1
    go_upto_region 4 with fail
    refine wp_region_head (fun W => ∃ p : BelowW w1, W = p.W) [17] [(0, false), (1, false), (2, false), (3, true), (4, false), (5, true), (6, false), (7, true), (8, false), (9, false), (10, false), (11, true), (12, false), (13, true), (14, false), (15, true), (16, false)] (by kernel_rfl) (by kernel_rfl) (fun _ _ d _ _ h => by cases d <;> exact h) ⟨⟨_, (Below.refl _ _).drew⟩, rfl⟩ 1 rfl (by kernel_rfl) ?_
    simp only [pickB, List.filterMap_cons, List.filterMap_nil, List.getElem?_toArray, List.getElem?_cons_succ, List.getElem?_cons_zero, Option.map_some]
    repeat (refine wpHd_step (fun K hK => ?_); go_simp; first | (refine hK _ ?_; clear hK K) | (apply Exists.intro; refine ⟨fun _ => ?_, hK _ ?_⟩; rfl; clear hK K))
    refine wpHd_nil ?_
    refine wpAnyT_line [17] _ _ _ (by kernel_rfl) ?_
    simp only [pick, List.filterMap_cons, List.filterMap_nil, List.getElem?_toArray, List.getElem?_cons_succ, List.getElem?_cons_zero]
    have HBD : Hid (Below w.heap.size w w1.drew) := HB1.out.drew
    have q0 : w1.drew.cell? ⟨tb, 0, none⟩ = some (.slice ra nR rc) := q0
    have x1 : w1.drew.cell? ⟨w.heap.size, 1, none⟩ = some (.int .i64 kl) := x1
    have x2 : w1.drew.cell? ⟨w.heap.size, 2, none⟩ = some (.int .i64 kr) := x2
    have hxl : w.heap.size < w1.drew.heap.size := hxl
    have htl1 : tb < w1.drew.heap.size := htl1
    clear z1 z2 z3 z4 z5 q4 e1 e2 HB1
    generalize w1.drew = w2 at *
    cases o1 with
    | none =>
      cases o2 with
      | none =>
        simp only [eHo]
        have hr := HR2.out
        simp only at hr
        subst hr
        go_wp2
        go_ret
        exact ⟨rfl, HBD.out⟩
      | some j =>
        simp only [eHo]
        have hr := HR2.out
        simp only at hr
        subst hr
        have e1 : ((j : Int) == -1) = false := by first | (simp; done) | (simp; omega)
        have e2 : decide ((j : Int) = -1) = false := by first | (simp; done) | (simp; omega)
        have HBN : Hid (∀ n, Below w.heap.size w (w2.drewN n)) := fun n => HBD.out.trans ((Below.drewAny _ n).mono HBD.out.size)
        go_upto_region 7 with fail
        go_quiet (fail)
        go_wp2
        go_ret
        exact ⟨rfl, HBN.out _⟩
    | some i =>
      have e1 : ((i : Int) == -1) = false := by first | (simp; done) | (simp; omega)
      have e2 : decide ((i : Int) = -1) = false := by first | (simp; done) | (simp; omega)
      have e3 : ((i : Int) != -1) = true := by first | (simp; done) | (simp; omega)
      cases o2 with
      | none =>
        simp only [eHo]
        have hr := HR2.out
        simp only at hr
        subst hr
        have HBN : Hid (∀ n, Below w.heap.size w (w2.drewN n)) := fun n => HBD.out.trans ((Below.drewAny _ n).mono HBD.out.size)
        go_upto_region 7 with fail
        go_quiet (fail)
        go_wp2
        go_ret
        exact ⟨rfl, HBN.out _⟩
      | some j =>
        have f1 : ((j : Int) == -1) = false := by first | (simp; done) | (simp; omega)
        have f2 : decide ((j : Int) = -1) = false := by first | (simp; done) | (simp; omega)
        simp only [eHo]
        have hi := HL1.out i rfl
        have hj := HL2.out j rfl
        obtain ⟨rb, ro, era, hrb, hrc⟩ := (HRW.out.below HBD.out).get (by omega)
        have r0 := hrc i hi 0 (by omega)
        have r1 := hrc i hi 1 (by omega)
        have r2 := hrc i hi 2 (by omega)
        have v0 := hrc j hj 0 (by omega)
        have v1 := hrc j hj 1 (by omega)
        have v2 := hrc j hj 2 (by omega)
        simp only [ePt, List.getElem?_cons_zero, List.getElem?_cons_succ, Nat.add_zero] at r0 r1 r2 v0 v1 v2
        rw [← ptAt_eq hi] at r0 r1 r2
        rw [← ptAt_eq hj] at v0 v1 v2
        subst era
        have HLB : Hid (ltB R i j = decide (ordY (ptAt R i) (ptAt R j) < 0)) := by
          show _ = _
          unfold ltB
          rw [decide_eq_decide, ordY_lt]
        have hi3 : i < nR := by rw [HNN.out.2]; exact hi
        have hj3 : j < nR := by rw [HNN.out.2]; exact hj
        have hr := HR2.out
        simp only at hr
        rw [HLB.out] at hr
        clear hrc hi hj HLB HL1 HL2
        generalize ptAt R i = p at *
        generalize ptAt R j = q at *
        have HC := Lib.hid (fun W => iByYB p q W)
        generalize ordY p q = od at *
        obtain ⟨px, py, pi⟩ := p
        obtain ⟨qx, qy, qi⟩ := q
        simp only at r0 r1 r2 v0 v1 v2
        have HC2 : Hid (∀ b : BelowW w2, Calls Tryz.prog 48 #[vPt px py pi, vPt qx qy qi] b.W fun e w' => e = .returned (.int .i64 od) ∧ Below b.W.heap.size b.W w') := fun b => HC.out b.W
        have k0 := cell_belowW q0
        have k1 := cell_belowW r0
        have k2 := cell_belowW r1
        have k3 := cell_belowW r2
        have k4 := cell_belowW v0
        have k5 := cell_belowW v1
        have k6 := cell_belowW v2
        go_upto_region 7 with fail
        refine wp_region_below (by kernel_rfl) (by kernel_rfl) ?_
        repeat (quiet_step ((go_at_call 48; exact calls_below (HC2.out _))))
        refine wpQuiet_nil ?_
        intro w4 hw'
        have hbb : Below w2.heap.size w2 w4 := by obtain ⟨b, rfl⟩ := hw'; exact b.h
        have x1 := (hbb.cell (p := ⟨w.heap.size, 1, none⟩) hxl).trans x1
        have x2 := (hbb.cell (p := ⟨w.heap.size, 2, none⟩) hxl).trans x2
        have HB4 : Hid (Below w.heap.size w w4) := HBD.out.trans (hbb.mono HBD.out.size)
        clear hw' hbb k0 k1 k2 k3 k4 k5 k6
        by_cases hlt : od < 0
        · have d1 : decide (od < 0) = true := by simp [hlt]
          rw [d1, if_pos rfl] at hr
          subst hr
          go_wp2
          go_ret
          exact ⟨rfl, HB4.out⟩
        · have d1 : decide (od < 0) = false := by simp [hlt]
          rw [d1, if_neg (by decide)] at hr
          subst hr
          go_wp2
          go_ret
          exact ⟨rfl, HB4.out⟩
end Go.Proofs.YtggfdlanobndjaaGreat
