/- low: the queue's own methods. -/
import Derived.Test.YtggfdlanobndjaaGreatLwD
import Derived.Test.YtggfdlanobndjaaGreatLwE
namespace Go.Proofs.YtggfdlanobndjaaGreat
open Go.RowKit Go.Sort Go.Shelf Go.Lib Go.Maps
attribute [local irreducible] wpQuiet
attribute [local go_sem] Oper.still1
set_option linter.unusedSimpArgs false
set_option linter.unusedVariables false

/-- a queue of nodes as it lies -/
structure QuAt (w : World) (tb qb base : Nat) (q : List Nat) (qv : Value) : Prop where
  blk : w.heap[qb]? = some (.cells #[.pointer (some ⟨tb, 0, none⟩), qv] 130 (0, 0))
  row : w.ownsRow base 3 1 qv q.length (q.map eNat)
  lt : qb < base
theorem QuAt.below {w w' : World} {tb qb base : Nat} {q : List Nat} {qv : Value} (H : QuAt w tb qb base q qv) (hb : Below w.heap.size w w') : QuAt w' tb qb base q qv :=
  ⟨(hb.block qb (Array.getElem?_eq_some_iff.1 H.blk).1).trans H.blk, ownsRow_below H.row hb, H.lt⟩

set_option maxRecDepth 100000 in
theorem que_len {w : World} {tb qb base : Nat} {q : List Nat} {qv : Value} (H : QuAt w tb qb base q qv) (hq : q.length ≤ 1000000) :
    Calls Tryz.prog 200 #[.pointer (some ⟨qb, 0, none⟩)] w fun e w' => e = .returned (.int .i64 q.length) ∧ w' = w := by
  obtain ⟨qa, qc, rfl⟩ := rowV H.row
  have hb := H.blk
  have c1 : w.cell? ⟨qb, 1, none⟩ = some (.slice qa q.length qc) := by simp [World.cell?, hb]
  clear hb H
  go_enter Tryz.func200, Tryz.ntmps200
  go_wp2
  go_ret
  exact ⟨rfl, rfl⟩

set_option maxRecDepth 100000 in
set_option maxHeartbeats 4000000 in
theorem que_less {w : World} {lo hi tb fb qb base : Nat} {cnt : Int} {R : List Pt} {gone : List Bool} {YS : List Nat} {V : HepV} {q : List Nat} {qv : Value} (hA : LptAt w lo hi tb fb R (bst (nds R.length) YS) cnt V) (hW : CscWF R gone YS) (hR : R.length ≤ 20000) (H : QuAt w tb qb base q qv) (hq : q.length ≤ 1000000)
    (hn : ∀ k ∈ q, k < (nds R.length).length) (hs : ∀ k ∈ q, bst (nds R.length) YS k ≠ none) (i k : Nat) (hi : i < q.length) (hk : k < q.length) :
    Calls Tryz.prog 201 #[.pointer (some ⟨qb, 0, none⟩), .int .i64 i, .int .i64 k] w fun e w' => e = .returned (.bool (lbQ R (nds R.length) YS q[i] q[k])) ∧ Below w.heap.size w w' := by
  obtain ⟨qa, qc, rfl, -, -, hqr⟩ := Rd.of_owns (enc := eNat) H.row
  obtain ⟨bq, oq, eq, hbq, hcq⟩ := hqr.get (by omega)
  have xi := hcq i hi
  have xk := hcq k hk
  simp only [eNat] at xi xk
  subst eq
  have hb := H.blk
  have c0 : w.cell? ⟨qb, 0, none⟩ = some (.pointer (some ⟨tb, 0, none⟩)) := by simp [World.cell?, hb]
  have c1 : w.cell? ⟨qb, 1, none⟩ = some (.slice (some ⟨bq, oq, none⟩) q.length qc) := by simp [World.cell?, hb]
  have hni := hn _ (List.getElem_mem hi)
  have hnk := hn _ (List.getElem_mem hk)
  obtain ⟨gh, ch, ehv, -, -, -, -, hghl, hcs, -⟩ := hA.holds (by have := nds_len R.length; omega)
  obtain ⟨ra, rc, erv, -, -, rrow⟩ := RdK.of_owns ePt_len (by decide) hA.row
  have hb' := hA.blk
  rw [ehv, erv] at hb'
  have t0 : w.cell? ⟨tb, 0, none⟩ = some (.slice ra R.length rc) := by simp [World.cell?, hb']
  have t4 : w.cell? ⟨tb, 4, none⟩ = some (.slice (some ⟨gh, 0, none⟩) (nds R.length).length ch) := by simp [World.cell?, hb']
  have yi := (hcs _ hni).1
  have yk := (hcs _ hnk).1
  have hsi := hs _ (List.getElem_mem hi)
  have hsk := hs _ (List.getElem_mem hk)
  obtain ⟨a, ha⟩ := Option.ne_none_iff_exists'.1 hsi
  obtain ⟨b, hb2⟩ := Option.ne_none_iff_exists'.1 hsk
  have hal := bst_lt hW ha
  have hbl := bst_lt hW hb2
  have HLB : Hid (lbQ R (nds R.length) YS q[i] q[k] = decide (ordY (ptAt R a) (ptAt R b) < 0)) := by
    show _ = _
    unfold lbQ
    rw [ha, hb2]
    unfold ltB
    rw [decide_eq_decide, ordY_lt]
    rfl
  rw [ha] at yi
  rw [hb2] at yk
  simp only [eHo] at yi yk
  obtain ⟨rb, ro, era, hrb, hrc⟩ := rrow.get (by omega)
  have r0 := hrc a hal 0 (by omega)
  have r1 := hrc a hal 1 (by omega)
  have r2 := hrc a hal 2 (by omega)
  have v0 := hrc b hbl 0 (by omega)
  have v1 := hrc b hbl 1 (by omega)
  have v2 := hrc b hbl 2 (by omega)
  simp only [ePt, List.getElem?_cons_zero, List.getElem?_cons_succ, Nat.add_zero] at r0 r1 r2 v0 v1 v2
  rw [← ptAt_eq hal] at r0 r1 r2
  rw [← ptAt_eq hbl] at v0 v1 v2
  subst era
  have hM : (nds R.length).length ≤ 40000 := by rw [nds_len]; omega
  rw [HLB.out]
  clear HLB hrc rrow hcs hcq hqr hb hb' ehv erv hsi hsk ha hb2 hs hn hA hW H
  generalize ptAt R a = p at *
  generalize ptAt R b = r at *
  have HC := Lib.hid (fun W => iByYB p r W)
  generalize ordY p r = od at *
  obtain ⟨px, py, pi⟩ := p
  obtain ⟨qx, qy, qi⟩ := r
  simp only at r0 r1 r2 v0 v1 v2
  generalize (nds R.length).length = M at *
  generalize R.length = n at *
  generalize q[i] = ki at *
  generalize q[k] = kk at *
  generalize q.length = ql at *
  have HC2 : Hid (∀ b : BelowW w, Calls Tryz.prog 48 #[vPt px py pi, vPt qx qy qi] b.W fun e w' => e = .returned (.int .i64 od) ∧ Below b.W.heap.size b.W w') := fun b => HC.out b.W
  have k1 := cell_belowW c1
  have k2 := cell_belowW t0
  have k3 := cell_belowW t4
  have k4 := cell_belowW xi
  have k5 := cell_belowW xk
  have k6 := cell_belowW yi
  have k7 := cell_belowW yk
  have k8 := cell_belowW r0
  have k9 := cell_belowW r1
  have k10 := cell_belowW r2
  have k11 := cell_belowW v0
  have k12 := cell_belowW v1
  have k13 := cell_belowW v2
  go_enter Tryz.func201, Tryz.ntmps201
  go_upto_region 2 with fail
  refine wp_region_below (by kernel_rfl) (by kernel_rfl) ?_
  repeat (quiet_step ((go_at_call 48; exact calls_below (HC2.out _))))
  refine wpQuiet_nil ?_
  intro w4 hw'
  have hbb : Below w.heap.size w w4 := by obtain ⟨b, rfl⟩ := hw'; exact b.h
  have HB4 := Lib.hid hbb
  clear hw' hbb k1 k2 k3 k4 k5 k6 k7 k8 k9 k10 k11 k12 k13
  go_wp2
  go_ret
  exact ⟨rfl, HB4.out⟩
end Go.Proofs.YtggfdlanobndjaaGreat
