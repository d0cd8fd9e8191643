/- low: lower. -/
import Derived.Test.YtggfdlanobndjaaGreatLwA
import Derived.Test.YtggfdlanobndjaaGreatLwP
import Derived.Test.YtggfdlanobndjaaGreatHpE
import Derived.Test.YtggfdlanobndjaaGreatCan
import Derived.Test.YtggfdlanobndjaaGreatQ5
import Derived.Deep.CutBlock
import Derived.Deep.CutRange
namespace Go.Proofs.YtggfdlanobndjaaGreat
open Go.RowKit Go.Sort Go.Shelf Go.Lib Go.Maps
attribute [local irreducible] wpQuiet
attribute [local go_sem] Oper.still1
set_option linter.unusedSimpArgs false
set_option linter.unusedVariables false

theorem lowO_lt {R : List Pt} {n : Nat} {o1 o2 : Option Nat} (h1 : ∀ i, o1 = some i → i < n) (h2 : ∀ i, o2 = some i → i < n) : ∀ i, lowO R o1 o2 = some i → i < n := fun i h => by
  match o1, o2 with
  | none, o2 => exact h2 i h
  | some a, none => exact h1 i h
  | some a, some b =>
    simp only [lowO] at h
    by_cases hb : ltB R b a = true
    · rw [if_pos hb] at h; exact h2 i h
    · rw [if_neg hb] at h; exact h1 i h

/-- lower wants the row alone -/
structure LowR (w : World) (tb : Nat) (R : List Pt) : Prop where
  lt : tb < w.heap.size
  row : ∃ ra rc, w.cell? ⟨tb, 0, none⟩ = some (.slice ra R.length rc) ∧ RdK ePt 3 w ra R
theorem LowR.below {w w' : World} {tb : Nat} {R : List Pt} (H : LowR w tb R) (hb : Below w.heap.size w w') : LowR w' tb R := by
  obtain ⟨ra, rc, h1, h2⟩ := H.row
  exact ⟨Nat.lt_of_lt_of_le H.lt hb.size, ra, rc, (hb.cell (p := ⟨tb, 0, none⟩) H.lt).trans h1, h2.below hb⟩
theorem LptAt.lowR {w : World} {lo hi tb fb : Nat} {cnt : Int} {R : List Pt} {h : Hld} {V : HepV} (H : LptAt w lo hi tb fb R h cnt V) : LowR w tb R := by
  obtain ⟨ra, rc, erv, -, -, rrow⟩ := RdK.of_owns ePt_len (by decide) H.row
  have hb' := H.blk
  rw [erv] at hb'
  exact ⟨H.tbl, ra, rc, by simp [World.cell?, hb'], rrow⟩

set_option maxRecDepth 100000 in
set_option maxHeartbeats 4000000 in
theorem low_lower {w : World} {tb : Nat} {R : List Pt} (H : LowR w tb R) (hR : R.length ≤ 20000) (o1 o2 : Option Nat) (h1 : ∀ i, o1 = some i → i < R.length) (h2 : ∀ i, o2 = some i → i < R.length) :
    Calls Tryz.prog 74 #[.pointer (some ⟨tb, 0, none⟩), .int .i64 (eHo o1), .int .i64 (eHo o2)] w fun e w' => e = .returned (.int .i64 (eHo (lowO R o1 o2))) ∧ Below w.heap.size w w' := by
  obtain ⟨htl, ra, rc, q0, rrow⟩ := H
  have HRW := Lib.hid rrow
  have HBN : Hid (∀ n, Below w.heap.size w (w.drewN n)) := fun n => Below.drewAny _ n
  clear rrow
  cases o1 with
  | none =>
    have e0 : lowO R none o2 = o2 := rfl
    rw [e0]
    generalize eHo o2 = k at *
    show Calls _ _ #[_, .int .i64 (-1), _] _ _
    go_enter Tryz.func74, Tryz.ntmps74
    go_upto_region 1 with fail
    go_quiet (fail)
    go_wp2
    go_ret
    exact ⟨rfl, HBN.out _⟩
  | some i =>
    have hi := h1 i rfl
    have e1 : ((i : Int) == -1) = false := by first | (simp; done) | (simp; omega)
    have e2 : decide ((i : Int) = -1) = false := by first | (simp; done) | (simp; omega)
    cases o2 with
    | none =>
      have e0 : lowO R (some i) none = some i := rfl
      rw [e0]
      show Calls _ _ #[_, .int .i64 (i : Int), .int .i64 (-1)] _ fun e w' => e = .returned (.int .i64 (i : Int)) ∧ _
      go_enter Tryz.func74, Tryz.ntmps74
      go_upto_region 1 with fail
      go_quiet (fail)
      go_wp2
      go_ret
      exact ⟨rfl, HBN.out _⟩
    | some j =>
      have hj := h2 j rfl
      have f1 : ((j : Int) == -1) = false := by first | (simp; done) | (simp; omega)
      have f2 : decide ((j : Int) = -1) = false := by first | (simp; done) | (simp; omega)
      have f3 : ((j : Int) != -1) = true := by first | (simp; done) | (simp; omega)
      have hr : lowO R (some i) (some j) = if ltB R j i then some j else some i := rfl
      obtain ⟨rb, ro, era, hrb, hrc⟩ := HRW.out.get (by omega)
      have r0 := hrc i hi 0 (by omega)
      have r1 := hrc i hi 1 (by omega)
      have r2 := hrc i hi 2 (by omega)
      have v0 := hrc j hj 0 (by omega)
      have v1 := hrc j hj 1 (by omega)
      have v2 := hrc j hj 2 (by omega)
      simp only [ePt, List.getElem?_cons_zero, List.getElem?_cons_succ, Nat.add_zero] at r0 r1 r2 v0 v1 v2
      rw [← ptAt_eq hi] at r0 r1 r2
      rw [← ptAt_eq hj] at v0 v1 v2
      subst era
      have HLB : Hid (ltB R j i = decide (ordY (ptAt R j) (ptAt R i) < 0)) := by
        show _ = _
        unfold ltB
        rw [decide_eq_decide, ordY_lt]
      rw [HLB.out] at hr
      have HRR := Lib.hid hr
      obtain ⟨nR, hnR⟩ : ∃ nR, nR = R.length := ⟨_, rfl⟩
      rw [← hnR] at q0 hR hi hj
      clear hrc HLB h1 h2 hnR hr
      generalize ptAt R i = p at *
      generalize ptAt R j = q at *
      have HC := Lib.hid (fun W => iByYB q p W)
      generalize ordY q p = od at *
      obtain ⟨px, py, pi⟩ := p
      obtain ⟨qx, qy, qi⟩ := q
      simp only at r0 r1 r2 v0 v1 v2
      have HC2 : Hid (∀ b : BelowW w, Calls Tryz.prog 48 #[vPt qx qy qi, vPt px py pi] b.W fun e w' => e = .returned (.int .i64 od) ∧ Below b.W.heap.size b.W w') := fun b => HC.out b.W
      generalize lowO R (some i) (some j) = res at *
      simp only [eHo]
      have k0 := cell_belowW q0
      have k1 := cell_belowW r0
      have k2 := cell_belowW r1
      have k3 := cell_belowW r2
      have k4 := cell_belowW v0
      have k5 := cell_belowW v1
      have k6 := cell_belowW v2
      go_enter Tryz.func74, Tryz.ntmps74
      go_upto_region 1 with fail
      refine wp_region_below (by kernel_rfl) (by kernel_rfl) ?_
      repeat (quiet_step ((go_at_call 48; exact calls_below (HC2.out _))))
      refine wpQuiet_nil ?_
      intro w4 hw'
      have hbb : Below w.heap.size w w4 := by obtain ⟨b, rfl⟩ := hw'; exact b.h
      have HB4 := Lib.hid hbb
      clear hw' hbb k0 k1 k2 k3 k4 k5 k6
      by_cases hlt : od < 0
      · have d1 : decide (od < 0) = true := by simp [hlt]
        have hr := HRR.out
        rw [d1, if_pos rfl] at hr
        subst hr
        go_wp2
        go_ret
        exact ⟨rfl, HB4.out⟩
      · have d1 : decide (od < 0) = false := by simp [hlt]
        have hr := HRR.out
        rw [d1, if_neg (by decide)] at hr
        subst hr
        go_wp2
        go_ret
        exact ⟨rfl, HB4.out⟩
end Go.Proofs.YtggfdlanobndjaaGreat
