/- low: Drop. -/
import Derived.Test.YtggfdlanobndjaaGreatLwQ
import Derived.Test.YtggfdlanobndjaaGreatHpD
import Derived.Test.YtggfdlanobndjaaGreatQ6
namespace Go.Proofs.YtggfdlanobndjaaGreat
open Go.RowKit Go.Sort Go.Shelf Go.Lib Go.Maps
attribute [local irreducible] wpQuiet
attribute [local go_sem] Oper.still1
set_option linter.unusedSimpArgs false
set_option linter.unusedVariables false

theorem ent_llower : ∀ args w, (callFunc 74 args).run Tryz.prog w = .ok (.enter 74 args) w := enters_of Tryz.func74 (by kernel_rfl) rfl

set_option maxRecDepth 100000 in
set_option maxHeartbeats 4000000 in
/-- no such point in the row -/
theorem low_drop_miss {w : World} {lo hi tb fb : Nat} {R : List Pt} {h : Hld} {cnt : Int} {V : HepV} (hA : LptAt w lo hi tb fb R h cnt V) (hX : R.Pairwise ltX) (hR : R.length ≤ 20000) (p : Pt) (hno : ∀ x (h : x < R.length), R[x] ≠ p) :
    Calls Tryz.prog 33 #[.pointer (some ⟨tb, 0, none⟩), vPt p.1 p.2.1 p.2.2] w fun e w' => e = .returned (.bool false) ∧ Below w.heap.size w w' := by
  have hb := hA.blk
  have htl := hA.tbl
  obtain ⟨ra, rc, er, -, -, hrd⟩ := RdK.of_owns ePt_len (by decide) hA.row
  rw [er] at hb
  have CB := Lib.hid (fun W (hb : Below w.heap.size w W) => bsfX1 ra R R.length rc p W rfl (by omega) (hrd.below hb) hX)
  have HRD := Lib.hid hrd
  have HNO := Lib.hid hno
  obtain ⟨px, py, pi⟩ := p
  obtain ⟨w1, ew1⟩ : ∃ w1, w1 = w.alloc (.cells #[.int .i64 px, .int .i64 py, .int .u32 pi] 34) := ⟨_, rfl⟩
  have hb1 : Below w.heap.size w w1 := by rw [ew1]; exact (Below.refl _ _).alloc (Nat.le_refl _) _
  have hp1 : w1.heap[w.heap.size]? = some (.cells #[.int .i64 px, .int .i64 py, .int .u32 pi] 34 (0, 0)) := by rw [ew1]; exact lit0 w _
  have hpc1 : w.heap.size < w1.heap.size := (Array.getElem?_eq_some_iff.1 hp1).1
  have hh1 := (hb1.block tb htl).trans hb
  have c0 : w1.cell? ⟨tb, 0, none⟩ = some (.slice ra R.length rc) := by simp [World.cell?, hh1]
  have p0 : w1.cell? ⟨w.heap.size, 0, none⟩ = some (.int .i64 px) := by simp [World.cell?, hp1]
  have p1 : w1.cell? ⟨w.heap.size, 1, none⟩ = some (.int .i64 py) := by simp [World.cell?, hp1]
  have p2 : w1.cell? ⟨w.heap.size, 2, none⟩ = some (.int .u32 pi) := by simp [World.cell?, hp1]
  obtain ⟨n, hn⟩ : ∃ n, n = R.length := ⟨_, rfl⟩
  rw [← hn] at hR c0 CB
  have HN := Lib.hid hn
  have HB1 := Lib.hid hb1
  have htl1 : tb < w1.heap.size := by omega
  clear hA hrd hno hb er hn hb1 hp1 hh1
  go_enter Tryz.func33, Tryz.ntmps33
  go_upto_region 1 with fail
  rw [← ew1]
  clear ew1
  by_cases h0 : n = 0
  · have d0 : ((n : Int) == 0) = true := by simp [h0]
    have d1 : (n == 0) = true := by simp [h0]
    have d2 : decide (n = 0) = true := by simp [h0]
    clear h0 CB
    go_wp2
    go_ret
    exact ⟨rfl, HB1.out⟩
  · have d0 : ((n : Int) == 0) = false := by simp [h0]
    have d1 : (n == 0) = false := by simp [h0]
    have d2 : decide (n = 0) = false := by simp [h0]
    have hn0 : 0 < n := by omega
    clear h0
    go_upto_region 3 with fail
    have HC3 : Hid (∀ b : BelowW w1, Calls Tryz.prog 53 #[.slice ra n rc, vPt px py pi, .func (.func 45) #[] #[]] b.W fun e w' => e = .returned (.tuple #[.int .i64 (posX R (px, py, pi)), .bool (fndX R (px, py, pi))]) ∧ Below b.W.heap.size b.W w') := fun b => CB.out b.W (HB1.out.trans (b.h.mono HB1.out.size))
    obtain ⟨k, hk⟩ : ∃ k, k = posX R (px, py, pi) := ⟨_, rfl⟩
    obtain ⟨f, hf⟩ : ∃ f, f = fndX R (px, py, pi) := ⟨_, rfl⟩
    rw [← hk, ← hf] at HC3
    have HKF : Hid (k = posX R (px, py, pi) ∧ f = fndX R (px, py, pi)) := ⟨hk, hf⟩
    clear hk hf CB
    have g0 := cell_belowW c0
    have g2 := cell_belowW p0
    have g3 := cell_belowW p1
    have g4 := cell_belowW p2
    refine wp_region_below (by kernel_rfl) (by kernel_rfl) ?_
    repeat (quiet_step ((go_at_call 53; exact calls_below (HC3.out _))))
    refine wpQuiet_nil ?_
    intro wc hw'
    have hbx : Below w1.heap.size w1 wc := by obtain ⟨b, rfl⟩ := hw'; exact b.h
    have c0 := (hbx.cell (p := ⟨tb, 0, none⟩) htl1).trans c0
    have p0 := (hbx.cell (p := ⟨w.heap.size, 0, none⟩) hpc1).trans p0
    have p1 := (hbx.cell (p := ⟨w.heap.size, 1, none⟩) hpc1).trans p1
    have p2 := (hbx.cell (p := ⟨w.heap.size, 2, none⟩) hpc1).trans p2
    have HBC : Hid (Below w.heap.size w wc) := HB1.out.trans (hbx.mono HB1.out.size)
    have HFN : Hid (∀ nq, Below w.heap.size w (wc.drewN nq)) := fun nq => HBC.out.trans ((Below.drewAny _ nq).mono HBC.out.size)
    clear hw' hbx g0 g2 g3 g4 HC3
    cases f with
    | false =>
      go_upto_region 4 with fail
      go_quiet (fail)
      go_wp2
      go_ret
      exact ⟨rfl, HFN.out _⟩
    | true =>
      have hf := HKF.out.2.symm
      have hkk := HKF.out.1
      obtain ⟨hkl, ho⟩ := of_decide_eq_true hf
      rw [ordX_eq] at ho
      have hkl' : k < R.length := by rw [hkk]; exact hkl
      have ho' : R[k].1 = px ∧ R[k].2.2 = pi := by simp only [hkk]; exact ho
      have hne := HNO.out k hkl'
      have hk2 : k < n := by rw [HN.out]; exact hkl'
      obtain ⟨b, off, ea, hbb, hcs⟩ := (HRD.out.below HBC.out).get (by omega)
      have r0 := hcs k hkl' 0 (by omega)
      have r1 := hcs k hkl' 1 (by omega)
      have r2 := hcs k hkl' 2 (by omega)
      simp only [ePt, List.getElem?_cons_zero, List.getElem?_cons_succ, Nat.add_zero] at r0 r1 r2
      subst ea
      clear hcs hf hkk hkl ho
      generalize R[k] = q at *
      obtain ⟨qx, qy, qi⟩ := q
      simp only at r0 r1 r2 ho'
      obtain ⟨ho1, ho2⟩ := ho'
      subst ho1 ho2
      have hqy : qy ≠ py := fun e => hne (by rw [e])
      have d1' : (qy == py) = false := by simp [hqy]
      have d2' : decide (qy = py) = false := by simp [hqy]
      clear hne
      go_upto_region 4 with fail
      go_quiet (fail)
      go_wp2
      go_ret
      exact ⟨rfl, HFN.out _⟩

def DropPL (w : World) (lo hi tb fb : Nat) (R : List Pt) (YS : List Nat) (cnt : Int) (V : HepV) (x : Nat) (e : Ending) (w' : World) : Prop :=
  (x ∉ YS ∧ e = .returned (.bool false) ∧ Below w.heap.size w w') ∨ (x ∈ YS ∧ e = .returned (.bool true) ∧ LptAt w' lo hi tb fb R (bst (nds R.length) (outX YS x)) (cnt - 1) V ∧ KpS (fun k => lo ≤ k ∧ k < hi) w w')

set_option maxRecDepth 100000 in
set_option maxHeartbeats 4000000 in
theorem low_drop_at {w : World} {lo hi tb fb : Nat} {R : List Pt} {gone : List Bool} {YS : List Nat} {cnt : Int} {V : HepV} (hA : LptAt w lo hi tb fb R (bst (nds R.length) YS) cnt V) (hW : CscWF R gone YS) (hR : R.length ≤ 20000) (hc0 : 0 ≤ cnt) (hc1 : cnt ≤ 20000) {x : Nat} (hx : x < R.length) (p : Pt) (hp : R[x] = p) :
    Calls Tryz.prog 33 #[.pointer (some ⟨tb, 0, none⟩), vPt p.1 p.2.1 p.2.2] w (DropPL w lo hi tb fb R YS cnt V x) := by
  have hb := hA.blk
  have htl := hA.tbl
  have htbr := hA.tbr
  obtain ⟨ra, rc, er, -, -, hrd⟩ := RdK.of_owns ePt_len (by decide) hA.row
  rw [er] at hb
  have CB := Lib.hid (fun W (hb : Below w.heap.size w W) => bsfX1 ra R R.length rc p W rfl (by omega) (hrd.below hb) hW.rowX)
  have hfx := fndX_at hW.rowX hx
  rw [hp] at hfx
  rw [hfx.1, hfx.2] at CB
  have HRD := Lib.hid hrd
  have hpt : ptAt R x = p := by rw [ptAt_eq hx]; exact hp
  have HP := Lib.hid hpt
  have HXR := Lib.hid hx
  obtain ⟨px, py, pi⟩ := p
  obtain ⟨w1, ew1⟩ : ∃ w1, w1 = w.alloc (.cells #[.int .i64 px, .int .i64 py, .int .u32 pi] 34) := ⟨_, rfl⟩
  have hb1 : Below w.heap.size w w1 := by rw [ew1]; exact (Below.refl _ _).alloc (Nat.le_refl _) _
  have hp1 : w1.heap[w.heap.size]? = some (.cells #[.int .i64 px, .int .i64 py, .int .u32 pi] 34 (0, 0)) := by rw [ew1]; exact lit0 w _
  have hpc1 : w.heap.size < w1.heap.size := (Array.getElem?_eq_some_iff.1 hp1).1
  have hh1 := (hb1.block tb htl).trans hb
  have c0 : w1.cell? ⟨tb, 0, none⟩ = some (.slice ra R.length rc) := by simp [World.cell?, hh1]
  have p0 : w1.cell? ⟨w.heap.size, 0, none⟩ = some (.int .i64 px) := by simp [World.cell?, hp1]
  have p1 : w1.cell? ⟨w.heap.size, 1, none⟩ = some (.int .i64 py) := by simp [World.cell?, hp1]
  have p2 : w1.cell? ⟨w.heap.size, 2, none⟩ = some (.int .u32 pi) := by simp [World.cell?, hp1]
  have hn0 : 0 < R.length := by omega
  have hxn := hx
  obtain ⟨n, hn⟩ : ∃ n, n = R.length := ⟨_, rfl⟩
  rw [← hn] at hR c0 CB hn0 hxn
  have HN := Lib.hid hn
  have HB1 := Lib.hid hb1
  have HA := Lib.hid hA
  have HW := Lib.hid hW
  have HPL := Lib.hid (path_L YS hx)
  have htl1 : tb < w1.heap.size := by omega
  clear hA hrd hb er hn hb1 hp1 hh1 hfx hp hx hW hpt
  have d0 : ((n : Int) == 0) = false := by simp; omega
  have d1 : (n == 0) = false := by simp; omega
  have d2 : decide (n = 0) = false := by simp; omega
  go_enter Tryz.func33, Tryz.ntmps33
  go_upto_region 1 with fail
  rw [← ew1]
  clear ew1
  go_upto_region 3 with fail
  have HC3 : Hid (∀ b : BelowW w1, Calls Tryz.prog 53 #[.slice ra n rc, vPt px py pi, .func (.func 45) #[] #[]] b.W fun e w' => e = .returned (.tuple #[.int .i64 (x : Nat), .bool true]) ∧ Below b.W.heap.size b.W w') := fun b => CB.out b.W (HB1.out.trans (b.h.mono HB1.out.size))
  clear CB
  have g0 := cell_belowW c0
  have g2 := cell_belowW p0
  have g3 := cell_belowW p1
  have g4 := cell_belowW p2
  refine wp_region_below (by kernel_rfl) (by kernel_rfl) ?_
  repeat (quiet_step ((go_at_call 53; exact calls_below (HC3.out _))))
  refine wpQuiet_nil ?_
  intro wc hw'
  have hbx : Below w1.heap.size w1 wc := by obtain ⟨b, rfl⟩ := hw'; exact b.h
  have c0 := (hbx.cell (p := ⟨tb, 0, none⟩) htl1).trans c0
  have p0 := (hbx.cell (p := ⟨w.heap.size, 0, none⟩) hpc1).trans p0
  have p1 := (hbx.cell (p := ⟨w.heap.size, 1, none⟩) hpc1).trans p1
  have p2 := (hbx.cell (p := ⟨w.heap.size, 2, none⟩) hpc1).trans p2
  have HBC : Hid (Below w.heap.size w wc) := HB1.out.trans (hbx.mono HB1.out.size)
  clear hw' hbx g0 g2 g3 g4 HC3
  have HMC : Hid (LptAt wc lo hi tb fb R (bst (nds R.length) YS) cnt V) := HA.out.below HBC.out htbr.2.2.2.2
  have hfb := HMC.out.blk
  have c2 : wc.cell? ⟨tb, 2, none⟩ = some (.pointer (some ⟨fb, 0, none⟩)) := by simp [World.cell?, hfb]
  obtain ⟨b, off, ea, hbb, hcs⟩ := (HRD.out.below HBC.out).get (by have := HN.out; omega)
  have r0 := hcs x HXR.out 0 (by omega)
  have r1 := hcs x HXR.out 1 (by omega)
  have r2 := hcs x HXR.out 2 (by omega)
  rw [← ptAt_eq HXR.out, HP.out] at r0 r1 r2
  simp only [ePt, List.getElem?_cons_zero, List.getElem?_cons_succ, Nat.add_zero] at r0 r1 r2
  subst ea
  clear hcs hfb HA
  go_upto_region 4 with fail
  go_quiet (fail)
  obtain ⟨w3, ew3⟩ : ∃ w3, w3 = wc.drewN nq := ⟨_, rfl⟩
  have hb3 : Below wc.heap.size wc w3 := by rw [ew3]; exact Below.drewAny _ _
  have c2 : w3.cell? ⟨tb, 2, none⟩ = some (.pointer (some ⟨fb, 0, none⟩)) := by rw [ew3]; exact c2
  have HM3 : Hid (LptAt w3 lo hi tb fb R (bst (nds R.length) YS) cnt V) := HMC.out.below hb3 HMC.out.tbr.2.2.2.2
  have HB3 : Hid (Below w.heap.size w w3) := HBC.out.trans (hb3.mono HBC.out.size)
  have CP := Lib.hid (frame_path lo fb n x V.fv (by omega) hxn w3 (by rw [HN.out]; exact HM3.out.frm))
  go_upto_region 6 with fail
  rw [← ew3]
  clear ew3 hb3 HMC HBC r0 r1 r2 p0 p1 p2 c0 hbb
  go_wp2_with fail
  refine CP.out.mono ?_
  rintro e w4 ⟨pv, rfl, hpv, hb4⟩
  have HM4 : Hid (LptAt w4 lo hi tb fb R (bst (nds R.length) YS) cnt V) := HM3.out.below hb4 HM3.out.tbr.2.2.2.2
  have HB4 : Hid (Below w.heap.size w w4) := HB3.out.trans (hb4.mono HB3.out.size)
  have hs3 : w.heap.size ≤ w3.heap.size := HB3.out.size
  obtain ⟨P, hPd⟩ : ∃ P, P = (mkT 0 n).path 0 x := ⟨_, rfl⟩
  have hPl : P.length ≤ n + 1 := by
    have h1 := FT.path_len (mkT 0 n) 0 x
    have h2 := mkT_ht 0 n n (Nat.le_of_lt (Nat.lt_two_pow_self))
    rw [hPd]
    omega
  rw [← hPd] at hpv
  have HPL2 : Hid (PthL R YS x P) := by rw [hPd, HN.out]; exact HPL.out
  clear hPd
  obtain ⟨pa, pc, rfl, -, -, hrp⟩ := Rd.of_owns (enc := eNat) hpv
  have HPV : Hid (w4.ownsRow w3.heap.size 3 1 (.slice pa P.length pc) P.length (P.map eNat)) := hpv
  obtain ⟨hlP, haP⟩ := HPL2.out.last
  have hkl := HPL2.out.lt _ (List.getElem_mem hlP)
  obtain ⟨bp, offp, eap, hbp, hcp⟩ := hrp.get (by omega)
  have x0 := hcp (P.length - 1) hlP
  simp only [eNat] at x0
  obtain ⟨gh, ch, ehv, hg1, hg2, hg3, -, hghl, hcs, -⟩ := HM4.out.holds (by have := HN.out; omega)
  obtain ⟨y0, z0⟩ := hcs _ hkl
  rw [show bst (nds R.length) YS P[P.length - 1] = if x ∈ YS then some x else none from bst_leaf HW.out haP] at y0
  have hb4' := HM4.out.blk
  rw [ehv] at hb4'
  have c4 : w4.cell? ⟨tb, 4, none⟩ = some (.slice (some ⟨gh, 0, none⟩) (nds R.length).length ch) := by simp [World.cell?, hb4']
  have c5 : w4.cell? ⟨tb, 5, none⟩ = some (.int .i64 cnt) := by simp [World.cell?, hb4']
  have z5 : w4.frozen? ⟨tb, 5, none⟩ = false := by simp [World.frozen?, hb4']
  have HEH := Lib.hid ehv
  have HLK : Hid (P[P.length - 1] = P[P.length - 1]) := rfl
  have hM : (nds R.length).length ≤ 40000 := by have := HN.out; rw [nds_len]; omega
  have e7 : ((P.length - 1 : Nat) : Int) = (P.length : Int) - 1 := by omega
  have htl4 := HM4.out.tbl
  have hgt : gh ≠ tb := hg3
  obtain ⟨lf, hlf⟩ : ∃ lf, lf = P[P.length - 1] := ⟨_, rfl⟩
  obtain ⟨M, hMM⟩ : ∃ M, M = (nds R.length).length := ⟨_, rfl⟩
  rw [← hlf] at x0 y0 z0 hkl
  rw [← hMM] at c4 hkl hM
  have HLF := Lib.hid hlf
  have HMM := Lib.hid hMM
  obtain ⟨m1, hm1⟩ : ∃ m1, m1 = P.length - 1 := ⟨_, rfl⟩
  rw [← hm1] at x0
  have hm2 : (P.length : Int) - 1 = (m1 : Int) := by omega
  have hm3 : (m1 : Int) < (P.length : Int) := by omega
  have hm4 : m1 < P.length := by omega
  have HM1 := Lib.hid hm1
  clear hm1
  subst eap
  clear hb4' ehv hcs hpv hrp hb4 CP HM3 HB3 c2 hcp hlf hMM haP e7 HLK
  by_cases hY : x ∈ YS
  · rw [if_pos hY] at y0
    simp only [eHo] at y0
    have hW' := HW.out.drop ((HW.out.live x).1 hY)
    have HW2 := Lib.hid hW'
    have e1 : ((x : Int) == -1) = false := by first | (simp; done) | (simp; omega)
    have e2 : decide ((x : Int) = -1) = false := by first | (simp; done) | (simp; omega)
    have HYY := Lib.hid hY
    obtain ⟨w5, ew5⟩ : ∃ w5, w5 = w4.setCell ⟨gh, lf, none⟩ (.int .i64 (-1)) := ⟨_, rfl⟩
    obtain ⟨w6, ew6⟩ : ∃ w6, w6 = w5.setCell ⟨tb, 5, none⟩ (.int .i64 (cnt - 1)) := ⟨_, rfl⟩
    have HM6 : Hid (LptAt w6 lo hi tb fb R (hMix (nds R.length) YS (outX YS x) P m1) (cnt - 1) V) := by
      rw [ew6, ew5]
      have h1 := ((HM4.out.setHold HEH.out (by rw [← HMM.out]; exact hkl) none).setCnt (cnt - 1))
      refine h1.congr fun k hk => ?_
      rw [HLF.out, HM1.out]
      exact (mix_first HPL2.out HW2.out k hk).symm
    have HK6 : Hid (KpS (fun k => lo ≤ k ∧ k < hi) w w6) := by
      rw [ew6, ew5]
      exact ((((KpS.refl _ w).below HB4.out).set (a := ⟨gh, lf, none⟩) _ (.inl ⟨hg1, hg2⟩)).set (a := ⟨tb, 5, none⟩) _ (.inl ⟨htbr.1, htbr.2.1⟩))
    have HPV6 : Hid (w6.ownsRow w3.heap.size 3 1 (.slice (some ⟨bp, offp, none⟩) P.length pc) P.length (P.map eNat)) := by
      have k5 : KpS (fun k => lo ≤ k ∧ k < hi) w4 w6 := by rw [ew6, ew5]; exact (((KpS.refl _ w4).set (a := ⟨gh, lf, none⟩) _ (.inl ⟨hg1, hg2⟩)).set (a := ⟨tb, 5, none⟩) _ (.inl ⟨htbr.1, htbr.2.1⟩))
      exact rowK HPV.out k5 (fun g e h9 => by have := (HPV.out.lt g e).1; have := h9.2; have := htbr.2.2.2.2; omega)
    have HE6 : Hid (w6 = (w4.setCell ⟨gh, lf, none⟩ (.int .i64 (-1))).setCell ⟨tb, 5, none⟩ (.int .i64 (cnt - 1))) := by rw [ew6, ew5]; rfl
    clear ew5 ew6 hW' hY HM4 HPV HPL
    go_upto_region 12 with fail
    rw [← HE6.out]
    clear HE6 c4 c5 z5 y0 z0 x0
    go_wp2
    go_loopw [10] (fun iv wr => ∃ (m : Nat) (i : Int), iv = .int .i64 i ∧ i = (m : Int) - 1 ∧ m ≤ m1 ∧ Hid (LptAt wr lo hi tb fb R (hMix (nds R.length) YS (outX YS x) P m) (cnt - 1) V) ∧ Hid (KpS (fun k => lo ≤ k ∧ k < hi) w6 wr)) (fun iv _ => (intOf iv + 1).toNat)
    case atStart => exact ⟨m1, _, rfl, by omega, Nat.le_refl _, HM6, Lib.hid (KpS.refl _ _)⟩
    case round =>
      obtain ⟨m, i, rfl, him, hmm, HMr, HKr⟩ := hrel
      by_cases hm0 : 0 < m
      · obtain ⟨j, rfl⟩ : ∃ j, m = j + 1 := ⟨m - 1, by omega⟩
        obtain rfl : i = (j : Int) := by omega
        clear him
        obtain ⟨l, r, s, hat, het, hel, her, hst⟩ := mix_step HPL2.out HW2.out (m := j) (by omega)
        have hjP : j < P.length := by omega
        have hjP2 : (j : Int) < (P.length : Int) := by omega
        have rowP := rowK HPV6.out HKr.out (fun g e h9 => by have := (HPV6.out.lt g e).1; have := h9.2; have := htbr.2.2.2.2; omega)
        obtain ⟨_, _, eA, -, -, hrp⟩ := Rd.of_owns (enc := eNat) rowP
        injection eA with eA _ _
        obtain ⟨bq, offq, eaq, hbq, hcq⟩ := hrp.get (by omega)
        obtain ⟨rfl, rfl⟩ : bp = bq ∧ offp = offq := by rw [← eA] at eaq; simpa using eaq
        have xk := hcq j hjP
        simp only [eNat] at xk
        obtain ⟨gn, offn, cn, env, rnd⟩ := HMr.out.nodes (by have := HN.out; omega)
        obtain ⟨gh', ch', ehv', hh1, hh2, hh3, -, hhl, hcs, -⟩ := HMr.out.holds (by have := HN.out; omega)
        obtain ⟨-, n0, n1, n2, n3, n4, n5, n6⟩ := nd_all rnd hat.get
        have hkn := HPL2.out.lt _ (List.getElem_mem hjP)
        have hll := hat.left.lt
        have hrl := hat.right.lt
        obtain ⟨y0, z0⟩ := hcs _ hkn
        obtain ⟨y1, -⟩ := hcs _ hll
        obtain ⟨y2, -⟩ := hcs _ hrl
        rw [hel] at y1
        rw [her] at y2
        have hbr := HMr.out.blk
        rw [env, ehv'] at hbr
        have c3 : wr.cell? ⟨tb, 3, none⟩ = some (.slice (some ⟨gn, offn, none⟩) (nds R.length).length cn) := by simp [World.cell?, hbr]
        have c4 : wr.cell? ⟨tb, 4, none⟩ = some (.slice (some ⟨gh', 0, none⟩) (nds R.length).length ch') := by simp [World.cell?, hbr]
        have hdl : ((FT.node l r).top s).l = ((l.root s : Nat) : Int) := by show ((s + l.size : Nat) : Int) - 1 = _; unfold FT.root; have := l.size_pos; omega
        have hdr : ((FT.node l r).top s).r = ((r.root (s + l.size) : Nat) : Int) := by show ((s + l.size + r.size : Nat) : Int) - 1 = _; unfold FT.root; have := r.size_pos; omega
        rw [hdl] at n1
        rw [hdr] at n2
        have hTBL := HMr.out.tbl
        have CL := Lib.hid (fun W (hb : Below wr.heap.size wr W) => low_lower (HMr.out.lowR.below hb) (by have := HN.out; omega) (bst (nds R.length) (outX YS x) (l.root s)) (bst (nds R.length) (outX YS x) (r.root (s + l.size))) (fun i h => bst_lt HW2.out h) (fun i h => bst_lt HW2.out h))
        have HST := Lib.hid hst
        have HEV := Lib.hid ehv'
        rw [het] at n0 n1 n2 n3 n4 n5 n6
        rw [← HMM.out] at c3 c4 hkn hll hrl
        obtain ⟨kk, hkk⟩ : ∃ kk, kk = P[j] := ⟨_, rfl⟩
        have HKK := Lib.hid hkk
        rw [← hkk] at xk n0 n1 n2 n3 n4 n5 n6 y0 z0 hkn
        clear hkk het hst hel her hbr env ehv' hcs rnd hcq rowP hrp eA eaq hdl hdr hat
        generalize lowO R (bst (nds R.length) (outX YS x) (l.root s)) (bst (nds R.length) (outX YS x) (r.root (s + l.size))) = nx at *
        generalize bst (nds R.length) (outX YS x) (l.root s) = bl at *
        generalize bst (nds R.length) (outX YS x) (r.root (s + l.size)) = br at *
        generalize l.root s = kl at *
        generalize r.root (s + l.size) = kr at *
        generalize (FT.node l r).top s = d at *
        obtain ⟨w7, ew7⟩ : ∃ w7, w7 = (wr.alloc (.cells #[.int .u8 d.kind, .int .i64 kl, .int .i64 kr, .int .i64 d.fr, .int .i64 d.til, .int .i64 0, .int .i64 d.item] 119)).drew := ⟨_, rfl⟩
        have hb7 : Below wr.heap.size wr w7 := by rw [ew7]; exact ((Below.refl _ _).alloc (Nat.le_refl _) _).drew
        have hx7 : w7.heap[wr.heap.size]? = some (.cells #[.int .u8 d.kind, .int .i64 kl, .int .i64 kr, .int .i64 d.fr, .int .i64 d.til, .int .i64 0, .int .i64 d.item] 119 (0, 0)) := by rw [ew7]; exact lit0 wr _
        have HB7 := Lib.hid hb7
        have HX7 := Lib.hid hx7
        have EW := Lib.hid ew7
        clear ew7 hb7 hx7
        have k3 := cell_belowW c3
        have kx := cell_belowW xk
        have k40 := cell_belowW n0
        have k41 := cell_belowW n1
        have k42 := cell_belowW n2
        have k43 := cell_belowW n3
        have k44 := cell_belowW n4
        have k45 := cell_belowW n5
        have k46 := cell_belowW n6
        go_upto_region 15 with fail
        refine wp_region_head (fun W => ∃ p : BelowW wr, W = p.W) [11] [(0, false), (1, false), (2, false), (3, true), (4, false), (5, false), (6, false), (7, true), (8, false), (9, true)] (by kernel_rfl) (by kernel_rfl) (fun _ _ d _ _ h => by cases d <;> exact h) ⟨⟨_, (Below.refl _ _).drew⟩, rfl⟩ 2 rfl (by kernel_rfl) ?_
        simp only [pickB, List.filterMap_cons, List.filterMap_nil, List.getElem?_toArray, List.getElem?_cons_succ, List.getElem?_cons_zero, Option.map_some]
        repeat (refine wpHd_step (fun K hK => ?_); go_simp; first | (refine hK _ ?_; clear hK K) | (apply Exists.intro; refine ⟨fun _ => ?_, hK _ ?_⟩; rfl; clear hK K))
        refine wpHd_nil ?_
        refine wpAnyT_ready [10] (by kernel_rfl) (by simp) ?_
        refine AllReadyT.cons rfl (fun K hK => ?_) AllReadyT.nil
        go_simp
        refine hK _ _ (fun _ _ => ⟨⟨_, ((Below.refl _ _).drew).alloc (Nat.le_refl _) _⟩, rfl⟩) ?_
        clear hK K
        refine wpAnyT_line [11] _ _ _ (by kernel_rfl) ?_
        simp only [pick, List.filterMap_cons, List.filterMap_nil, List.getElem?_toArray, List.getElem?_cons_succ, List.getElem?_cons_zero]
        clear k3 kx k40 k41 k42 k43 k44 k45 k46 n0 n1 n2 n3 n4 n5 n6 c3
        go_upto_region 16 with fail
        rw [← EW.out]
        clear EW
        have hx7 := HX7.out
        have hb7 := HB7.out
        have hbpl : bp < wr.heap.size := hbq
        have m1' : w7.cell? ⟨wr.heap.size, 1, none⟩ = some (.int .i64 kl) := by simp [World.cell?, hx7]
        have m2' : w7.cell? ⟨wr.heap.size, 2, none⟩ = some (.int .i64 kr) := by simp [World.cell?, hx7]
        have c4' := (hb7.cell (p := ⟨tb, 4, none⟩) hTBL).trans c4
        have xk' := (hb7.cell (p := ⟨bp, offp + j, none⟩) hbpl).trans xk
        have y1' := (hb7.cell (p := ⟨gh', kl, none⟩) hhl).trans y1
        have y2' := (hb7.cell (p := ⟨gh', kr, none⟩) hhl).trans y2
        have k1 := cell_belowW m1'
        have k2 := cell_belowW m2'
        have k3 := cell_belowW c4'
        have k4 := cell_belowW xk'
        have k5 := cell_belowW y1'
        have k6 := cell_belowW y2'
        clear hx7 hb7 m1' m2' y1' y2' y1 y2 c4 xk
        refine wp_region_head (fun W => ∃ p : BelowW w7, W = p.W) [26, 27] [(0, false), (1, false), (2, false), (3, true), (4, false), (5, false), (6, false), (7, true), (8, false), (9, false), (10, false), (11, false), (12, true), (13, false), (14, true), (15, false), (16, true), (17, false), (18, false), (19, false), (20, true), (21, false), (22, true), (23, false), (24, true)] (by kernel_rfl) (by kernel_rfl) (fun _ _ d _ _ h => by cases d <;> exact h) ⟨⟨_, (Below.refl _ _).drew⟩, rfl⟩ 3 rfl (by kernel_rfl) ?_
        simp only [pickB, List.filterMap_cons, List.filterMap_nil, List.getElem?_toArray, List.getElem?_cons_succ, List.getElem?_cons_zero, Option.map_some]
        repeat (refine wpHd_step (fun K hK => ?_); go_simp; first | (refine hK _ ?_; clear hK K) | (apply Exists.intro; refine ⟨fun _ => ?_, hK _ ?_⟩; rfl; clear hK K))
        refine wpHd_nil ?_
        refine wpAnyT_ready [25] (by kernel_rfl) (by simp) ?_
        refine AllReadyT.cons rfl (fun K hK => ?_) AllReadyT.nil
        refine step_call ent_llower rfl _ _ rfl (vals := #[.pointer (some ⟨tb, 0, none⟩), .int .i64 (eHo bl), .int .i64 (eHo br)]) rfl (CL.out w7.drew HB7.out.drew) ?_
        rintro e w8 ⟨rfl, hb8⟩
        have hb78 : Below w7.heap.size w7 w8 := ((Below.refl w7.heap.size w7).drew).trans hb8
        refine ⟨_, rfl, hK _ _ (fun _ _ => ⟨⟨_, hb78⟩, rfl⟩) ?_⟩
        clear hK K
        refine wpAnyT_line [26, 27] _ _ _ (by kernel_rfl) ?_
        simp only [pick, List.filterMap_cons, List.filterMap_nil, List.getElem?_toArray, List.getElem?_cons_succ, List.getElem?_cons_zero]
        have hbr8 : Below wr.heap.size wr w8 := HB7.out.trans (hb78.mono HB7.out.size)
        have y8 := (hbr8.cell (p := ⟨gh', kk, none⟩) hhl).trans y0
        have z8 : w8.frozen? ⟨gh', kk, none⟩ = false := by
          have h9 := z0
          simp only [World.frozen?] at h9 ⊢
          rw [hbr8.block gh' hhl]
          exact h9
        have HFIN : Hid (∀ wz, wz = w8.setCell ⟨gh', kk, none⟩ (.int .i64 (eHo nx)) → LptAt wz lo hi tb fb R (hMix (nds R.length) YS (outX YS x) P j) (cnt - 1) V ∧ KpS (fun k => lo ≤ k ∧ k < hi) w6 wz) := fun wz ez => by
          subst ez
          refine ⟨((HMr.out.below hbr8 HMr.out.tbr.2.2.2.2).setHold HEV.out (by rw [← HMM.out]; exact hkn) nx).congr fun k _ => ?_, (HKr.out.below hbr8).set (a := ⟨gh', kk, none⟩) _ (.inl ⟨hh1, hh2⟩)⟩
          rw [HKK.out]
          exact (HST.out k).symm
        clear hbr8 hb78 hb8 y0 z0 k1 k2 k3 k4 k5 k6 CL
        go_wp2
        exact ⟨⟨j, by first | rfl | omega, by omega, (HFIN.out _ rfl).1, (HFIN.out _ rfl).2⟩, by simp [intOf]; omega⟩
      · obtain rfl : m = 0 := by omega
        have d9 : decide (0 ≤ i) = false := by simp; omega
        have hfin := HMr.out
        rw [mix_none HPL2.out] at hfin
        have HFIN : Hid (DropPL w lo hi tb fb R YS cnt V x (.returned (.bool true)) wr) := .inr ⟨HYY.out, rfl, hfin, HK6.out.trans HKr.out⟩
        clear hfin
        go_wp2
        go_ret
        exact HFIN.out
  · rw [if_neg hY] at y0
    simp only [eHo] at y0
    have HFIN : Hid (DropPL w lo hi tb fb R YS cnt V x (.returned (.bool false)) w4) := .inl ⟨hY, rfl, HB4.out⟩
    clear hY
    go_wp2
    go_ret
    exact HFIN.out
end Go.Proofs.YtggfdlanobndjaaGreat
