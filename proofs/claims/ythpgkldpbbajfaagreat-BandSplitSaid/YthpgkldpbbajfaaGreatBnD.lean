/- band.Drop. -/
import Derived.Test.YthpgkldpbbajfaaGreatBnM
import Derived.Test.YthpgkldpbbajfaaGreatQ7
import Derived.IntWalk
import Derived.Deep.CutBlock
import Derived.Deep.CutRange
import Derived.Deep.LoopGhost
namespace Go.Proofs.YthpgkldpbbajfaaGreat
open Go.RowKit Go.Sort Go.Shelf Go.Lib Go.Maps
attribute [local irreducible] wpQuiet
attribute [local go_sem] Oper.still1
set_option linter.unusedSimpArgs false
set_option linter.unusedVariables false

set_option maxRecDepth 100000 in
set_option maxHeartbeats 4000000 in
theorem band_drop_no {w : World} {lo hi tb fb : Nat} {R : List Pt} {gone : List Bool} {YS : List Nat} {cnt : Nat} {nc : Nat → List Nat} {V : BndV} (hA : BndAt w lo hi tb fb R gone cnt nc V) (hW : CscWF R gone YS) (hR : R.length ≤ 20000) (p : Pt) (hno : ∀ x (h : x < R.length), R[x] = p → gone[x]? ≠ some false) :
    Calls Tryz.prog 26 #[.pointer (some ⟨tb, 0, none⟩), vPt p.1 p.2.1 p.2.2] w fun e w' => e = .returned (.bool false) ∧ Below w.heap.size w w' := by
  have hb := hA.blk
  have htl : tb < w.heap.size := Nat.lt_of_lt_of_le hA.tbr.2.1 hA.tbr.2.2.2.2
  obtain ⟨ra, rc, er, -, -, hrd⟩ := RdK.of_owns ePt_len (by decide) hA.row
  have hg0 := hA.gon
  obtain ⟨ga, gc, eg⟩ := rowV hA.gon
  rw [er, eg] at hb
  have CB := Lib.hid (fun W (hb : Below w.heap.size w W) => bsfX1 ra R R.length rc p W rfl (by omega) (hrd.below hb) hW.rowX)
  have HRD := Lib.hid hrd
  have HG := Lib.hid hA.gon
  have HNO := Lib.hid hno
  have HGL := Lib.hid hW.glen
  have HEG := Lib.hid eg
  obtain ⟨px, py, pi⟩ := p
  obtain ⟨n, hn⟩ : ∃ n, n = R.length := ⟨_, rfl⟩
  rw [← hn] at hR hb CB
  have HN := Lib.hid hn
  have HB := Lib.hid hb
  clear hA hW hrd hno hg0 hb er eg hn
  go_enter Tryz.func26, Tryz.ntmps26
  go_wp2_with fail
  obtain ⟨w1, ew1⟩ : ∃ w1, w1 = w.alloc (.cells #[.int .i64 px, .int .i64 py, .int .u32 pi] 34) := ⟨_, rfl⟩
  have hb1 : Below w.heap.size w w1 := by rw [ew1]; exact (Below.refl _ _).alloc (Nat.le_refl _) _
  have hx1 : w1.heap[w.heap.size]? = some (.cells #[.int .i64 px, .int .i64 py, .int .u32 pi] 34 (0, 0)) := by rw [ew1]; exact lit0 w _
  have ht1 := (hb1.block tb htl).trans HB.out
  rw [← ew1]
  clear ew1
  have c3 : w1.cell? ⟨tb, 3, none⟩ = some (.pointer (some ⟨fb, 0, none⟩)) := by simp [World.cell?, ht1]
  refine (band_none tb fb w1 c3).mono ?_
  rintro e w' ⟨rfl, ew'⟩
  subst w'
  go_upto_region 3 with fail
  have k0 := cell_belowW (w := w1) (ad := ⟨tb, 0, none⟩) (v := .slice ra n rc) (by simp [World.cell?, ht1])
  have k1 := cell_belowW (w := w1) (ad := ⟨w.heap.size, 0, none⟩) (v := .int .i64 px) (by simp [World.cell?, hx1])
  have k2 := cell_belowW (w := w1) (ad := ⟨w.heap.size, 1, none⟩) (v := .int .i64 py) (by simp [World.cell?, hx1])
  have k3 := cell_belowW (w := w1) (ad := ⟨w.heap.size, 2, none⟩) (v := .int .u32 pi) (by simp [World.cell?, hx1])
  have HC3 : Hid (∀ p : BelowW w1, Calls Tryz.prog 69 #[.slice ra n rc, vPt px py pi, .func (.func 57) #[] #[]] p.W fun e w' => e = .returned (.tuple #[.int .i64 (posX R (px, py, pi)), .bool (fndX R (px, py, pi))]) ∧ Below p.W.heap.size p.W w') := fun p => CB.out p.W (hb1.trans (p.h.mono hb1.size))
  refine wp_region_below (by kernel_rfl) (by kernel_rfl) ?_
  repeat (quiet_step ((go_at_call 69; exact calls_below (HC3.out _))))
  refine wpQuiet_nil ?_
  intro w2 hw'
  have hb2 : Below w1.heap.size w1 w2 := by obtain ⟨p, rfl⟩ := hw'; exact p.h
  clear hw' HC3 k0 k1 k2 k3 CB c3
  have ht2 := (hb2.block tb (Nat.lt_of_lt_of_le htl hb1.size)).trans ht1
  have hx2 := (hb2.block w.heap.size (Array.getElem?_eq_some_iff.1 hx1).1).trans hx1
  have hB2 : Below w.heap.size w w2 := hb1.trans (hb2.mono hb1.size)
  have HB2 := Lib.hid hB2
  have c0 : w2.cell? ⟨tb, 0, none⟩ = some (.slice ra n rc) := by simp [World.cell?, ht2]
  have c2 : w2.cell? ⟨tb, 2, none⟩ = some (.slice ga n gc) := by simp [World.cell?, ht2]
  have x0 : w2.cell? ⟨w.heap.size, 0, none⟩ = some (.int .i64 px) := by simp [World.cell?, hx2]
  have x1 : w2.cell? ⟨w.heap.size, 1, none⟩ = some (.int .i64 py) := by simp [World.cell?, hx2]
  have x2 : w2.cell? ⟨w.heap.size, 2, none⟩ = some (.int .u32 pi) := by simp [World.cell?, hx2]
  clear hb1 hb2 ht1 hx1 ht2 hx2
  cases hf : fndX R (px, py, pi) with
  | false =>
    go_wp2_with fail
    go_upto_region 4 with fail
    go_quiet (fail)
    go_wp2
    go_ret
    exact ⟨rfl, HB2.out.trans (Below.drewAny _ _)⟩
  | true =>
    obtain ⟨hkl, ho⟩ := of_decide_eq_true hf
    rw [ordX_eq] at ho
    generalize posX R (px, py, pi) = k at *
    have hk2 : k < n := by rw [HN.out]; exact hkl
    obtain ⟨b, off, ea, hbb, hcs⟩ := (HRD.out.below hB2).get (by omega)
    have r0 := hcs k hkl 0 (by omega)
    have r1 := hcs k hkl 1 (by omega)
    have r2 := hcs k hkl 2 (by omega)
    simp only [ePt, List.getElem?_cons_zero, List.getElem?_cons_succ, Nat.add_zero] at r0 r1 r2
    have hgrow := ownsRow_below HG.out hB2
    rw [HEG.out] at hgrow
    obtain ⟨gg, gc', eg2, _, _⟩ := ownRow_at hgrow (by have := HN.out; omega)
    injection eg2 with eg2 eg3 eg4
    subst eg2
    have hnn := HN.out
    obtain ⟨gb, hgb⟩ : ∃ gb, gone[k]? = some gb := ⟨_, List.getElem?_eq_getElem (by have := HGL.out; omega)⟩
    have g0 := hgrow.cellAt k (by omega)
    rw [List.getElem?_map, hgb] at g0
    simp only [Option.map_some] at g0
    have HKK : Hid (R[k] = (px, py, pi) → gb = true) := fun he => by
      have := HNO.out k hkl he
      rw [hgb] at this
      cases gb with
      | true => rfl
      | false => exact absurd rfl this
    subst ea
    clear hcs hgrow hgb hB2 eg3 eg4 hnn
    generalize R[k] = q at *
    obtain ⟨qx, qy, qi⟩ := q
    simp only at r0 r1 r2 ho
    obtain ⟨ho1, ho2⟩ := ho
    subst ho1 ho2
    clear hf
    go_upto_region 4 with fail
    by_cases hqy : qy = py
    · subst hqy
      obtain rfl : gb = true := HKK.out rfl
      go_quiet (fail)
      go_wp2
      go_ret
      exact ⟨rfl, HB2.out.trans (Below.drewAny _ _)⟩
    · have d1 : (qy == py) = false := by simp [hqy]
      have d2 : decide (qy = py) = false := by simp [hqy]
      go_quiet (fail)
      go_wp2
      go_ret
      exact ⟨rfl, HB2.out.trans (Below.drewAny _ _)⟩
def DropPB (w : World) (lo hi tb fb : Nat) (R : List Pt) (gone : List Bool) (YS : List Nat) (x : Nat) (e : Ending) (w' : World) : Prop :=
  e = .returned (.bool true) ∧ ∃ V', BndAt w' lo hi tb fb R (gone.set x true) (outX YS x).length (lk (nds R.length) (outX YS x)) V' ∧ KpS (fun k => lo ≤ k ∧ k < hi) w w'

theorem ent_del64 : ∀ args w, (callFunc 72 args).run Tryz.prog w = .ok (.enter 72 args) w := enters_of Tryz.func72 (by kernel_rfl) rfl
theorem ent_del32 : ∀ args w, (callFunc 73 args).run Tryz.prog w = .ok (.enter 73 args) w := enters_of Tryz.func73 (by kernel_rfl) rfl

set_option maxRecDepth 100000 in
set_option maxHeartbeats 8000000 in
theorem band_drop_yes {w : World} {lo hi tb fb : Nat} {R : List Pt} {gone : List Bool} {YS : List Nat} {V : BndV} (hA : BndAt w lo hi tb fb R gone YS.length (lk (nds R.length) YS) V) (hW : CscWF R gone YS) (hR : R.length ≤ 20000) {x : Nat} (hx : x < R.length) (hgx : gone[x]? = some false) (p : Pt) (hp : R[x] = p) :
    Calls Tryz.prog 26 #[.pointer (some ⟨tb, 0, none⟩), vPt p.1 p.2.1 p.2.2] w (DropPB w lo hi tb fb R gone YS x) := by
  have hb := hA.blk
  have htl : tb < w.heap.size := Nat.lt_of_lt_of_le hA.tbr.2.1 hA.tbr.2.2.2.2
  obtain ⟨ra, rc, er, -, -, hrd⟩ := RdK.of_owns ePt_len (by decide) hA.row
  obtain ⟨ga, gc, eg⟩ := rowV hA.gon
  have hM := hA
  rw [er, eg] at hb
  have CB := Lib.hid (fun W (hb : Below w.heap.size w W) => bsfX1 ra R R.length rc p W rfl (by omega) (hrd.below hb) hW.rowX)
  have hfx := fndX_at hW.rowX hx
  rw [hp] at hfx
  have HRD := Lib.hid hrd
  have HEG := Lib.hid eg
  have HER := Lib.hid er
  obtain ⟨px, py, pi⟩ := p
  obtain ⟨n, hn⟩ : ∃ n, n = R.length := ⟨_, rfl⟩
  rw [← hn] at hR hb CB hx
  have HN := Lib.hid hn
  have HB := Lib.hid hb
  have HM := Lib.hid hM
  have HP := Lib.hid hp
  have HGX := Lib.hid hgx
  have HW := Lib.hid hW
  have htbr := hA.tbr
  rw [hfx.1, hfx.2] at CB
  clear hA hrd hb er eg hn hM hp hgx hW hfx
  go_enter Tryz.func26, Tryz.ntmps26
  go_wp2_with fail
  obtain ⟨pb, hpb⟩ : ∃ pb, pb = w.heap.size := ⟨_, rfl⟩
  obtain ⟨w1, ew1⟩ : ∃ w1, w1 = w.alloc (.cells #[.int .i64 px, .int .i64 py, .int .u32 pi] 34) := ⟨_, rfl⟩
  have hb1 : Below w.heap.size w w1 := by rw [ew1]; exact (Below.refl _ _).alloc (Nat.le_refl _) _
  have hx1 : w1.heap[pb]? = some (.cells #[.int .i64 px, .int .i64 py, .int .u32 pi] 34 (0, 0)) := by rw [ew1, hpb]; exact lit0 w _
  have ht1 := (hb1.block tb htl).trans HB.out
  rw [← ew1]
  clear ew1
  have c3 : w1.cell? ⟨tb, 3, none⟩ = some (.pointer (some ⟨fb, 0, none⟩)) := by simp [World.cell?, ht1]
  refine (band_none tb fb w1 c3).mono ?_
  rintro e w' ⟨rfl, ew'⟩
  subst w'
  go_upto_region 3 with fail
  rw [← hpb]
  have hpb2 : hi ≤ pb := by rw [hpb]; exact htbr.2.2.2.2
  have HPB := Lib.hid hpb
  clear hpb
  have k0 := cell_belowW (w := w1) (ad := ⟨tb, 0, none⟩) (v := .slice ra n rc) (by simp [World.cell?, ht1])
  have k1 := cell_belowW (w := w1) (ad := ⟨pb, 0, none⟩) (v := .int .i64 px) (by simp [World.cell?, hx1])
  have k2 := cell_belowW (w := w1) (ad := ⟨pb, 1, none⟩) (v := .int .i64 py) (by simp [World.cell?, hx1])
  have k3 := cell_belowW (w := w1) (ad := ⟨pb, 2, none⟩) (v := .int .u32 pi) (by simp [World.cell?, hx1])
  have HC3 : Hid (∀ p : BelowW w1, Calls Tryz.prog 69 #[.slice ra n rc, vPt px py pi, .func (.func 57) #[] #[]] p.W fun e w' => e = .returned (.tuple #[.int .i64 x, .bool true]) ∧ Below p.W.heap.size p.W w') := fun p => CB.out p.W (hb1.trans (p.h.mono hb1.size))
  refine wp_region_below (by kernel_rfl) (by kernel_rfl) ?_
  repeat (quiet_step ((go_at_call 69; exact calls_below (HC3.out _))))
  refine wpQuiet_nil ?_
  intro w2 hw'
  have hb2 : Below w1.heap.size w1 w2 := by obtain ⟨p, rfl⟩ := hw'; exact p.h
  clear hw' HC3 k0 k1 k2 k3 CB c3
  have hx2 := (hb2.block pb (Array.getElem?_eq_some_iff.1 hx1).1).trans hx1
  have hB2 : Below w.heap.size w w2 := hb1.trans (hb2.mono hb1.size)
  have HM2 : Hid (BndAt w2 lo hi tb fb R gone YS.length (lk (nds R.length) YS) V) := HM.out.below hB2 htbr.2.2.2.2
  have HB2 := Lib.hid hB2
  have HX2 := Lib.hid hx2
  have ht2 := HM2.out.blk
  have c0 : w2.cell? ⟨tb, 0, none⟩ = some (.slice ra n rc) := by simp [World.cell?, ht2]; rw [HER.out, HN.out]
  have hgrow := HM2.out.gon
  rw [HEG.out] at hgrow
  obtain ⟨gg, gc', eg2, _, _⟩ := ownRow_at hgrow (by have := HN.out; omega)
  injection eg2 with eg2 eg3 eg4
  subst eg2
  clear eg3 eg4
  have c2 : w2.cell? ⟨tb, 2, none⟩ = some (.slice (some ⟨gg, 0, none⟩) n gc) := by simp [World.cell?, ht2]; rw [HEG.out, HN.out]
  have x0 : w2.cell? ⟨pb, 0, none⟩ = some (.int .i64 px) := by simp [World.cell?, hx2]
  have x1 : w2.cell? ⟨pb, 1, none⟩ = some (.int .i64 py) := by simp [World.cell?, hx2]
  have x2 : w2.cell? ⟨pb, 2, none⟩ = some (.int .u32 pi) := by simp [World.cell?, hx2]
  have hxR : x < R.length := by rw [← HN.out]; exact hx
  obtain ⟨b, off, ea, hbb, hcs⟩ := (HRD.out.below hB2).get (by omega)
  have r0 := hcs x hxR 0 (by omega)
  have r1 := hcs x hxR 1 (by omega)
  have r2 := hcs x hxR 2 (by omega)
  rw [HP.out] at r0 r1 r2
  simp only [ePt, List.getElem?_cons_zero, List.getElem?_cons_succ, Nat.add_zero] at r0 r1 r2
  have g0 := hgrow.cellAt x (by omega)
  have z0 := hgrow.frozenAt x
  rw [List.getElem?_map, HGX.out] at g0
  simp only [Option.map_some] at g0
  subst ea
  clear hcs hgrow hB2 hb1 hb2 ht1 hx1 ht2 hx2 HM
  go_upto_region 4 with fail
  go_quiet (fail)
  go_upto_region 7 with fail
  obtain ⟨w3, ew3⟩ : ∃ w3, w3 = (w2.drewN nq).setCell ⟨gg, x, none⟩ (.bool true) := ⟨_, rfl⟩
  have HM3 : Hid (BndAt w3 lo hi tb fb R (gone.set x true) YS.length (lk (nds R.length) YS) V) := by
    rw [ew3]
    exact BndAt.setGone (HM2.out.below (Below.drewAny w2.heap.size nq) HM2.out.tbr.2.2.2.2) HEG.out x
  have hgg : lo ≤ gg ∧ gg < hi := ⟨(HM2.out.gon.lt gg (by rw [HEG.out]; rfl)).1, HM2.out.top V.gv (by simp) gg (by rw [HEG.out]; rfl)⟩
  have HK3 : Hid (KpS (fun k => lo ≤ k ∧ k < hi) w w3) := by
    rw [ew3]
    exact (((KpS.refl _ w).below HB2.out).below (Below.drewAny w2.heap.size nq)).set (a := ⟨gg, x, none⟩) _ (.inl hgg)
  have HX3 : Hid (w3.heap[pb]? = some (.cells #[.int .i64 px, .int .i64 py, .int .u32 pi] 34 (0, 0))) := by
    rw [ew3]
    exact (heap_setNe (show gg ≠ pb by omega)).trans HX2.out
  rw [← ew3]
  clear ew3 c0 c2 x0 x1 x2 r0 r1 r2 g0 z0 HB2 HX2 HM2 hgg hbb
  have hxY : x ∈ YS := (HW.out.live x).2 HGX.out
  have hYl := HW.out.len
  have hY0 : 0 < YS.length := List.length_pos_of_mem hxY
  have ht3 := HM3.out.blk
  have c7 : w3.cell? ⟨tb, 5, none⟩ = some (.int .i64 YS.length) := by simp [World.cell?, ht3]
  have z7 : w3.frozen? ⟨tb, 5, none⟩ = false := by simp [World.frozen?, ht3]
  obtain ⟨m, hm⟩ : ∃ m, m = YS.length - 1 := ⟨_, rfl⟩
  have hm2 : (YS.length : Int) - 1 = (m : Int) := by omega
  have HMX : Hid (m = (outX YS x).length) := by rw [hm]; exact (outX_len HW.out.nodup hxY).symm
  have hYb : YS.length ≤ 20000 := by rw [HN.out] at hR; omega
  have HYX := Lib.hid hxY
  clear hm hYl ht3 hxY
  go_upto_region 8 with fail
  obtain ⟨w4, ew4⟩ : ∃ w4, w4 = w3.setCell ⟨tb, 5, none⟩ (.int .i64 m) := ⟨_, rfl⟩
  have HM4 : Hid (BndAt w4 lo hi tb fb R (gone.set x true) m (lk (nds R.length) YS) V) := by rw [ew4]; exact HM3.out.setCnt m
  have HK4 : Hid (KpS (fun k => lo ≤ k ∧ k < hi) w w4) := by rw [ew4]; exact HK3.out.set (a := ⟨tb, 5, none⟩) _ (.inl ⟨htbr.1, htbr.2.1⟩)
  have HX4 : Hid (w4.heap[pb]? = some (.cells #[.int .i64 px, .int .i64 py, .int .u32 pi] 34 (0, 0))) := by rw [ew4]; exact (heap_setNe (show tb ≠ pb by omega)).trans HX3.out
  rw [← ew4]
  clear ew4 c7 z7 HM3 HK3 HX3
  have ht4 := HM4.out.blk
  have c3 : w4.cell? ⟨tb, 3, none⟩ = some (.pointer (some ⟨fb, 0, none⟩)) := by simp [World.cell?, ht4]
  have CP := Lib.hid (frame_path lo fb n x V.fv (by omega) hx w4 (by rw [HN.out]; exact HM4.out.frm))
  clear ht4
  go_wp2_with fail
  refine CP.out.mono ?_
  rintro e w5 ⟨pv, rfl, hpv, hb5⟩
  have hs4 := HM4.out.tbr.2.2.2.2
  have HM5 : Hid (BndAt w5 lo hi tb fb R (gone.set x true) m (lk (nds R.length) YS) V) := HM4.out.below hb5 hs4
  have HK5 : Hid (KpS (fun k => lo ≤ k ∧ k < hi) w w5) := HK4.out.below hb5
  have HX5 := Lib.hid ((hb5.block pb (Array.getElem?_eq_some_iff.1 HX4.out).1).trans HX4.out)
  have hp5 : w4.heap.size ≤ w5.heap.size := hb5.size
  have HPV := Lib.hid hpv
  have hpw4 : pb < w4.heap.size := (Array.getElem?_eq_some_iff.1 HX4.out).1
  clear c3 CP HM4 HK4 HX4 hb5
  obtain ⟨P, hPd⟩ : ∃ P, P = (mkT 0 n).path 0 x := ⟨_, rfl⟩
  rw [← hPd] at hpv HPV
  have hPl : P.length ≤ n + 1 := by
    have h1 := FT.path_len (mkT 0 n) 0 x
    have h2 := mkT_ht 0 n n (Nat.le_of_lt (Nat.lt_two_pow_self))
    rw [hPd]
    omega
  have HPD := Lib.hid hPd
  obtain ⟨pa, pc, rfl⟩ := rowV hpv
  clear hpv hPd
  go_wp2_with fail
  go_loopg [70] P.length (fun kx s70 wr => ∃ (j : Nat) (nc : Nat → List Nat) (V : BndV), s70 = .int .i64 j ∧ j ≤ P.length ∧ P.length - j ≤ kx ∧
    Hid (BndAt wr lo hi tb fb R (gone.set x true) m nc V) ∧ Hid (∀ k, k < (nds R.length).length → nc k = lk (nds n) (ysFor YS x (P.take j) k) k) ∧ Hid (KpS (fun k => lo ≤ k ∧ k < hi) w5 wr))
  case atStart =>
    refine ⟨0, _, V, rfl, Nat.zero_le _, by omega, HM5, ?_, KpS.refl _ _⟩
    intro k hk
    rw [HN.out, List.take_zero, ysFor_nil]
  case round =>
    obtain ⟨j, nc, V, rfl, hj, hkx, HMr, HNC, HKr⟩ := hrel
    by_cases hjP : j < P.length
    · have hn0 : 0 < n := by omega
      obtain ⟨hwT, hlT, hhT⟩ := mkT_spec 0 n hn0
      obtain ⟨k, hk⟩ : ∃ k, k = P[j] := ⟨_, rfl⟩
      have hkm : k ∈ (mkT 0 n).path 0 x := by rw [← HPD.out, hk]; exact List.getElem_mem _
      obtain ⟨⟨t, s⟩, hts0, hts, hxlo, hxhi⟩ := FT.mem_path (mkT 0 n) 0 x hwT (by omega) (by omega) k hkm
      simp only at hts hxlo hxhi
      have hT0 := nds_at n hn0
      rw [nds_eq hn0] at hT0
      have ha : FT.At (nds n) t s := by rw [nds_eq hn0]; exact FT.subs_at _ 0 hT0 _ hts0
      have hwt : t.wf := FT.subs_wf _ 0 hwT _ hts0
      have hkl : k < (nds n).length := hts ▸ ha.lt
      have hpd : P.Pairwise (· > ·) := by rw [HPD.out]; exact FT.path_down _ 0 x hwT (by omega) (by omega)
      have hkn : k ∉ P.take j := fun h => by
        obtain ⟨q, hq, e⟩ := List.getElem_of_mem h
        rw [List.getElem_take] at e
        rw [List.length_take] at hq
        have := List.pairwise_iff_getElem.1 hpd q j (by omega) hjP (by omega)
        omega
      have hnck : nc k = nl YS t := by
        rw [HNC.out k (by rw [← HN.out]; exact hkl), ysFor, if_neg hkn, ← hts, lk_at ha]
      obtain ⟨L, hL⟩ : ∃ L, L = nl YS t := ⟨_, rfl⟩
      rw [← hL] at hnck
      have hLn : L.Nodup := by rw [hL]; exact List.Pairwise.filter _ HW.out.nodup
      have hxL : x ∈ L := by rw [hL]; exact List.mem_filter.2 ⟨HYX.out, by simpa using ⟨hxlo, hxhi⟩⟩
      obtain ⟨i, hiL, hix⟩ := List.getElem_of_mem hxL
      have hLl : L.length ≤ 20000 := by
        have h1 : L.length ≤ YS.length := by rw [hL]; exact List.length_filter_le _ _
        omega
      have hout : nl (outX YS x) t = L.eraseIdx i := by
        subst hL
        exact nl_out_at HW.out.nodup hiL hix
      have HFAC : Hid (FT.At (nds n) t s ∧ t.root s = k ∧ t.wf ∧ t.lo ≤ x ∧ x < t.hi ∧ L = nl YS t ∧ nc k = L ∧ L.Nodup ∧ nl (outX YS x) t = L.eraseIdx i ∧ k ∉ P.take j ∧ k = P[j] ∧ k < (nds n).length ∧ P.Pairwise (· > ·) ∧ ∃ h : i < L.length, L[i] = x) := ⟨ha, hts, hwt, hxlo, hxhi, hL, hnck, hLn, hout, hkn, hk, hkl, hpd, hiL, hix⟩
      -- the rows that are read
      have hblk := HMr.out.blk
      have hNl : (nds R.length).length = (nds n).length := by rw [HN.out]
      have hkR : k < (nds R.length).length := by omega
      obtain ⟨gl, cl, egl, hgll, hcs⟩ := HMr.out.lists (by omega)
      have hnr := HMr.out.nam k hkR
      rw [hnck] at hnr
      have hL0 : 0 < L.length := by omega
      obtain ⟨g, c, eg1, _, _⟩ := ownRow_at hnr hL0
      rw [eg1] at hnr
      have hyr := HMr.out.yss k hkR
      rw [hnck] at hyr
      obtain ⟨gy, cy, eg2, _, _⟩ := ownRow_at hyr hL0
      rw [eg2] at hyr
      have hnd : (nds n).length ≤ 40000 := by rw [nds_len]; omega
      obtain ⟨NN, hNN⟩ : ∃ NN, NN = (nds n).length := ⟨_, rfl⟩
      have hkNN : k < NN := by omega
      have hNN4 : NN ≤ 40000 := by omega
      have q4 : wr.cell? ⟨tb, 4, none⟩ = some (.slice (some ⟨gl, 0, none⟩) NN cl) := by simp [World.cell?, hblk]; rw [egl, hNN, hNl]
      have qy := (hcs k hkR).1
      have qn := (hcs k hkR).2
      rw [eg2] at qy
      rw [eg1] at qn
      have hXr : wr.heap[pb]? = some (.cells #[.int .i64 px, .int .i64 py, .int .u32 pi] 34 (0, 0)) := blkK HKr.out HX5.out (fun h => by omega)
      have qp : wr.cell? ⟨pb, 2, none⟩ = some (.int .u32 pi) := by simp [World.cell?, hXr]
      have hPr := rowK HPV.out HKr.out (fun g h h2 => by have := (HPV.out.lt g h).1; have := htbr.2.2.2.2; omega)
      obtain ⟨gp, cp, egp, _, _⟩ := ownRow_at hPr (by omega)
      injection egp with egp egp2 egp3
      subst egp
      have qk := hPr.cellAt j (by omega)
      rw [List.getElem?_map, List.getElem?_eq_getElem hjP, ← hk] at qk
      simp only [Option.map_some] at qk
      have CIX : Hid (∀ W, Below wr.heap.size wr W → Calls Tryz.prog 71 #[.slice (some ⟨g, 0, none⟩) L.length c, .int .u32 pi] W fun e w' => e = .returned (.int .i64 i) ∧ Below W.heap.size W w') := fun W hbW => by
        have hrw := ownsRow_below hnr hbW
        obtain ⟨a1, c1, e1, -, -, hrd1⟩ := Rd.of_owns hrw
        injection e1 with e1 e2 e3
        rw [← e1] at hrd1
        have hpi : pi = nmR R x := by
          unfold nmR ptAt
          have hxR : x < R.length := by rw [← HN.out]; exact hx
          rw [List.getD_eq_getElem?_getD, List.getElem?_eq_getElem hxR]
          simp [HP.out]
        have hmem : pi ∈ L.map (nmR R) := by rw [hpi]; exact List.mem_map.2 ⟨x, hxL, rfl⟩
        refine (index32 (some ⟨g, 0, none⟩) (L.map (nmR R)) L.length c pi W (by simp) hrd1 (by omega) hmem).mono ?_
        rintro e w' ⟨⟨i', he, hi', hii⟩, rfl⟩
        rw [List.getElem_map, hpi] at hii
        have hi2 : i' < L.length := by simpa using hi'
        have hLR : ∀ y ∈ L, y < R.length := fun y hy => HW.out.lt (by rw [hL] at hy; exact (List.mem_filter.1 hy).1)
        have hxx : L[i'] = x := by
          have h1 := hLR _ (List.getElem_mem hi2)
          have hxR : x < R.length := by rw [← HN.out]; exact hx
          unfold nmR ptAt at hii
          rw [List.getD_eq_getElem?_getD, List.getD_eq_getElem?_getD, List.getElem?_eq_getElem h1, List.getElem?_eq_getElem hxR] at hii
          simp only [Option.getD_some] at hii
          by_cases e : L[i'] = x
          · exact e
          · exfalso
            have hid := List.pairwise_map.1 HW.out.ids
            rcases Nat.lt_or_gt_of_ne e with h9 | h9
            · exact List.pairwise_iff_getElem.1 hid _ _ h1 hxR h9 hii
            · exact List.pairwise_iff_getElem.1 hid _ _ hxR h1 h9 hii.symm
        have hii2 : i' = i := by
          by_cases e : i' = i
          · exact e
          · exfalso
            rcases Nat.lt_or_gt_of_ne e with h9 | h9
            · exact List.pairwise_iff_getElem.1 hLn i' i hi2 hiL h9 (by rw [hxx, hix])
            · exact List.pairwise_iff_getElem.1 hLn i i' hiL hi2 h9 (by rw [hxx, hix])
        subst hii2
        exact ⟨he, Below.refl _ _⟩
      have hNYl : (L.map (yvR R)).length = L.length := by simp
      have hNNl : (L.map (nmR R)).length = L.length := by simp
      have hyW := fun W (hb : Below wr.heap.size wr W) => ownsRow_below hyr hb
      have hnW := fun W (hb : Below wr.heap.size wr W) => ownsRow_below hnr hb
      have hgne : gy ≠ g := fun h => rows_ne hyr hnr (by decide) gy rfl (by rw [h]; rfl)
      have CDY : Hid (∀ W, Below wr.heap.size wr W → Calls Tryz.prog 72 #[.slice (some ⟨gy, 0, none⟩) L.length cy, .int .i64 i, .int .i64 ((i : Int) + 1)] W fun e w' => e = .returned (.slice (some ⟨gy, 0, none⟩) (L.length - 1) cy) ∧ w'.ownsRow lo 2 1 (.slice (some ⟨gy, 0, none⟩) (L.length - 1) cy) (L.length - 1) (((L.eraseIdx i).map (yvR R)).map (Value.int .i64)) ∧ KpS (fun k => k = gy) W w') := fun W hb => by
        have h := delI64 (w := W) (base := lo) (g := gy) (cap := cy) (l := L.map (yvR R)) (i := i) (by rw [hNYl]; exact hyW W hb) (by rw [hNYl]; exact hiL)
        rw [hNYl, eraseIdx_mapF, Int.natCast_succ] at h
        exact h
      have CDN : Hid (∀ W, W.ownsRow lo 32 1 (.slice (some ⟨g, 0, none⟩) L.length c) L.length (((L.map (nmR R))).map (Value.int .u32)) → Calls Tryz.prog 73 #[.slice (some ⟨g, 0, none⟩) L.length c, .int .i64 i, .int .i64 ((i : Int) + 1)] W fun e w' => e = .returned (.slice (some ⟨g, 0, none⟩) (L.length - 1) c) ∧ w'.ownsRow lo 32 1 (.slice (some ⟨g, 0, none⟩) (L.length - 1) c) (L.length - 1) (((L.eraseIdx i).map (nmR R)).map (Value.int .u32)) ∧ KpS (fun k => k = g) W w') := fun W hW => by
        have h := delU32 (w := W) (base := lo) (g := g) (cap := c) (l := L.map (nmR R)) (i := i) (by rw [hNNl]; exact hW) (by rw [hNNl]; exact hiL)
        rw [hNNl, eraseIdx_mapF, Int.natCast_succ] at h
        exact h
      have HEG1 := Lib.hid (And.intro egl (And.intro eg1 eg2))
      have HNl : Hid (NN = (nds n).length ∧ (nds R.length).length = NN) := ⟨hNN, by rw [hNl, hNN]⟩
      have hgyb : lo ≤ gy ∧ gy < hi := ⟨(hyr.lt gy rfl).1, (HMr.out.topL k hkR).1 gy (by rw [eg2]; rfl)⟩
      have hgnb : lo ≤ g ∧ g < hi := ⟨(hnr.lt g rfl).1, (HMr.out.topL k hkR).2 g (by rw [eg1]; rfl)⟩
      have hglr := HMr.out.lst
      rw [egl] at hglr
      have hglb : lo ≤ gl ∧ gl < hi := ⟨(hglr.lt gl rfl).1, HMr.out.top V.lv (by simp) gl (by rw [egl]; rfl)⟩
      have hgly : gl ≠ gy := fun h => rows_ne hglr hyr (by decide) gl rfl (by rw [h]; rfl)
      have hgln : gl ≠ g := fun h => rows_ne hglr hnr (by decide) gl rfl (by rw [h]; rfl)
      have zy := hglr.frozenAt (k * 2)
      have zn := hglr.frozenAt (k * 2 + 1)
      have HNR := Lib.hid hnr
      have HHIX : Hid (∃ h : i < L.length, L[i] = x) := ⟨hiL, hix⟩
      clear ha hts hts0 hwt hxlo hxhi hL hnck hLn hout hkn hk hpd hix hxL hT0 hkm hblk hnr hyr hXr hPr egp2 egp3 hNN hNl hkl hnd egl eg1 eg2 hwT hlT hhT hcs hglr hyW hnW
      go_upto_region 13 with fail
      have k1 := cell_belowW qn
      have k2 := cell_belowW qp
      have HC13 : Hid (∀ p : BelowW wr, Calls Tryz.prog 71 #[.slice (some ⟨g, 0, none⟩) L.length c, .int .u32 pi] p.W fun e w' => e = .returned (.int .i64 i) ∧ Below p.W.heap.size p.W w') := fun p => CIX.out p.W p.h
      refine wp_region_below (by kernel_rfl) (by kernel_rfl) ?_
      repeat (quiet_step ((go_at_call 71; exact calls_below (HC13.out _))))
      refine wpQuiet_nil ?_
      intro w6 hw'
      have hb6 : Below wr.heap.size wr w6 := by obtain ⟨p, rfl⟩ := hw'; exact p.h
      have HB6 := Lib.hid hb6
      clear hw' k1 k2 HC13 CIX q4 qp qk
      have HM6 : Hid (BndAt w6 lo hi tb fb R (gone.set x true) m nc V) := HMr.out.below hb6 HMr.out.tbr.2.2.2.2
      have q0 := (hb6.cell (p := ⟨gl, k * 2, none⟩) hgll).trans qy
      have q1 := (hb6.cell (p := ⟨gl, k * 2 + 1, none⟩) hgll).trans qn
      have z0 := (hb6.frozen (p := ⟨gl, k * 2, none⟩) hgll).trans zy
      have z1 := (hb6.frozen (p := ⟨gl, k * 2 + 1, none⟩) hgll).trans zn
      have hgl6 : gl < w6.heap.size := Nat.lt_of_lt_of_le hgll hb6.size
      have keep : ∀ {o : Nat} {v : Value}, w6.cell? ⟨gl, o, none⟩ = some v → ∀ p : KeptW (fun k => k = gy) w6, p.W.cell? ⟨gl, o, none⟩ = some v := fun hv p => ((cellK p.h hgl6 hgly).1 _).trans hv
      have g0 := keep q0
      have g1 := keep q1
      have hN6 := Lib.hid (ownsRow_below HNR.out hb6)
      have hLl2 : L.length ≤ 20000 := hLl
      have hib : i < 20000 := by omega
      have w64i : IntKind.i64.wrap ((i : Int) + 1) = (i : Int) + 1 := IntWalk.i64_in _ (by omega)
      clear keep qy qn zy zn hb6
      go_upto_region 14 with fail
      refine wp_region_head (fun W => ∃ p : KeptW (fun k => k = gy) w6, W = p.W) [17, 18, 19, 20, 21, 22, 23] [(0, false), (1, false), (2, false), (3, false), (4, false), (5, true), (6, false), (7, false), (8, false), (10, false), (11, false), (12, false), (13, true), (14, false), (15, false), (16, false)] (by kernel_rfl) (by kernel_rfl) (fun _ _ d _ _ h => by cases d <;> exact h) ⟨⟨_, (KpS.refl _ _).drew⟩, rfl⟩ 8 rfl (by kernel_rfl) ?_
      simp only [pickB, List.filterMap_cons, List.filterMap_nil, List.getElem?_toArray, List.getElem?_cons_succ, List.getElem?_cons_zero, Option.map_some]
      repeat (refine wpHd_step (fun K hK => ?_); go_simp; first | (refine hK _ ?_; clear hK K) | (apply Exists.intro; refine ⟨fun _ => ?_, hK _ ?_⟩; rfl; clear hK K))
      refine wpHd_nil ?_
      clear w64i
      refine wpAnyT_ready [9] (by kernel_rfl) (by simp) ?_
      refine AllReadyT.cons rfl (fun K hK => ?_) AllReadyT.nil
      refine step_call ent_del64 rfl _ _ rfl (vals := #[.slice (some ⟨gy, 0, none⟩) L.length cy, .int .i64 i, .int .i64 ((i : Int) + 1)]) rfl (CDY.out w6.drew (HB6.out.drew)) ?_
      rintro e w7 ⟨rfl, hy7, hk7⟩
      have K7 : KpS (fun k => k = gy) w6 w7 := ((KpS.refl (fun k => k = gy) w6).drew).trans hk7
      refine ⟨_, rfl, hK _ _ (fun _ _ => ⟨⟨_, K7⟩, rfl⟩) ?_⟩
      clear hK K
      refine wpAnyT_ready [17] (by kernel_rfl) (by simp) ?_
      refine AllReadyT.cons rfl (fun K hK => ?_) AllReadyT.nil
      have hN7 := rowK hN6.out K7 (fun gb e h => hgne (Eq.trans (show g = gb from Option.some.inj e) h).symm)
      refine step_call ent_del32 rfl _ _ rfl (vals := #[.slice (some ⟨g, 0, none⟩) L.length c, .int .i64 i, .int .i64 ((i : Int) + 1)]) rfl (CDN.out w7 hN7) ?_
      rintro e w8 ⟨rfl, hn8, K8⟩
      refine ⟨_, rfl, hK _ _ (fun _ h => absurd (by simp) h) ?_⟩
      clear hK K
      refine wpAnyT_line [18, 19, 20, 21, 22, 23] _ _ _ (by kernel_rfl) ?_
      simp only [pick, List.filterMap_cons, List.filterMap_nil, List.getElem?_toArray, List.getElem?_cons_succ, List.getElem?_cons_zero]
      have hgl7 := Nat.lt_of_lt_of_le hgl6 K7.size
      have q0' := (((cellK K8 hgl7 hgln).1 _).trans ((cellK K7 hgl6 hgly).1 _)).trans q0
      have q1' := (((cellK K8 hgl7 hgln).1 _).trans ((cellK K7 hgl6 hgly).1 _)).trans q1
      have z0' := (((cellK K8 hgl7 hgln).2 _).trans ((cellK K7 hgl6 hgly).2 _)).trans z0
      have z1' := (((cellK K8 hgl7 hgln).2 _).trans ((cellK K7 hgl6 hgly).2 _)).trans z1
      have hLE : (L.eraseIdx i).length = L.length - 1 := by rw [List.length_eraseIdx, if_pos hiL]
      have hSL := BndAt.setList HM6.out (w1 := w7) (w2 := w8) (k := k) (gy := gy) (ny := L.length) (cy := cy) (gn := g) (nn := L.length) (cn := c) (gl := gl) (nl := (nds R.length).length) (cl := cl) (n' := L.length - 1) (by have := HNl.out; omega) HEG1.out.2.2 HEG1.out.2.1 HEG1.out.1 K7 K8 (L' := L.eraseIdx i) (by rw [hLE]; exact hy7) (by rw [hLE]; exact hn8)
      have HSL := Lib.hid hSL
      have HK8 : Hid (KpS (fun k => lo ≤ k ∧ k < hi) w5 ((w8.setCell ⟨gl, k * 2, none⟩ (.slice (some ⟨gy, 0, none⟩) (L.length - 1) cy)).setCell ⟨gl, k * 2 + 1, none⟩ (.slice (some ⟨g, 0, none⟩) (L.length - 1) c))) :=
        (((((HKr.out.below HB6.out).trans (K7.mono (fun k h => by subst h; exact hgyb))).trans (K8.mono (fun k h => by subst h; exact hgnb))).set (a := ⟨gl, k * 2, none⟩) _ (.inl hglb)).set (a := ⟨gl, k * 2 + 1, none⟩) _ (.inl hglb))
      have hFin : ∀ k', k' < (nds R.length).length → updA nc k (L.eraseIdx i) k' = lk (nds n) (ysFor YS x (P.take (j + 1)) k') k' := fun k' hk' => by
        obtain ⟨f1, f2, f3, f4, f5, f6, f7, f8, f9, f10, f11, f12, f13, f14, f15⟩ := HFAC.out
        have hmem : k' ∈ P.take (j + 1) ↔ k' ∈ P.take j ∨ k' = k := by rw [List.take_succ_eq_append_getElem hjP, ← f11]; simp
        by_cases e : k' = k
        · subst e
          rw [updA_same, ysFor, if_pos (hmem.2 (.inr rfl)), ← f2, lk_at f1, f9]
        · rw [updA_ne e, HNC.out k' hk']
          unfold ysFor
          by_cases e2 : k' ∈ P.take j
          · rw [if_pos e2, if_pos (hmem.2 (.inl e2))]
          · rw [if_neg e2, if_neg (fun h => (hmem.1 h).elim e2 e)]
      have HFin := Lib.hid hFin
      clear hSL hFin q0 q1 z0 z1 g0 g1 K7 K8 hy7 hn8 hN7 hk7 hLE
      go_wp2
      go_roundg (P.length - (j + 1))
      case measure => omega
      case rel => exact ⟨j + 1, _, _, by go_num, by omega, Nat.le_refl _, HSL.out, HFin.out, HK8.out⟩
    · obtain rfl : j = P.length := by omega
      have HK := HK5.out.trans HKr.out
      have hxR : x < R.length := by rw [← HN.out]; exact hx
      have hall : ∀ k, k < (nds R.length).length → lk (nds R.length) (outX YS x) k = nc k := fun k hk => by
        rw [HNC.out k hk, List.take_length, HPD.out]
        obtain ⟨t, s, ha, rfl⟩ := nds_get hk
        have ha' := ha
        rw [← HN.out] at ha'
        rw [lk_at ha, lk_at ha']
        unfold ysFor
        by_cases hm : t.root s ∈ (mkT 0 n).path 0 x
        · rw [if_pos hm]
        · rw [if_neg hm]
          have hn0 : 0 < n := by omega
          refine nl_out_other fun ⟨a, b⟩ => hm (FT.path_mem _ 0 x (mkT_spec 0 n hn0).1 _ (FT.at_mem (nds_eq hn0 ▸ ha')) a b)
      have hfin : BndAt wr lo hi tb fb R (gone.set x true) (outX YS x).length (lk (nds R.length) (outX YS x)) V := by
        have h := HMr.out.congr hall
        rw [HMX.out] at h
        exact h
      have HFIN := Lib.hid hfin
      have HKK := Lib.hid HK
      clear hall hfin HK
      go_wp2
      go_ret
      exact ⟨rfl, _, HFIN.out, HKK.out⟩
end Go.Proofs.YthpgkldpbbajfaaGreat
