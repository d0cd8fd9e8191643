/- band.each: what a closure is told of a box's lists. -/
import Derived.Test.YthpgkldpbbajfaaGreatBnA
namespace Go.Proofs.YthpgkldpbbajfaaGreat
open Go.RowKit Go.Sort Go.Shelf Go.Lib Go.Maps
attribute [local irreducible] wpQuiet
attribute [local go_sem] Oper.still1
set_option linter.unusedSimpArgs false
set_option linter.unusedVariables false

/-- what a closure does that is told of lists: it keeps a state, writes the blocks D alone, and tells what it touched -/
structure TldB (F : Nat) (cb : Array Value) (cost : List Nat → Nat) (yv : Nat → Int) (y1 y2 : Int) (M : Nat) (nc : Nat → List Nat) (LY LN : Nat → Value) (w0 : World) (FL : List Nat) (S : World → List Nat → (Nat → Prop) → Prop) : Prop where
  enters : ∀ args w, (callFunc F args).run Tryz.prog w = .ok (.enter F args) w
  base : ∀ W acc D, S W acc D → Below w0.heap.size w0 W
  lt : ∀ W acc D, S W acc D → ∀ k, D k → w0.heap.size ≤ k ∧ k < W.heap.size
  stable : ∀ W W' acc D, S W acc D → Below W.heap.size W W' → S W' acc D
  told : ∀ W acc D k, S W acc D → k < M → acc ++ btw yv y1 y2 (nc k) <+: FL →
    Calls Tryz.prog F (#[.agg #[LY k, LN k]] ++ cb) W fun e w' => e = .returned (.int .i64 (cost (nc k) : Nat)) ∧ ∃ D', S w' (acc ++ btw yv y1 y2 (nc k)) D' ∧ (∀ k, D' k → D k ∨ W.heap.size ≤ k) ∧ KpS D W w'

theorem bandR_no (cost : List Nat → Nat) (R : List Pt) (YS : List Nat) {x1 x2 y1 y2 : Int} (h : x2 < x1 ∨ y2 < y1) : bandR cost R YS x1 x2 y1 y2 = ([], 0) := by unfold bandR; rw [if_pos h]

set_option maxRecDepth 100000 in
set_option maxHeartbeats 4000000 in
/-- a box that is none -/
theorem band_each0 (F : Nat) (cb : Array Value) (cost : List Nat → Nat) (R : List Pt) (gone : List Bool) (YS : List Nat) (cnt : Nat) (nc : Nat → List Nat) (V : BndV) (lo hi tb fb : Nat) (W : World) (S : World → List Nat → (Nat → Prop) → Prop) (D : Nat → Prop) (x1 x2 y1 y2 bi : Int)
    (hA : BndAt W lo hi tb fb R gone cnt nc V) (hb : x2 < x1 ∨ y2 < y1) (hst : ∀ W', Below W.heap.size W W' → S W' [] D) :
    Calls Tryz.prog 77 #[.pointer (some ⟨tb, 0, none⟩), .agg #[.int .i64 x1, .int .i64 x2, .int .i64 y1, .int .i64 y2, .int .u32 bi], .func (.func F) #[] cb] W (AskP S W D (bandR cost R YS x1 x2 y1 y2)) := by
  have hb' := hA.blk
  rw [bandR_no cost R YS hb]
  have htl : tb < W.heap.size := Nat.lt_of_lt_of_le hA.tbr.2.1 hA.tbr.2.2.2.2
  have HQ : Hid (∀ W', Below W.heap.size W W' → AskP S W D ([], 0) (.returned (.int .i64 0)) W') := fun W' h => ⟨rfl, D, hst W' h, fun k h => .inl h, (KpS.refl _ _).below h⟩
  obtain ⟨w1, ew1⟩ : ∃ w1, w1 = W.alloc (.cells #[.int .i64 x1, .int .i64 x2, .int .i64 y1, .int .i64 y2, .int .u32 bi] 51) := ⟨_, rfl⟩
  have hb1 : Below W.heap.size W w1 := by rw [ew1]; exact (Below.refl _ _).alloc (Nat.le_refl _) _
  have hbx : w1.heap[W.heap.size]? = some (.cells #[.int .i64 x1, .int .i64 x2, .int .i64 y1, .int .i64 y2, .int .u32 bi] 51 (0, 0)) := by rw [ew1]; exact lit0 W _
  have hb2 := (hb1.block tb htl).trans hb'
  have c3 : w1.cell? ⟨tb, 3, none⟩ = some (.pointer (some ⟨fb, 0, none⟩)) := by simp [World.cell?, hb2]
  have b0 : w1.cell? ⟨W.heap.size, 0, none⟩ = some (.int .i64 x1) := by simp [World.cell?, hbx]
  have b1 : w1.cell? ⟨W.heap.size, 1, none⟩ = some (.int .i64 x2) := by simp [World.cell?, hbx]
  have b2 : w1.cell? ⟨W.heap.size, 2, none⟩ = some (.int .i64 y1) := by simp [World.cell?, hbx]
  have b3 : w1.cell? ⟨W.heap.size, 3, none⟩ = some (.int .i64 y2) := by simp [World.cell?, hbx]
  have CN := band_none tb fb w1 c3
  have HB1 := Lib.hid hb1
  clear hA hst hb2 hbx hb1 hb'
  by_cases h2 : x2 < x1
  · have f1 : decide (x1 > x2) = true := by simp; omega
    have f2 : decide (x2 < x1) = true := by simp; omega
    clear hb
    go_enter Tryz.func77, Tryz.ntmps77
    go_wp2_with fail
    rw [← ew1]
    clear ew1
    go_wp2_with (go_at_call 68; refine CN.mono ?_; rintro e w' ⟨rfl, rfl⟩)
    go_ret
    exact HQ.out _ HB1.out
  · have f1 : decide (x1 > x2) = false := by simp; omega
    have f2 : decide (x2 < x1) = false := by simp; omega
    have g1 : decide (y1 > y2) = true := by simp; omega
    have g2 : decide (y2 < y1) = true := by simp; omega
    clear hb
    go_enter Tryz.func77, Tryz.ntmps77
    go_wp2_with fail
    rw [← ew1]
    clear ew1
    go_wp2_with (go_at_call 68; refine CN.mono ?_; rintro e w' ⟨rfl, rfl⟩)
    go_ret
    exact HQ.out _ HB1.out

theorem take_flat {α β : Type} (f : α → List β) (l : List α) {i : Nat} (h : i < l.length) : (l.take (i + 1)).flatMap f = (l.take i).flatMap f ++ f l[i] := by
  rw [List.take_succ_eq_append_getElem h, List.flatMap_append, List.flatMap_cons, List.flatMap_nil, List.append_nil]
theorem take_flat_pre {α β : Type} (f : α → List β) (l : List α) (i : Nat) : (l.take i).flatMap f <+: l.flatMap f := ⟨(l.drop i).flatMap f, by rw [← List.flatMap_append, List.take_append_drop]⟩
theorem take_sum {α : Type} (c : α → Nat) (l : List α) {i : Nat} (h : i < l.length) : ((l.take (i + 1)).map c).sum = ((l.take i).map c).sum + c l[i] := by
  rw [List.take_succ_eq_append_getElem h, List.map_append, List.sum_append]; simp
theorem take_sum_le {α : Type} (c : α → Nat) (l : List α) (i : Nat) : ((l.take i).map c).sum ≤ (l.map c).sum := by
  conv => rhs; rw [← List.take_append_drop i l]
  rw [List.map_append, List.sum_append]
  omega

set_option maxRecDepth 100000 in
set_option maxHeartbeats 8000000 in
theorem band_each1 (F : Nat) (cb : Array Value) (cost : List Nat → Nat) (R : List Pt) (gone : List Bool) (YS : List Nat) (cnt : Nat) (V : BndV) (lo hi tb fb : Nat) (w0 W : World) (S : World → List Nat → (Nat → Prop) → Prop) (D : Nat → Prop) (x1 x2 y1 y2 bi : Int)
    (hA : BndAt w0 lo hi tb fb R gone cnt (lk (nds R.length) YS) V) (hx : x1 ≤ x2) (hy : y1 ≤ y2) (hR : R.length ≤ 20000)
    (hT : TldB F cb cost (yvR R) y1 y2 (nds R.length).length (lk (nds R.length) YS) V.LY V.LN w0 (bandR cost R YS x1 x2 y1 y2).1 S) (hS : S W [] D) (hcost : (bandR cost R YS x1 x2 y1 y2).2 ≤ 1000000) :
    Calls Tryz.prog 77 #[.pointer (some ⟨tb, 0, none⟩), .agg #[.int .i64 x1, .int .i64 x2, .int .i64 y1, .int .i64 y2, .int .u32 bi], .func (.func F) #[] cb] W (AskP S W D (bandR cost R YS x1 x2 y1 y2)) := by
  have hbase := hT.base W [] D hS
  have hAW := hA.below hbase hA.tbr.2.2.2.2
  have htl : tb < W.heap.size := Nat.lt_of_lt_of_le hAW.tbr.2.1 hAW.tbr.2.2.2.2
  have hfl : fb < W.heap.size := Nat.lt_of_lt_of_le hAW.tbr.2.2.2.1 hAW.tbr.2.2.2.2
  have hb' := hAW.blk
  obtain ⟨xa, xc, exv, -, -, rx⟩ := Rd.of_owns hAW.xs
  rw [exv] at hb'
  have lx : (xsR R).length ≤ 20000 := by unfold xsR; rw [List.length_map]; exact hR
  have hn0 : ¬ (x2 < x1 ∨ y2 < y1) := by omega
  have l1 := bsrch_lk (fun i => decide (x1 ≤ (xsR R).getD i 0)) (xsR R).length
  have l2 := bsrch_lk (fun i => decide (x2 < (xsR R).getD i 0)) (xsR R).length
  have CX1 := fun W' (hb : Below W.heap.size W W') => rFirst xa (xsR R) xc x1 W' (rx.below hb) (by omega)
  have CX2 := fun W' (hb : Below W.heap.size W W') => rAbove xa (xsR R) xc x2 W' (rx.below hb) (by omega)
  have l1' : (rkFirst (xsR R) x1).2 ≤ 20000 := by unfold rkFirst; omega
  have l2' : (rkAbove (xsR R) x2).2 ≤ 20000 := by unfold rkAbove; omega
  have hbr : bandR cost R YS x1 x2 y1 y2 = if bto R x2 ≤ bfr R x1 then ([], (rkFirst (xsR R) x1).2 + (rkAbove (xsR R) x2).2) else
    ((bcn R x1 x2).1.flatMap (fun k => btw (yvR R) y1 y2 (lk (nds R.length) YS k)), (rkFirst (xsR R) x1).2 + (rkAbove (xsR R) x2).2 + (bcn R x1 x2).2 + ((bcn R x1 x2).1.map fun k => cost (lk (nds R.length) YS k)).sum) := by unfold bandR; rw [if_neg hn0]
  have hfrn := bfr_len R x1
  have htrn := bto_len R x2
  have CCN : Hid (∀ W', Below W.heap.size W W' → bfr R x1 < bto R x2 → Calls Tryz.prog 117 #[.pointer (some ⟨fb, 0, none⟩), .int .i64 (bfr R x1), .int .i64 (bto R x2)] W' (CanP W' R.length (bfr R x1) (bto R x2))) := fun W' hb hlt => by
    have hf := hAW.below hb hAW.tbr.2.2.2.2
    exact frame_canon lo fb R.length (bfr R x1) (bto R x2) V.fv (by omega) hlt htrn W' hf.frm
  have hcl : Hid (bfr R x1 < bto R x2 → ∀ k ∈ (bcn R x1 x2).1, k < (nds R.length).length) := fun h k hk => by
    have h0 : 0 < R.length := by omega
    exact FT.canon_lt (mkT 0 R.length) 0 (nds_at _ h0) k hk
  have hcb : Hid (bfr R x1 < bto R x2 → (bcn R x1 x2).2 ≤ 40000 ∧ (bcn R x1 x2).1.length ≤ 40000) := fun h => by
    have h0 : 0 < R.length := by omega
    have h1 := FT.canon_size (bfr R x1) (bto R x2) (mkT 0 R.length) 0
    rw [mkT_size 0 R.length h0] at h1
    show ((mkT 0 R.length).canon 0 (bfr R x1) (bto R x2)).2 ≤ 40000 ∧ ((mkT 0 R.length).canon 0 (bfr R x1) (bto R x2)).1.length ≤ 40000
    omega
  have HBCN : Hid (bcn R x1 x2 = (mkT 0 R.length).canon 0 (bfr R x1) (bto R x2)) := rfl
  unfold CanP at CCN
  rw [← HBCN.out] at CCN
  have hlv := rowV hAW.lst
  have HAW := Lib.hid hAW
  have HL := Lib.hid (fun (W' : World) (hb : Below w0.heap.size w0 W') => (hA.below hb hA.tbr.2.2.2.2).lists)
  have HBK := Lib.hid (fun (W' : World) (hb : Below w0.heap.size w0 W') => (hA.below hb hA.tbr.2.2.2.2).blk)
  have HTT := Lib.hid hT
  have HSS := Lib.hid hS
  have HBASE := Lib.hid hbase
  have hM : (nds R.length).length ≤ 40000 := by rw [nds_len]; omega
  have HBR := Lib.hid hbr
  have HFR : Hid (bfr R x1 = (rkFirst (xsR R) x1).1 ∧ bto R x2 = (rkAbove (xsR R) x2).1) := ⟨rfl, rfl⟩
  have hcost2 := hcost
  rw [hbr] at hcost2
  have HCO := Lib.hid hcost2
  clear hbr hAW hA hT hS hbase rx l1 l2 hcost hcost2 hn0 exv
  obtain ⟨la, lc, elv⟩ := hlv
  rw [elv] at hb'
  have HELV := Lib.hid elv
  clear elv
  rw [← HFR.out.1] at CX1
  rw [← HFR.out.2] at CX2
  generalize bfr R x1 = fr at *
  generalize bto R x2 = tu at *
  generalize bcn R x1 x2 = CN at *
  generalize hr1 : (rkFirst (xsR R) x1).2 = r1 at *
  generalize hr2 : (rkAbove (xsR R) x2).2 = r2 at *
  generalize hlx : (xsR R).length = nx at *
  obtain ⟨w1, ew1⟩ : ∃ w1, w1 = W.alloc (.cells #[.int .i64 x1, .int .i64 x2, .int .i64 y1, .int .i64 y2, .int .u32 bi] 51) := ⟨_, rfl⟩
  have hb1 : Below W.heap.size W w1 := by rw [ew1]; exact (Below.refl _ _).alloc (Nat.le_refl _) _
  have hbx : w1.heap[W.heap.size]? = some (.cells #[.int .i64 x1, .int .i64 x2, .int .i64 y1, .int .i64 y2, .int .u32 bi] 51 (0, 0)) := by rw [ew1]; exact lit0 W _
  have hb2 := (hb1.block tb htl).trans hb'
  have c1 : w1.cell? ⟨tb, 1, none⟩ = some (.slice xa nx xc) := by simp [World.cell?, hb2, hlx]
  have c3 : w1.cell? ⟨tb, 3, none⟩ = some (.pointer (some ⟨fb, 0, none⟩)) := by simp [World.cell?, hb2]
  have b0 : w1.cell? ⟨W.heap.size, 0, none⟩ = some (.int .i64 x1) := by simp [World.cell?, hbx]
  have b1 : w1.cell? ⟨W.heap.size, 1, none⟩ = some (.int .i64 x2) := by simp [World.cell?, hbx]
  have b2 : w1.cell? ⟨W.heap.size, 2, none⟩ = some (.int .i64 y1) := by simp [World.cell?, hbx]
  have b3 : w1.cell? ⟨W.heap.size, 3, none⟩ = some (.int .i64 y2) := by simp [World.cell?, hbx]
  have CNN := band_none tb fb w1 c3
  have HB1 := Lib.hid hb1
  have f1 : decide (x1 > x2) = false := by simp; omega
  have f2 : decide (x2 < x1) = false := by simp; omega
  have g1 : decide (y1 > y2) = false := by simp; omega
  have g2 : decide (y2 < y1) = false := by simp; omega
  have HX1 := Lib.hid CX1
  have HX2 := Lib.hid CX2
  have hs1 : W.heap.size ≤ w1.heap.size := hb1.size
  clear hb2 hbx hb1 hb' CX1 CX2 hr1 hr2 hlx
  have htl1 : tb < w1.heap.size := Nat.lt_of_lt_of_le htl hs1
  have hbl1 : W.heap.size < w1.heap.size := by rw [ew1]; simp
  go_enter Tryz.func77, Tryz.ntmps77
  go_wp2_with fail
  rw [← ew1]
  clear ew1
  go_wp2_with (go_at_call 68; refine CNN.mono ?_; rintro e w' ⟨rfl, ew'⟩; subst w')
  have HC0 : Hid (∀ p : BelowW w1, Calls Tryz.prog 79 #[.slice xa nx xc, .int .i64 x1] p.W fun e w' => e = .returned (.tuple #[.int .i64 fr, .int .i64 r1]) ∧ Below p.W.heap.size p.W w') := fun p => HX1.out _ (HB1.out.trans (p.h.mono HB1.out.size))
  have kc1 := cell_belowW c1
  have kb0 := cell_belowW b0
  refine wp_region_below (by kernel_rfl) (by kernel_rfl) ?_
  repeat (quiet_step ((go_at_call 79; exact calls_below (HC0.out _))))
  refine wpQuiet_nil ?_
  intro w2 hw'
  have hbb : Below w1.heap.size w1 w2 := by obtain ⟨p, rfl⟩ := hw'; exact p.h
  have HB2N := Lib.hid (HB1.out.trans (hbb.mono HB1.out.size))
  have nc1 := (hbb.cell (p := ⟨tb, 1, none⟩) htl1).trans c1
  have nc3 := (hbb.cell (p := ⟨tb, 3, none⟩) htl1).trans c3
  have nb1 := (hbb.cell (p := ⟨W.heap.size, 1, none⟩) hbl1).trans b1
  have htl2 := Nat.lt_of_lt_of_le htl1 hbb.size
  have hbl2 := Nat.lt_of_lt_of_le hbl1 hbb.size
  clear hw' hbb HC0 kc1 kb0 c1 c3 b0 b1 b2 b3
  go_wp2_with fail
  have HC1 : Hid (∀ p : BelowW w2, Calls Tryz.prog 82 #[.slice xa nx xc, .int .i64 x2] p.W fun e w' => e = .returned (.tuple #[.int .i64 tu, .int .i64 r2]) ∧ Below p.W.heap.size p.W w') := fun p => HX2.out _ (HB2N.out.trans (p.h.mono HB2N.out.size))
  have kc1 := cell_belowW nc1
  have kb1 := cell_belowW nb1
  refine wp_region_below (by kernel_rfl) (by kernel_rfl) ?_
  repeat (quiet_step ((go_at_call 82; exact calls_below (HC1.out _))))
  refine wpQuiet_nil ?_
  intro w3 hw'
  have hbb : Below w2.heap.size w2 w3 := by obtain ⟨p, rfl⟩ := hw'; exact p.h
  have HB3N := Lib.hid (HB2N.out.trans (hbb.mono HB2N.out.size))
  have c3 := (hbb.cell (p := ⟨tb, 3, none⟩) htl2).trans nc3
  clear hw' hbb HC1 kc1 kb1 nc1 nc3 nb1
  by_cases hft : fr < tu
  rotate_left
  · have e1 : decide ((fr : Int) ≥ (tu : Int)) = true := by simp; omega
    have e2 : decide ((tu : Int) ≤ (fr : Int)) = true := by simp; omega
    have e3 : decide (tu ≤ fr) = true := by simp; omega
    have HBR2 : Hid (bandR cost R YS x1 x2 y1 y2 = ([], r1 + r2)) := by
      show _ = _
      rw [HBR.out, if_pos (by omega)]
    have HFIN : Hid (AskP S W D (bandR cost R YS x1 x2 y1 y2) (.returned (.int .i64 (r1 + r2 : Nat))) w3) := by
      show AskP _ _ _ _ _ _
      rw [HBR2.out]
      exact ⟨rfl, D, HTT.out.stable _ _ _ _ HSS.out HB3N.out, fun k h => .inl h, (KpS.refl _ _).below HB3N.out⟩
    clear hft
    go_wp2
    go_ret
    exact HFIN.out
  · have e1 : decide ((fr : Int) ≥ (tu : Int)) = false := by simp; omega
    have e2 : decide ((tu : Int) ≤ (fr : Int)) = false := by simp; omega
    have e3 : decide (tu ≤ fr) = false := by simp; omega
    have C1 := Lib.hid (CCN.out w3 HB3N.out hft)
    have HLT := Lib.hid (hcl.out hft)
    obtain ⟨hcn2, hcn1⟩ := hcb.out hft
    have hne : ¬ tu ≤ fr := by omega
    have HBR2 : Hid (bandR cost R YS x1 x2 y1 y2 = (CN.1.flatMap (fun k => btw (yvR R) y1 y2 (lk (nds R.length) YS k)), r1 + r2 + CN.2 + (CN.1.map fun k => cost (lk (nds R.length) YS k)).sum)) := by
      show _ = _
      rw [HBR.out, if_neg hne]
    have HCO2 : Hid (r1 + r2 + CN.2 + (CN.1.map fun k => cost (lk (nds R.length) YS k)).sum ≤ 1000000) := by
      have h9 := HCO.out
      rw [if_neg hne] at h9
      exact h9
    clear hft hne hcl hcb CCN HBR HCO HBCN HX1 HX2 HB1 HB2N
    go_wp2_with fail
    refine C1.out.mono ?_
    rintro e w4 ⟨v4, rfl, hown4, hb4⟩
    have HO4 := Lib.hid hown4
    have HB4 := Lib.hid (HB3N.out.trans (hb4.mono HB3N.out.size))
    have hs34 : W.heap.size ≤ w3.heap.size := HB3N.out.size
    obtain ⟨va, vc, rfl⟩ := rowV hown4
    have HS4 := Lib.hid (HTT.out.stable _ _ _ _ HSS.out HB4.out)
    have HDW := Lib.hid (HTT.out.lt _ _ _ HSS.out)
    have HVB := Lib.hid (hown4.lt)
    rw [HBR2.out]
    have htlb := HTT.out.told
    have HTOLD : Hid (∀ W' acc D' k, S W' acc D' → k < (nds R.length).length → acc ++ btw (yvR R) y1 y2 (lk (nds R.length) YS k) <+: CN.1.flatMap (fun k => btw (yvR R) y1 y2 (lk (nds R.length) YS k)) → Calls Tryz.prog F (#[.agg #[V.LY k, V.LN k]] ++ cb) W' fun e w' => e = .returned (.int .i64 (cost (lk (nds R.length) YS k) : Nat)) ∧ ∃ D'', S w' (acc ++ btw (yvR R) y1 y2 (lk (nds R.length) YS k)) D'' ∧ (∀ k, D'' k → D' k ∨ W'.heap.size ≤ k) ∧ KpS D' W' w') := fun W' acc D' k h1 h2 h3 => htlb W' acc D' k h1 h2 (by rw [HBR2.out]; exact h3)
    clear htlb c3 hown4 hb4 C1 e1 e2 e3 HSS HAW
    generalize hff : (fun k => btw (yvR R) y1 y2 (lk (nds R.length) YS k)) = f at *
    generalize hcc : (fun k => cost (lk (nds R.length) YS k)) = c at *
    have HFF : Hid (∀ k, btw (yvR R) y1 y2 (lk (nds R.length) YS k) = f k) := fun k => by rw [← hff]
    have HCC : Hid (∀ k, cost (lk (nds R.length) YS k) = c k) := fun k => by rw [← hcc]
    clear hff hcc
    have eg := HTT.out.enters
    have HBS := Lib.hid (HTT.out.base)
    have HNM : Hid ((nds R.length).length ≤ 40000) := hM
    clear HTT
    obtain ⟨cn, ce⟩ := CN
    simp only at HO4 HLT hcn1 hcn2 HTOLD HCO2 HBR2 ⊢
    obtain ⟨n4, hn4⟩ : ∃ n4, n4 = cn.length := ⟨_, rfl⟩
    rw [← hn4] at hcn1 ⊢
    have HN4 := Lib.hid hn4
    clear hn4
    go_wp2_with fail
    go_loopg [8, 75] n4 (fun kx s8 s75 wr => ∃ (i tc : Nat) (D' : Nat → Prop), s75 = .int .i64 i ∧ i ≤ n4 ∧ n4 - i ≤ kx ∧ s8 = .int .i64 tc ∧ Hid (tc = r1 + r2 + ce + ((cn.take i).map c).sum) ∧ Hid (S wr ((cn.take i).flatMap f) D') ∧ Hid (∀ k, D' k → D k ∨ w4.heap.size ≤ k) ∧ Hid (KpS D W wr) ∧ w4.heap.size ≤ wr.heap.size ∧ Hid (KpS D w4 wr))
    case atStart =>
      refine ⟨0, r1 + r2 + ce, D, rfl, Nat.zero_le _, by omega, by go_num, ?_, ?_, fun k h => .inl h, (KpS.refl _ _).below HB4.out, Nat.le_refl _, KpS.refl _ _⟩
      · show _ = _; simp
      · simp only [List.take_zero, List.flatMap_nil]; exact HS4.out
    case round =>
      obtain ⟨i, tc, D', rfl, hi, hkx, rfl, HTC, HS, HDD, HKW, hsz, HK4⟩ := hrel
      by_cases hlt : i < n4
      · have hil : i < cn.length := by have := HN4.out; omega
        have hrow := rowK HO4.out HK4.out (fun g e h => by
          have h1 := (HVB.out g e).1
          have h2 := (HDW.out g h).2
          omega)
        obtain ⟨gv, cv, egv, _, _⟩ := ownRow_at hrow (by omega)
        have hx := hrow
        rw [egv] at hx
        have x0 := hx.cellAt i (by omega)
        rw [List.getElem?_map, List.getElem?_eq_getElem hil] at x0
        simp only [Option.map_some, eNat] at x0
        have hkM := HLT.out cn[i] (List.getElem_mem hil)
        obtain ⟨gl, cl, e2, hgl, hcs⟩ := HL.out wr (HBS.out _ _ _ HS.out) (by omega)
        have hblk := HBK.out wr (HBS.out _ _ _ HS.out)
        obtain ⟨y0, y1'⟩ := hcs cn[i] hkM
        have q4 : wr.cell? ⟨tb, 4, none⟩ = some (.slice (some ⟨gl, 0, none⟩) (nds R.length).length cl) := by simp [World.cell?, hblk]; exact e2
        have hpre : (cn.take i).flatMap f ++ f cn[i] <+: cn.flatMap f := by rw [← take_flat f cn hil]; exact take_flat_pre f cn (i + 1)
        have CT := HTOLD.out wr _ D' cn[i] HS.out hkM (by rw [HFF.out]; exact hpre)
        rw [HFF.out, HCC.out, ← take_flat f cn hil] at CT
        have HTS := Lib.hid (take_sum c cn hil)
        have hbd : tc + c cn[i] ≤ 1000000 := by
          have h1 := HTC.out
          have h2 := take_sum_le c cn (i + 1)
          have h3 := HCO2.out
          have h4 := HTS.out
          omega
        have HCT := Lib.hid CT
        have hle := HNM.out
        injection egv with egv egv2 egv3
        have EG := Lib.hid egv
        clear egv egv2 egv3 hrow hx hcs e2 hblk hpre CT
        generalize cn[i] = k at *
        generalize V.LY k = ly at *
        generalize V.LN k = ln at *
        generalize (nds R.length).length = M at *
        generalize c k = ck at *
        obtain rfl := EG.out
        clear EG
        go_wp2_with (go_at_fn F; refine HCT.out.mono ?_; rintro e w6 ⟨rfl, D6, hS6, hD6, hK6⟩)
        go_roundg (n4 - (i + 1))
        case measure => omega
        case rel =>
          have KK : ∀ k, D' k → D k ∨ w4.heap.size ≤ k := HDD.out
          have hW4 := HB4.out.size
          refine ⟨i + 1, tc + ck, D6, by go_num, by omega, Nat.le_refl _, by go_num, ?_, hS6, fun k h => ?_, ?_, Nat.le_trans hsz hK6.size, ?_⟩
          · show _ = _; rw [HTS.out, HTC.out]; omega
          · rcases hD6 k h with h | h
            · exact KK k h
            · exact .inr (by omega)
          · exact ((HKW.out.mono fun k h => .inl h).trans (hK6.mono fun k h => (KK k h).imp id fun h => by omega)).strip
          · exact ((HK4.out.mono fun k h => .inl h).trans (hK6.mono fun k h => (KK k h).imp id fun h => by omega)).strip
      · obtain rfl : i = n4 := by omega
        have HFIN : Hid (AskP S W D (cn.flatMap f, r1 + r2 + ce + (cn.map c).sum) (.returned (.int .i64 tc)) wr) := by
          have h1 := HTC.out
          have h2 := HS.out
          rw [List.take_of_length_le (by have := HN4.out; omega)] at h1 h2
          exact ⟨by rw [h1], D', h2, fun k h => (HDD.out k h).imp id fun h => by have := HB4.out.size; omega, HKW.out⟩
        go_wp2
        go_ret
        rw [HBR2.out]
        exact HFIN.out

theorem band_each (F : Nat) (cb : Array Value) (cost : List Nat → Nat) (R : List Pt) (gone : List Bool) (YS : List Nat) (cnt : Nat) (V : BndV) (lo hi tb fb : Nat) (w0 W : World) (S : World → List Nat → (Nat → Prop) → Prop) (D : Nat → Prop) (x1 x2 y1 y2 bi : Int)
    (hA : BndAt w0 lo hi tb fb R gone cnt (lk (nds R.length) YS) V) (hR : R.length ≤ 20000) (hb : Below w0.heap.size w0 W) (hst : ∀ W', Below W.heap.size W W' → S W' [] D)
    (hT : y1 ≤ y2 → TldB F cb cost (yvR R) y1 y2 (nds R.length).length (lk (nds R.length) YS) V.LY V.LN w0 (bandR cost R YS x1 x2 y1 y2).1 S) (hS : S W [] D) (hcost : (bandR cost R YS x1 x2 y1 y2).2 ≤ 1000000) :
    Calls Tryz.prog 77 #[.pointer (some ⟨tb, 0, none⟩), .agg #[.int .i64 x1, .int .i64 x2, .int .i64 y1, .int .i64 y2, .int .u32 bi], .func (.func F) #[] cb] W (AskP S W D (bandR cost R YS x1 x2 y1 y2)) := by
  by_cases h : x2 < x1 ∨ y2 < y1
  · exact band_each0 F cb cost R gone YS cnt _ V lo hi tb fb W S D x1 x2 y1 y2 bi (hA.below hb hA.tbr.2.2.2.2) h hst
  · exact band_each1 F cb cost R gone YS cnt V lo hi tb fb w0 W S D x1 x2 y1 y2 bi hA (by omega) (by omega) hR (hT (by omega)) hS hcost
end Go.Proofs.YthpgkldpbbajfaaGreat
