/- gridironlaw12.awake answers true (printed by gen_l12w.py). -/
import Derived.Test.YthpgkldpbbajfaaGreatL12s
import Derived.Test.YthpgkldpbbajfaaGreatQ10
import Derived.Deep.CutRange
import Derived.Deep.RegionWith
namespace Go.Proofs.YthpgkldpbbajfaaGreat
open Go.RowKit Go.Maps
attribute [local irreducible] wpQuiet
set_option linter.unusedSimpArgs false
set_option linter.unusedVariables false

theorem aw1 : hasN [(0, 0, 1), (2, 5, 2), (2, 1, 3), (7, 3, 4)] (crnF 2 1 true true) = [2, 3, 4] := by
  unfold hasN
  rw [show ids (([(0, 0, 1), (2, 5, 2), (2, 1, 3), (7, 3, 4)] : List Pt).filter (crnF 2 1 true true)) = [2, 3, 4] by decide]
  exact srtI_of (by decide) (List.Perm.refl _)
theorem aw2 : hasN [(0, 0, 1), (2, 5, 2), (2, 1, 3), (7, 3, 4)] (crnF 2 1 false true) = [2, 3] := by
  unfold hasN
  rw [show ids (([(0, 0, 1), (2, 5, 2), (2, 1, 3), (7, 3, 4)] : List Pt).filter (crnF 2 1 false true)) = [2, 3] by decide]
  exact srtI_of (by decide) (List.Perm.refl _)
theorem aw3 : hasN [(0, 0, 1), (2, 5, 2), (2, 1, 3), (7, 3, 4)] (fun q => ovr q (0, 0, 1)) = [2, 3, 4] := by
  unfold hasN
  rw [show ids (([(0, 0, 1), (2, 5, 2), (2, 1, 3), (7, 3, 4)] : List Pt).filter (fun q => ovr q (0, 0, 1))) = [2, 3, 4] by decide]
  exact srtI_of (by decide) (List.Perm.refl _)
theorem aw4 : hasN [(0, 0, 1), (2, 5, 2), (2, 1, 3), (7, 3, 4)] (fun q => ovr q (2, 5, 2)) = [] := by
  unfold hasN
  rw [show ids (([(0, 0, 1), (2, 5, 2), (2, 1, 3), (7, 3, 4)] : List Pt).filter (fun q => ovr q (2, 5, 2))) = [] by decide]
  exact srtI_of (by decide) (List.Perm.refl _)
theorem aw5 : hasN [(0, 0, 1), (2, 5, 2), (2, 1, 3), (7, 3, 4)] (fun q => ovr q (2, 1, 3)) = [2, 4] := by
  unfold hasN
  rw [show ids (([(0, 0, 1), (2, 5, 2), (2, 1, 3), (7, 3, 4)] : List Pt).filter (fun q => ovr q (2, 1, 3))) = [2, 4] by decide]
  exact srtI_of (by decide) (List.Perm.refl _)
theorem aw6 : hasN [(0, 0, 1), (2, 5, 2), (2, 1, 3), (7, 3, 4)] (ovr (7, 3, 4)) = [1, 3] := by
  unfold hasN
  rw [show ids (([(0, 0, 1), (2, 5, 2), (2, 1, 3), (7, 3, 4)] : List Pt).filter (ovr (7, 3, 4))) = [1, 3] by decide]
  exact srtI_of (by decide) (List.Perm.refl _)

set_option maxRecDepth 100000 in
set_option maxHeartbeats 8000000 in
theorem awake12 (w : World) : Calls Tryz.prog 20 #[] w fun e w' => e = .returned (.bool true) ∧ Below w.heap.size w w' := by
  have LI := Lib.hid (RdK.lit (sz := 3) ePt_len)
  have HL : Hid (wfL [(0, 0, 1), (2, 5, 2), (2, 1, 3), (7, 3, 4)]) := Lib.hid (by unfold wfL; decide)
  go_enter Tryz.func20, Tryz.ntmps20
  go_wp2_with fail
  have RL := LI.out w 34 [(0, 0, 1), (2, 5, 2), (2, 1, 3), (7, 3, 4)] w.heap.size rfl
  have X0 : (w.alloc (.cells #[.int .i64 0, .int .i64 0, .int .u32 1, .int .i64 2, .int .i64 5, .int .u32 2, .int .i64 2, .int .i64 1, .int .u32 3, .int .i64 7, .int .i64 3, .int .u32 4] 34)).heap[w.heap.size]? = some (.cells #[.int .i64 0, .int .i64 0, .int .u32 1, .int .i64 2, .int .i64 5, .int .u32 2, .int .i64 2, .int .i64 1, .int .u32 3, .int .i64 7, .int .i64 3, .int .u32 4] 34 (0, 0)) := lit0 _ _
  have B0 : Below w.heap.size w (w.alloc (.cells #[.int .i64 0, .int .i64 0, .int .u32 1, .int .i64 2, .int .i64 5, .int .u32 2, .int .i64 2, .int .i64 1, .int .u32 3, .int .i64 7, .int .i64 3, .int .u32 4] 34)) := (Below.refl _ _).alloc (Nat.le_refl _) _
  have c := coBuild _ 4 [(0, 0, 1), (2, 5, 2), (2, 1, 3), (7, 3, 4)] _ RL (by decide) (by unfold wfN; decide) (by decide)
  simp only [List.flatMap_cons, List.flatMap_nil, List.append_nil, ePt, List.cons_append, List.nil_append, List.length_cons, List.length_nil, Nat.zero_add, Nat.reduceAdd] at c
  refine c.mono ?_
  rintro e w1 ⟨cb, rfl, T1, hb1⟩
  have X1 := (hb1.block _ (by simp)).trans X0
  have B1 : Below w.heap.size w w1 := B0.trans (hb1.mono (by simp))
  clear c B0 RL hb1 X0
  go_wp2_with fail
  have c := coReport T1 HL.out 2 1 true true 3 rfl
  rw [aw1] at c
  refine c.mono ?_
  rintro e w2 ⟨v2, c2, rfl, -, hown2, hb2⟩
  obtain ⟨a2, k2, rfl, -, -, hr2⟩ := Rd.of_owns (l := [2, 3, 4]) (enc := Value.int .u32) hown2
  have B2 := B1.trans (hb2.mono B1.size)
  have T2 := T1.below hb2 T1.hi_le
  have X2 := (hb2.block _ (Array.getElem?_eq_some_iff.1 X1).1).trans X1
  have R2_2 := Lib.hid hr2
  clear c hr2 hown2 hb2 B1 T1 X1
  go_wp2_with fail
  have c := coReport T2 HL.out 2 1 false true 2 rfl
  rw [aw2] at c
  refine c.mono ?_
  rintro e w3 ⟨v3, c3, rfl, -, hown3, hb3⟩
  obtain ⟨a3, k3, rfl, -, -, hr3⟩ := Rd.of_owns (l := [2, 3]) (enc := Value.int .u32) hown3
  have B3 := B2.trans (hb3.mono B2.size)
  have T3 := T2.below hb3 T2.hi_le
  have X3 := (hb3.block _ (Array.getElem?_eq_some_iff.1 X2).1).trans X2
  have R2_3 := Lib.hid (R2_2.out.below hb3)
  have R3_3 := Lib.hid hr3
  clear c hr3 hown3 hb3 B2 T2 X2 R2_2
  go_wp2_with fail
  have c := coReport_no T3 2 1 4 (by decide)
  refine c.mono ?_
  rintro e w4 ⟨rfl, rfl⟩
  clear c
  have B4 := B3
  have T4 := T3
  have X4 := X3
  have R2_4 := R2_3
  have R3_4 := R3_3
  clear B3 T3 X3 R2_3 R3_3
  have y0 : w4.cell? ⟨w.heap.size, 0, none⟩ = some (.int .i64 0) := by simp [World.cell?, X4]
  have y1 : w4.cell? ⟨w.heap.size, 1, none⟩ = some (.int .i64 0) := by simp [World.cell?, X4]
  have y2 : w4.cell? ⟨w.heap.size, 2, none⟩ = some (.int .u32 1) := by simp [World.cell?, X4]
  have XH := Lib.hid X4
  clear X4
  go_wp2_with fail
  have X4 := XH.out
  clear XH y0 y1 y2
  have c := coOver T4 HL.out 0 0 1 (by decide) (by decide)
  rw [aw3] at c
  refine c.mono ?_
  rintro e w5 ⟨v5, c5, rfl, -, hown5, hb5⟩
  obtain ⟨a5, k5, rfl, -, -, hr5⟩ := Rd.of_owns (l := [2, 3, 4]) (enc := Value.int .u32) hown5
  have B5 := B4.trans (hb5.mono B4.size)
  have T5 := T4.below hb5 T4.hi_le
  have X5 := (hb5.block _ (Array.getElem?_eq_some_iff.1 X4).1).trans X4
  have R2_5 := Lib.hid (R2_4.out.below hb5)
  have R3_5 := Lib.hid (R3_4.out.below hb5)
  have R5_5 := Lib.hid hr5
  clear c hr5 hown5 hb5 B4 T4 X4 R2_4 R3_4
  have y0 : w5.cell? ⟨w.heap.size, 3, none⟩ = some (.int .i64 2) := by simp [World.cell?, X5]
  have y1 : w5.cell? ⟨w.heap.size, 4, none⟩ = some (.int .i64 5) := by simp [World.cell?, X5]
  have y2 : w5.cell? ⟨w.heap.size, 5, none⟩ = some (.int .u32 2) := by simp [World.cell?, X5]
  have XH := Lib.hid X5
  clear X5
  go_wp2_with fail
  have X5 := XH.out
  clear XH y0 y1 y2
  have c := coOver T5 HL.out 2 5 2 (by decide) (by decide)
  rw [aw4] at c
  refine c.mono ?_
  rintro e w6 ⟨v6, c6, rfl, -, hown6, hb6⟩
  obtain ⟨a6, k6, rfl, -, -, hr6⟩ := Rd.of_owns (l := ([] : List Int)) (enc := Value.int .u32) hown6
  have B6 := B5.trans (hb6.mono B5.size)
  have T6 := T5.below hb6 T5.hi_le
  have X6 := (hb6.block _ (Array.getElem?_eq_some_iff.1 X5).1).trans X5
  have R2_6 := Lib.hid (R2_5.out.below hb6)
  have R3_6 := Lib.hid (R3_5.out.below hb6)
  have R5_6 := Lib.hid (R5_5.out.below hb6)
  have R6_6 := Lib.hid hr6
  clear c hr6 hown6 hb6 B5 T5 X5 R2_5 R3_5 R5_5
  have y0 : w6.cell? ⟨w.heap.size, 6, none⟩ = some (.int .i64 2) := by simp [World.cell?, X6]
  have y1 : w6.cell? ⟨w.heap.size, 7, none⟩ = some (.int .i64 1) := by simp [World.cell?, X6]
  have y2 : w6.cell? ⟨w.heap.size, 8, none⟩ = some (.int .u32 3) := by simp [World.cell?, X6]
  have XH := Lib.hid X6
  clear X6
  go_wp2_with fail
  have X6 := XH.out
  clear XH y0 y1 y2
  have c := coOver T6 HL.out 2 1 3 (by decide) (by decide)
  rw [aw5] at c
  refine c.mono ?_
  rintro e w7 ⟨v7, c7, rfl, -, hown7, hb7⟩
  obtain ⟨a7, k7, rfl, -, -, hr7⟩ := Rd.of_owns (l := [2, 4]) (enc := Value.int .u32) hown7
  have B7 := B6.trans (hb7.mono B6.size)
  have T7 := T6.below hb7 T6.hi_le
  have X7 := (hb7.block _ (Array.getElem?_eq_some_iff.1 X6).1).trans X6
  have R2_7 := Lib.hid (R2_6.out.below hb7)
  have R3_7 := Lib.hid (R3_6.out.below hb7)
  have R5_7 := Lib.hid (R5_6.out.below hb7)
  have R6_7 := Lib.hid (R6_6.out.below hb7)
  have R7_7 := Lib.hid hr7
  clear c hr7 hown7 hb7 B6 T6 X6 R2_6 R3_6 R5_6 R6_6
  have y0 : w7.cell? ⟨w.heap.size, 9, none⟩ = some (.int .i64 7) := by simp [World.cell?, X7]
  have y1 : w7.cell? ⟨w.heap.size, 10, none⟩ = some (.int .i64 3) := by simp [World.cell?, X7]
  have y2 : w7.cell? ⟨w.heap.size, 11, none⟩ = some (.int .u32 4) := by simp [World.cell?, X7]
  have XH := Lib.hid X7
  clear X7
  go_wp2_with fail
  have X7 := XH.out
  clear XH y0 y1 y2
  have c := coUnder T7 HL.out 7 3 4 (by decide) (by decide)
  rw [aw6] at c
  refine c.mono ?_
  rintro e w8 ⟨v8, c8, rfl, -, hown8, hb8⟩
  obtain ⟨a8, k8, rfl, -, -, hr8⟩ := Rd.of_owns (l := [1, 3]) (enc := Value.int .u32) hown8
  have B8 := B7.trans (hb8.mono B7.size)
  have T8 := T7.below hb8 T7.hi_le
  have X8 := (hb8.block _ (Array.getElem?_eq_some_iff.1 X7).1).trans X7
  have R2_8 := Lib.hid (R2_7.out.below hb8)
  have R3_8 := Lib.hid (R3_7.out.below hb8)
  have R5_8 := Lib.hid (R5_7.out.below hb8)
  have R6_8 := Lib.hid (R6_7.out.below hb8)
  have R7_8 := Lib.hid (R7_7.out.below hb8)
  have R8_8 := Lib.hid hr8
  clear c hr8 hown8 hb8 B7 T7 X7 R2_7 R3_7 R5_7 R6_7 R7_7
  clear T8 X8 HL
  go_wp2_with fail
  have c := same12 a2 (some ⟨w8.heap.size, 0, none⟩) [2, 3, 4] [2, 3, 4] 3 3 k2 3 (w8.alloc (.cells #[.int .u32 2, .int .u32 3, .int .u32 4] 32)) rfl rfl (R2_8.out.below ((Below.refl _ _).alloc (Nat.le_refl _) _)) (Rd.lit (enc := Value.int .u32) w8 32 [2, 3, 4] _ rfl) (by decide) (by decide)
  refine c.mono ?_
  rintro e w9 ⟨rfl, hb9⟩
  have b9 : Below w8.heap.size w8 w9 := (((Below.refl _ _).alloc (Nat.le_refl _) _).trans (hb9.mono (by simp)))
  have B9 := B8.trans (b9.mono B8.size)
  have R2_9 := Lib.hid (R2_8.out.below b9)
  have R3_9 := Lib.hid (R3_8.out.below b9)
  have R5_9 := Lib.hid (R5_8.out.below b9)
  have R7_9 := Lib.hid (R7_8.out.below b9)
  have R8_9 := Lib.hid (R8_8.out.below b9)
  clear c hb9 b9 B8 R2_8 R3_8 R5_8 R7_8 R8_8
  go_wp2_with fail
  have c := same12 a3 (some ⟨w9.heap.size, 0, none⟩) [2, 3] [2, 3] 2 2 k3 2 (w9.alloc (.cells #[.int .u32 2, .int .u32 3] 32)) rfl rfl (R3_9.out.below ((Below.refl _ _).alloc (Nat.le_refl _) _)) (Rd.lit (enc := Value.int .u32) w9 32 [2, 3] _ rfl) (by decide) (by decide)
  refine c.mono ?_
  rintro e w10 ⟨rfl, hb10⟩
  have b10 : Below w9.heap.size w9 w10 := (((Below.refl _ _).alloc (Nat.le_refl _) _).trans (hb10.mono (by simp)))
  have B10 := B9.trans (b10.mono B9.size)
  have R2_10 := Lib.hid (R2_9.out.below b10)
  have R3_10 := Lib.hid (R3_9.out.below b10)
  have R5_10 := Lib.hid (R5_9.out.below b10)
  have R7_10 := Lib.hid (R7_9.out.below b10)
  have R8_10 := Lib.hid (R8_9.out.below b10)
  clear c hb10 b10 B9 R2_9 R3_9 R5_9 R7_9 R8_9
  go_wp2_with fail
  have c := same12 a5 (some ⟨w10.heap.size, 0, none⟩) [2, 3, 4] [2, 3, 4] 3 3 k5 3 (w10.alloc (.cells #[.int .u32 2, .int .u32 3, .int .u32 4] 32)) rfl rfl (R5_10.out.below ((Below.refl _ _).alloc (Nat.le_refl _) _)) (Rd.lit (enc := Value.int .u32) w10 32 [2, 3, 4] _ rfl) (by decide) (by decide)
  refine c.mono ?_
  rintro e w11 ⟨rfl, hb11⟩
  have b11 : Below w10.heap.size w10 w11 := (((Below.refl _ _).alloc (Nat.le_refl _) _).trans (hb11.mono (by simp)))
  have B11 := B10.trans (b11.mono B10.size)
  have R2_11 := Lib.hid (R2_10.out.below b11)
  have R3_11 := Lib.hid (R3_10.out.below b11)
  have R5_11 := Lib.hid (R5_10.out.below b11)
  have R7_11 := Lib.hid (R7_10.out.below b11)
  have R8_11 := Lib.hid (R8_10.out.below b11)
  clear c hb11 b11 B10 R2_10 R3_10 R5_10 R7_10 R8_10
  go_wp2_with fail
  have c := same12 a7 (some ⟨w11.heap.size, 0, none⟩) [2, 4] [2, 4] 2 2 k7 2 (w11.alloc (.cells #[.int .u32 2, .int .u32 4] 32)) rfl rfl (R7_11.out.below ((Below.refl _ _).alloc (Nat.le_refl _) _)) (Rd.lit (enc := Value.int .u32) w11 32 [2, 4] _ rfl) (by decide) (by decide)
  refine c.mono ?_
  rintro e w12 ⟨rfl, hb12⟩
  have b12 : Below w11.heap.size w11 w12 := (((Below.refl _ _).alloc (Nat.le_refl _) _).trans (hb12.mono (by simp)))
  have B12 := B11.trans (b12.mono B11.size)
  have R2_12 := Lib.hid (R2_11.out.below b12)
  have R3_12 := Lib.hid (R3_11.out.below b12)
  have R5_12 := Lib.hid (R5_11.out.below b12)
  have R7_12 := Lib.hid (R7_11.out.below b12)
  have R8_12 := Lib.hid (R8_11.out.below b12)
  clear c hb12 b12 B11 R2_11 R3_11 R5_11 R7_11 R8_11
  go_wp2_with fail
  have c := same12 a8 (some ⟨w12.heap.size, 0, none⟩) [1, 3] [1, 3] 2 2 k8 2 (w12.alloc (.cells #[.int .u32 1, .int .u32 3] 32)) rfl rfl (R8_12.out.below ((Below.refl _ _).alloc (Nat.le_refl _) _)) (Rd.lit (enc := Value.int .u32) w12 32 [1, 3] _ rfl) (by decide) (by decide)
  refine c.mono ?_
  rintro e w13 ⟨rfl, hb13⟩
  have b13 : Below w12.heap.size w12 w13 := (((Below.refl _ _).alloc (Nat.le_refl _) _).trans (hb13.mono (by simp)))
  have B13 := B12.trans (b13.mono B12.size)
  have R2_13 := Lib.hid (R2_12.out.below b13)
  have R3_13 := Lib.hid (R3_12.out.below b13)
  have R5_13 := Lib.hid (R5_12.out.below b13)
  have R7_13 := Lib.hid (R7_12.out.below b13)
  have R8_13 := Lib.hid (R8_12.out.below b13)
  clear c hb13 b13 B12 R2_12 R3_12 R5_12 R7_12 R8_12
  go_wp2_with fail
  go_ret
  exact ⟨rfl, B13⟩
end Go.Proofs.YthpgkldpbbajfaaGreat
