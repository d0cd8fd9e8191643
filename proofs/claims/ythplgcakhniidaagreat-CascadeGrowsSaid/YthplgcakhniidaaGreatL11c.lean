/- The law CascadeCorners, walked. -/
import Derived.Test.YthplgcakhniidaaGreatQ7
namespace Go.Proofs.YthplgcakhniidaaGreat
open Go.RowKit Go.Maps
attribute [local irreducible] wpQuiet
set_option linter.unusedSimpArgs false
set_option linter.unusedVariables false

theorem TreeAt.few {w : World} {lo hi tb n0 : Nat} {l : List Pt} (h : TreeAt w lo hi tb n0 l) : l.length ≤ n0 ∧ n0 ≤ 20000 := by
  obtain ⟨fb, R, gone, YS, V, h1, h2, h3, h4, h5⟩ := h
  have := h2.lenY
  have := h3.len h2
  omega

/-- how many a box has, by what is up to its corners -/
theorem cnt_corners (l : List Pt) (m x1 x2 y1 y2 : Int) (h1 : m < x1) (h2 : m < y1) (hx : x1 ≤ x2) (hy : y1 ≤ y2) :
    ((l.filter (inB x1 x2 y1 y2)).length : Int) = (l.filter (inB m x2 m y2)).length - (l.filter (inB m (x1 - 1) m y2)).length - (l.filter (inB m x2 m (y1 - 1))).length + (l.filter (inB m (x1 - 1) m (y1 - 1))).length := by
  induction l with
  | nil => rfl
  | cons p l ih =>
    simp only [List.filter_cons]
    unfold inB at ih ⊢
    obtain ⟨px, py, pi⟩ := p
    simp only [decide_eq_true_eq] at ih ⊢
    split <;> split <;> split <;> split <;> split <;> (try simp only [List.length_cons]) <;> omega

theorem box_no {l : Nat} {m x1 x2 y1 y2 : Int} : (decide (100 < (l : Int)) = true) ∨ (decide (100 < (l : Int)) = false ∧ (x1 == m) = true) ∨ (decide (100 < (l : Int)) = false ∧ (x1 == m) = false ∧ (y1 == m) = true) ∨
    (decide (100 < (l : Int)) = false ∧ (x1 == m) = false ∧ (y1 == m) = false ∧ decide (x2 < x1) = true) ∨ (decide (100 < (l : Int)) = false ∧ (x1 == m) = false ∧ (y1 == m) = false ∧ decide (x2 < x1) = false ∧ decide (y2 < y1) = true) ∨
    (decide (100 < (l : Int)) = false ∧ (x1 == m) = false ∧ (y1 == m) = false ∧ decide (x2 < x1) = false ∧ decide (y2 < y1) = false) := by
  simp only [decide_eq_true_eq, decide_eq_false_iff_not, beq_iff_eq, beq_eq_false_iff_ne]
  omega

set_option maxRecDepth 100000 in
set_option maxHeartbeats 8000000 in
theorem wCascadeCorners (a : Option Addr) (l : List Pt) (n c : Nat) (bx : Bx) (b : Option Addr) (D : List Int) (m c' : Nat) (w : World) (hn : l.length = n) (h : RdK ePt 3 w a l) (hc : n ≤ c ∧ c ≤ maxLen) (hf : ∀ p ∈ l, (Lit.int .i64 p.1).wf = true ∧ (Lit.int .i64 p.2.1).wf = true ∧ (Lit.int .u32 p.2.2).wf = true) (hb : bx.wf)
    (hm : D.length = m) (h' : Rd (.int .u8) w b D) (hc' : m ≤ c' ∧ c' ≤ maxLen) (hD : ∀ x ∈ D, (Lit.int .u8 x).wf = true) :
    Calls Tryz.prog 4 #[.slice a n c, vBx bx, .slice b m c'] w fun e w' => e = .returned (.bool true) ∧ Below w.heap.size w w' := by
  obtain ⟨x1, x2, y1, y2, bi⟩ := bx
  subst hn hm
  obtain ⟨v1, v2, v3, v4, v5⟩ := hb
  have bd : -9223372036854775808 ≤ x1 ∧ x1 ≤ 9223372036854775807 ∧ -9223372036854775808 ≤ y1 ∧ y1 ≤ 9223372036854775807 := by
    simp [Lit.wf, IntKind.min, IntKind.max, IntKind.signed, IntKind.bits] at v1 v3
    omega
  have hw : wfN l := fun p hp => (hf p hp).2.2
  obtain ⟨w1, ew1⟩ : ∃ w1, w1 = w.alloc (.cells #[.int .i64 x1, .int .i64 x2, .int .i64 y1, .int .i64 y2, .int .u32 bi] 39) := ⟨_, rfl⟩
  have B1 : Below w.heap.size w w1 := by rw [ew1]; exact (Below.refl _ _).alloc (Nat.le_refl _) _
  have X1 : w1.heap[w.heap.size]? = some (.cells #[.int .i64 x1, .int .i64 x2, .int .i64 y1, .int .i64 y2, .int .u32 bi] 39 (0, 0)) := by rw [ew1]; exact lit0 _ _
  have hs1 : w.heap.size < w1.heap.size := (Array.getElem?_eq_some_iff.1 X1).1
  have hc0 := hc.1
  clear v1 v2 v3 v4 v5 hc
  have cells : ∀ W : World, W.heap[w.heap.size]? = some (.cells #[.int .i64 x1, .int .i64 x2, .int .i64 y1, .int .i64 y2, .int .u32 bi] 39 (0, 0)) → W.cell? ⟨w.heap.size, 0, none⟩ = some (.int .i64 x1) ∧ W.cell? ⟨w.heap.size, 1, none⟩ = some (.int .i64 x2) ∧ W.cell? ⟨w.heap.size, 2, none⟩ = some (.int .i64 y1) ∧ W.cell? ⟨w.heap.size, 3, none⟩ = some (.int .i64 y2) ∧ W.cell? ⟨w.heap.size, 4, none⟩ = some (.int .u32 bi) := fun W hW => by simp [World.cell?, hW]
  have CL := Lib.hid cells
  obtain ⟨z0, z1, z2, z3, z4⟩ := cells w1 X1
  have AW := Lib.hid (awake11 w1)
  have EX := ew1.symm
  clear ew1
  rcases box_no (l := l.length) (m := -9223372036854775808) (x1 := x1) (x2 := x2) (y1 := y1) (y2 := y2) with d0 | ⟨d0, d1⟩ | ⟨d0, d1, d2⟩ | ⟨d0, d1, d2, d3⟩ | ⟨d0, d1, d2, d3, d4⟩ | ⟨d0, d1, d2, d3, d4⟩
  iterate 5
    (clear cells bd
     go_enter Tryz.func4, Tryz.ntmps4
     go_wp2_with (go_at_call 20; (try rw [EX]); refine AW.out.mono ?_; rintro e w2 ⟨rfl, hb2⟩)
     go_ret
     exact ⟨rfl, B1.trans (hb2.mono B1.size)⟩)
  have hlen : l.length ≤ 100 := by simp at d0; omega
  have hx1 : -9223372036854775808 < x1 := by simp at d1; omega
  have hy1 : -9223372036854775808 < y1 := by simp at d2; omega
  have hxx : x1 ≤ x2 := by simp at d3; omega
  have hyy : y1 ≤ y2 := by simp at d4; omega
  have HR1 := Lib.hid (h.below B1)
  have HR2 := Lib.hid (h'.below B1)
  clear cells h h'
  rcases Bool.eq_false_or_eq_true (unl l) with hu | hu
  · have cd := Lib.hid (dropped11_ok a b l D _ _ c c' w1 rfl rfl hc' HR1.out HR2.out hD (by omega) hw hu)
    clear HR1 HR2 hD hw hu hf
    go_enter Tryz.func4, Tryz.ntmps4
    go_wp2_with (go_at_call 21; (try rw [EX]); refine cd.out.mono ?_; rintro e w2 ⟨tb, lo, hi, l', rfl, T2, hlo, hb2⟩; have X2 := (hb2.block _ hs1).trans X1; obtain ⟨z0, z1, z2, z3, z4⟩ := CL.out w2 X2)
    have few := T2.few
    have hcc := cnt_corners l' (-9223372036854775808) x1 x2 y1 y2 hx1 hy1 hxx hyy
    have CNT := Lib.hid (fun (W : World) (hT : TreeAt W lo hi tb l.length l') x1 x2 y1 y2 bi => tCount hT x1 x2 y1 y2 bi)
    have B2 := B1.trans (hb2.mono B1.size)
    have hs2 : w.heap.size < w2.heap.size := (Array.getElem?_eq_some_iff.1 X2).1
    clear hb2 X1 AW
    refine (CNT.out w2 T2 x1 x2 y1 y2 bi).mono ?_
    rintro e w3 ⟨⟨q2, rfl, -⟩, hb3⟩
    have B3 := B2.trans (hb3.mono B2.size)
    have T3 := T2.below hb3 T2.hi_le
    have X3 := (hb3.block _ hs2).trans X2
    have hs3 : w.heap.size < w3.heap.size := (Array.getElem?_eq_some_iff.1 X3).1
    clear hb3 B2 T2 X2 hs2 z0 z1 z2 z3 z4
    obtain ⟨z0, z1, z2, z3, z4⟩ := CL.out w3 X3
    go_wp2_with fail
    refine (CNT.out w3 T3 (-9223372036854775808) x2 (-9223372036854775808) y2 0).mono ?_
    rintro e w4 ⟨⟨q3, rfl, -⟩, hb4⟩
    have B4 := B3.trans (hb4.mono B3.size)
    have T4 := T3.below hb4 T3.hi_le
    have X4 := (hb4.block _ hs3).trans X3
    have hs4 : w.heap.size < w4.heap.size := (Array.getElem?_eq_some_iff.1 X4).1
    clear hb4 B3 T3 X3 hs3 z0 z1 z2 z3 z4
    obtain ⟨z0, z1, z2, z3, z4⟩ := CL.out w4 X4
    go_wp2_with fail
    refine (CNT.out w4 T4 (-9223372036854775808) (x1 - 1) (-9223372036854775808) y2 0).mono ?_
    rintro e w5 ⟨⟨q4, rfl, -⟩, hb5⟩
    have B5 := B4.trans (hb5.mono B4.size)
    have T5 := T4.below hb5 T4.hi_le
    have X5 := (hb5.block _ hs4).trans X4
    have hs5 : w.heap.size < w5.heap.size := (Array.getElem?_eq_some_iff.1 X5).1
    clear hb5 B4 T4 X4 hs4 z0 z1 z2 z3 z4
    obtain ⟨z0, z1, z2, z3, z4⟩ := CL.out w5 X5
    go_wp2_with fail
    refine (CNT.out w5 T5 (-9223372036854775808) x2 (-9223372036854775808) (y1 - 1) 0).mono ?_
    rintro e w6 ⟨⟨q5, rfl, -⟩, hb6⟩
    have B6 := B5.trans (hb6.mono B5.size)
    have T6 := T5.below hb6 T5.hi_le
    have X6 := (hb6.block _ hs5).trans X5
    have hs6 : w.heap.size < w6.heap.size := (Array.getElem?_eq_some_iff.1 X6).1
    clear hb6 B5 T5 X5 hs5 z0 z1 z2 z3 z4
    obtain ⟨z0, z1, z2, z3, z4⟩ := CL.out w6 X6
    go_wp2_with fail
    refine (CNT.out w6 T6 (-9223372036854775808) (x1 - 1) (-9223372036854775808) (y1 - 1) 0).mono ?_
    rintro e w7 ⟨⟨q6, rfl, -⟩, hb7⟩
    have B7 := B6.trans (hb7.mono B6.size)
    have T7 := T6.below hb7 T6.hi_le
    have X7 := (hb7.block _ hs6).trans X6
    have hs7 : w.heap.size < w7.heap.size := (Array.getElem?_eq_some_iff.1 X7).1
    clear hb7 B6 T6 X6 hs6 z0 z1 z2 z3 z4
    obtain ⟨z0, z1, z2, z3, z4⟩ := CL.out w7 X7
    have lim : ∀ f : Pt → Bool, (l'.filter f).length ≤ 20000 := fun f => by have := List.length_filter_le f l'; omega
    have m0 := lim (inB x1 x2 y1 y2)
    have m1 := lim (inB (-9223372036854775808) x2 (-9223372036854775808) y2)
    have m2 := lim (inB (-9223372036854775808) (x1 - 1) (-9223372036854775808) y2)
    have m3 := lim (inB (-9223372036854775808) x2 (-9223372036854775808) (y1 - 1))
    have m4 := lim (inB (-9223372036854775808) (x1 - 1) (-9223372036854775808) (y1 - 1))
    generalize (l'.filter (inB x1 x2 y1 y2)).length = g0 at *
    generalize (l'.filter (inB (-9223372036854775808) x2 (-9223372036854775808) y2)).length = g1 at *
    generalize (l'.filter (inB (-9223372036854775808) (x1 - 1) (-9223372036854775808) y2)).length = g2 at *
    generalize (l'.filter (inB (-9223372036854775808) x2 (-9223372036854775808) (y1 - 1))).length = g3 at *
    generalize (l'.filter (inB (-9223372036854775808) (x1 - 1) (-9223372036854775808) (y1 - 1))).length = g4 at *
    clear lim few
    have hdc : ((g0 : Int) == (g1 : Int) - (g2 : Int) - (g3 : Int) + (g4 : Int)) = true := by simpa using hcc
    clear hcc
    go_wp2_with (go_at_call 20; refine (awake11 _).mono ?_; rintro e w9 ⟨rfl, hb9⟩)
    go_ret
    exact ⟨rfl, B7.trans (hb9.mono B7.size)⟩
  · have cd := Lib.hid (dropped11_bad a b l D _ _ c c' w1 rfl rfl HR1.out HR2.out (by omega) hw hu)
    have AW2 := Lib.hid (fun W => awake11 W)
    clear HR1 HR2 hD hw hu hf AW
    go_enter Tryz.func4, Tryz.ntmps4
    go_wp2_with (first
      | (go_at_call 21; (try rw [EX]); refine cd.out.mono ?_; rintro e w2 ⟨rfl, hb2⟩)
      | (go_at_call 20; refine (AW2.out _).mono ?_; rintro e w3 ⟨rfl, hb3⟩))
    go_ret
    exact ⟨rfl, (B1.trans (hb2.mono B1.size)).trans (hb3.mono (B1.trans (hb2.mono B1.size)).size)⟩
end Go.Proofs.YthplgcakhniidaaGreat
