/- The law CascadeGrows, walked (printed by gen_l11g.py). -/
import Derived.Test.YthplgcakhniidaaGreatL11b
import Derived.Test.YthplgcakhniidaaGreatCrnP
namespace Go.Proofs.YthplgcakhniidaaGreat
open Go.RowKit Go.Maps
attribute [local irreducible] wpQuiet
set_option linter.unusedSimpArgs false
set_option linter.unusedVariables false

/-- four small numbers as they lie -/
def obY (a b c d : Int) : Obj := .cells #[.int .u8 a, .int .u8 b, .int .u8 c, .int .u8 d] 47 (0, 0)
theorem obY_cells {W : World} {k : Nat} {a b c d : Int} (h : W.heap[k]? = some (obY a b c d)) : W.cell? ⟨k, 0, none⟩ = some (.int .u8 a) ∧ W.cell? ⟨k, 1, none⟩ = some (.int .u8 b) ∧ W.cell? ⟨k, 2, none⟩ = some (.int .u8 c) ∧ W.cell? ⟨k, 3, none⟩ = some (.int .u8 d) := by simp [World.cell?, h, obY]
theorem frzBx {W : World} {b : Nat} {p : Bx} (h : W.heap[b]? = some (objBx p)) (k : Nat) : W.frozen? ⟨b, k, none⟩ = false := by simp [World.frozen?, h, objBx]
theorem any_more {l : List Pt} {j : Nat} (hj : j < l.length) (f : Pt → Bool) : (l.take (j + 1)).any f = ((l.take j).any f || f l[j]) := by
  rw [List.take_succ_eq_append_getElem hj, List.any_append]; simp
theorem filt_at {W : List Int} (P : Int → Bool) {i : Nat} (hi : i < W.length) (h : P W[i] = true) : ∃ h : ((W.take i).filter P).length < (W.filter P).length, (W.filter P)[((W.take i).filter P).length] = W[i] := by
  have e : W.filter P = (W.take i).filter P ++ W[i] :: (W.drop (i + 1)).filter P := by
    have e2 : W = W.take i ++ W[i] :: W.drop (i + 1) := by rw [List.getElem_cons_drop, List.take_append_drop]
    conv => lhs; rw [e2]
    rw [List.filter_append, List.filter_cons_of_pos h]
  refine ⟨by rw [e]; simp, ?_⟩
  have : ∀ (A B : List Int) (x : Int) (L : List Int) (hL : L = A ++ x :: B) (hk : A.length < L.length), L[A.length] = x := fun A B x L hL hk => by subst hL; simp
  exact this _ _ _ _ e _
theorem filt_more {W : List Int} (P : Int → Bool) {i : Nat} (hi : i < W.length) : (P W[i] = true → ((W.take (i + 1)).filter P).length = ((W.take i).filter P).length + 1) ∧ (P W[i] = false → ((W.take (i + 1)).filter P).length = ((W.take i).filter P).length) := by
  rw [List.take_succ_eq_append_getElem hi, List.filter_append]
  constructor <;> intro h <;> simp [h]
theorem box_bad {l : Nat} {x1 x2 y1 y2 : Int} : (decide (100 < (l : Int)) = true) ∨ (decide (100 < (l : Int)) = false ∧ decide (x2 < x1) = true) ∨ (decide (100 < (l : Int)) = false ∧ decide (x2 < x1) = false ∧ decide (y2 < y1) = true) ∨ (decide (100 < (l : Int)) = false ∧ decide (x2 < x1) = false ∧ decide (y2 < y1) = false ∧ l ≤ 100 ∧ x1 ≤ x2 ∧ y1 ≤ y2) := by
  simp only [decide_eq_true_eq, decide_eq_false_iff_not]; omega

set_option maxRecDepth 100000 in
set_option maxHeartbeats 16000000 in
theorem wCascadeGrows (a : Option Addr) (l : List Pt) (n c : Nat) (bx : Bx) (s0 s1 s2 s3 : Int) (w : World) (hn : l.length = n) (h : RdK ePt 3 w a l) (hf : ∀ p ∈ l, (Lit.int .i64 p.1).wf = true ∧ (Lit.int .i64 p.2.1).wf = true ∧ (Lit.int .u32 p.2.2).wf = true) (hb : bx.wf)
    (hs : (Lit.int .u8 s0).wf = true ∧ (Lit.int .u8 s1).wf = true ∧ (Lit.int .u8 s2).wf = true ∧ (Lit.int .u8 s3).wf = true) :
    Calls Tryz.prog 5 #[.slice a n c, vBx bx, .agg #[.int .u8 s0, .int .u8 s1, .int .u8 s2, .int .u8 s3]] w fun e w' => e = .returned (.bool true) ∧ Below w.heap.size w w' := by
  subst hn
  obtain ⟨X1, X2, Y1, Y2, BI⟩ := bx
  have hw : wfN l := fun p hp => (hf p hp).2.2
  have AW := Lib.hid (fun W => awake11 W)
  have hS : (0 ≤ s0 ∧ s0 ≤ 255) ∧ (0 ≤ s1 ∧ s1 ≤ 255) ∧ (0 ≤ s2 ∧ s2 ≤ 255) ∧ (0 ≤ s3 ∧ s3 ≤ 255) := by
    simp [Lit.wf, IntKind.min, IntKind.max, IntKind.signed, IntKind.bits] at hs
    omega
  obtain ⟨hX1, hX2, hY1, hY2, -⟩ := hb
  have hX1 := wf64 hX1
  have hX2 := wf64 hX2
  have hY1 := wf64 hY1
  have hY2 := wf64 hY2
  simp only [leastI, mostI] at hX1 hX2 hY1 hY2
  have HR := Lib.hid h
  clear hs hf h
  rcases box_bad (l := l.length) (x1 := X1) (x2 := X2) (y1 := Y1) (y2 := Y2) with d0 | ⟨d0, d1⟩ | ⟨d0, d1, d2⟩ | ⟨d0, d1, d2, hlen, hx, hy⟩
  iterate 3
    · go_enter Tryz.func5, Tryz.ntmps5
      go_wp2_with (go_at_call 20; refine (AW.out _).mono ?_; rintro e w3 ⟨rfl, hb3⟩)
      go_ret
      exact ⟨rfl, (((Below.refl _ _).alloc (Nat.le_refl _) _).alloc (by simp) _).trans (hb3.mono (by simp; omega))⟩
  · rcases Bool.eq_false_or_eq_true (unl l) with hu | hu
    · have HU := Lib.hid (show (ids l).Nodup by unfold unl at hu; simpa using hu)
      have cb1 := Lib.hid (fun W (r : RdK ePt 3 W a l) => tBuild a c l W r (by omega) hw hu)
      clear hu hw
      go_enter Tryz.func5, Tryz.ntmps5
      go_wp2_with fail
      have b0 : Below w.heap.size w ((w.alloc (.cells #[.int .i64 X1, .int .i64 X2, .int .i64 Y1, .int .i64 Y2, .int .u32 BI] 39)).alloc (.cells #[.int .u8 s0, .int .u8 s1, .int .u8 s2, .int .u8 s3] 47)) := ((Below.refl _ _).alloc (Nat.le_refl _) _).alloc (by simp) _
      have P0 : ((w.alloc (.cells #[.int .i64 X1, .int .i64 X2, .int .i64 Y1, .int .i64 Y2, .int .u32 BI] 39)).alloc (.cells #[.int .u8 s0, .int .u8 s1, .int .u8 s2, .int .u8 s3] 47)).heap[w.heap.size]? = some (objBx (X1, X2, Y1, Y2, BI)) := lit1 _ _ _
      have Q0 : ((w.alloc (.cells #[.int .i64 X1, .int .i64 X2, .int .i64 Y1, .int .i64 Y2, .int .u32 BI] 39)).alloc (.cells #[.int .u8 s0, .int .u8 s1, .int .u8 s2, .int .u8 s3] 47)).heap[w.heap.size + 1]? = some (obY s0 s1 s2 s3) := lit2 _ _ _
      refine (cb1.out _ (HR.out.below b0)).mono ?_
      rintro e w1 ⟨tb, rfl, T1, hb1⟩
      have P1 := (hb1.block _ (Array.getElem?_eq_some_iff.1 P0).1).trans P0
      have Q1 := (hb1.block _ (Array.getElem?_eq_some_iff.1 Q0).1).trans Q0
      have B1 := b0.trans (hb1.mono b0.size)
      have HT := Lib.hid T1
      have hpl := (Array.getElem?_eq_some_iff.1 P1).1
      have hql := (Array.getElem?_eq_some_iff.1 Q1).1
      have HP1 := Lib.hid P1
      have HQ1 := Lib.hid Q1
      have HB1 := Lib.hid B1
      obtain ⟨p0, p1, p2, p3, p4⟩ := objBx_cells P1
      obtain ⟨w2, ew2⟩ : ∃ w2, w2 = w1.alloc (.cells #[.int .i64 X1, .int .i64 X2, .int .i64 Y1, .int .i64 Y2, .int .u32 BI] 39) := ⟨_, rfl⟩
      have C2 : w2.heap[w1.heap.size]? = some (objBx (X1, X2, Y1, Y2, BI)) := by rw [ew2]; exact lit0 _ _
      have K2 : KpS (fun k => k = w1.heap.size) w1 w2 := by rw [ew2]; exact (KpS.refl _ _).alloc _
      have Q2 := blkK K2 Q1 (show ¬ (w.heap.size + 1 = w1.heap.size) by omega)
      obtain ⟨q0, -, -, -⟩ := obY_cells Q2
      have HC2 := Lib.hid C2
      have HK2 := Lib.hid K2
      have EX := ew2.symm
      clear b0 P0 Q0 hb1 B1 T1 cb1 ew2 C2 K2 P1 Q1 Q2
      go_wp2
      clear p0 p1 p2 p3 p4 q0 EX
      go_loopw [49] (fun jv wr => ∃ (j : Nat) (x1 x2 y1 y2 : Int), jv = .int .u8 (j : Int) ∧ (j : Int) ≤ s0 ∧ Hid (KpS (fun k => k = w1.heap.size) w1 wr) ∧ Hid (wr.heap[w1.heap.size]? = some (objBx (x1, x2, y1, y2, BI))) ∧ (X1 ≤ x1 ∧ x1 ≤ x2 ∧ x2 ≤ X2) ∧ (Y1 ≤ y1 ∧ y1 ≤ y2 ∧ y2 ≤ Y2)) (fun jv _ => s0.toNat - (intOf jv).toNat)
      case atStart => exact ⟨0, X1, X2, Y1, Y2, rfl, by omega, HK2, HC2, by omega, by omega⟩
      case round =>
        obtain ⟨j, x1, x2, y1, y2, rfl, hj, HK, HC, hxx, hyy⟩ := hrel
        have P9 := blkK HK.out HP1.out (by omega)
        have Q9 := blkK HK.out HQ1.out (by omega)
        obtain ⟨z0, z1, z2, z3, z4⟩ := objBx_cells HC.out
        have f0 := frzBx HC.out 0
        by_cases hlt : (j : Int) < s0
        · by_cases hc : x1 < x2
          · go_wp2
            have S1 := heap_setCell_same wr w1.heap.size 0 _ _ (Value.int .i64 (x1 + 1)) HC.out
            exact ⟨⟨j + 1, x1 + 1, x2, y1, y2, by go_num, by omega, Lib.hid (HK.out.set (a := ⟨w1.heap.size, 0, none⟩) _ (.inl rfl)), Lib.hid S1, by omega, by omega⟩, by simp [intOf]; omega⟩
          · go_wp2
            exact ⟨⟨j + 1, x1, x2, y1, y2, by go_num, by omega, HK, HC, by omega, by omega⟩, by simp [intOf]; omega⟩
        · obtain ⟨q0, q1, q2, q3⟩ := obY_cells Q9
          clear z0 z1 z2 z3 z4 f0
          have HK3 := HK
          have HC3 := HC
          go_wp2
          clear q0 q1 q2 q3 P9 Q9 HK HC hj hlt
          go_loopw [63] (fun jv wr => ∃ (j : Nat) (x1 x2 y1 y2 : Int), jv = .int .u8 (j : Int) ∧ (j : Int) ≤ s1 ∧ Hid (KpS (fun k => k = w1.heap.size) w1 wr) ∧ Hid (wr.heap[w1.heap.size]? = some (objBx (x1, x2, y1, y2, BI))) ∧ (X1 ≤ x1 ∧ x1 ≤ x2 ∧ x2 ≤ X2) ∧ (Y1 ≤ y1 ∧ y1 ≤ y2 ∧ y2 ≤ Y2)) (fun jv _ => s1.toNat - (intOf jv).toNat)
          case atStart => exact ⟨0, x1, x2, y1, y2, rfl, by omega, HK3, HC3, by omega, by omega⟩
          case round =>
            obtain ⟨j, x1, x2, y1, y2, rfl, hj, HK, HC, hxx, hyy⟩ := hrel
            have P9 := blkK HK.out HP1.out (by omega)
            have Q9 := blkK HK.out HQ1.out (by omega)
            obtain ⟨z0, z1, z2, z3, z4⟩ := objBx_cells HC.out
            have f1 := frzBx HC.out 1
            by_cases hlt : (j : Int) < s1
            · by_cases hc : x1 < x2
              · go_wp2
                have S1 := heap_setCell_same wr w1.heap.size 1 _ _ (Value.int .i64 (x2 - 1)) HC.out
                exact ⟨⟨j + 1, x1, x2 - 1, y1, y2, by go_num, by omega, Lib.hid (HK.out.set (a := ⟨w1.heap.size, 1, none⟩) _ (.inl rfl)), Lib.hid S1, by omega, by omega⟩, by simp [intOf]; omega⟩
              · go_wp2
                exact ⟨⟨j + 1, x1, x2, y1, y2, by go_num, by omega, HK, HC, by omega, by omega⟩, by simp [intOf]; omega⟩
            · obtain ⟨q0, q1, q2, q3⟩ := obY_cells Q9
              clear z0 z1 z2 z3 z4 f1
              have HK4 := HK
              have HC4 := HC
              go_wp2
              clear q0 q1 q2 q3 P9 Q9 HK HC hj hlt
              go_loopw [77] (fun jv wr => ∃ (j : Nat) (x1 x2 y1 y2 : Int), jv = .int .u8 (j : Int) ∧ (j : Int) ≤ s2 ∧ Hid (KpS (fun k => k = w1.heap.size) w1 wr) ∧ Hid (wr.heap[w1.heap.size]? = some (objBx (x1, x2, y1, y2, BI))) ∧ (X1 ≤ x1 ∧ x1 ≤ x2 ∧ x2 ≤ X2) ∧ (Y1 ≤ y1 ∧ y1 ≤ y2 ∧ y2 ≤ Y2)) (fun jv _ => s2.toNat - (intOf jv).toNat)
              case atStart => exact ⟨0, x1, x2, y1, y2, rfl, by omega, HK4, HC4, by omega, by omega⟩
              case round =>
                obtain ⟨j, x1, x2, y1, y2, rfl, hj, HK, HC, hxx, hyy⟩ := hrel
                have P9 := blkK HK.out HP1.out (by omega)
                have Q9 := blkK HK.out HQ1.out (by omega)
                obtain ⟨z0, z1, z2, z3, z4⟩ := objBx_cells HC.out
                have f2 := frzBx HC.out 2
                by_cases hlt : (j : Int) < s2
                · by_cases hc : y1 < y2
                  · go_wp2
                    have S1 := heap_setCell_same wr w1.heap.size 2 _ _ (Value.int .i64 (y1 + 1)) HC.out
                    exact ⟨⟨j + 1, x1, x2, y1 + 1, y2, by go_num, by omega, Lib.hid (HK.out.set (a := ⟨w1.heap.size, 2, none⟩) _ (.inl rfl)), Lib.hid S1, by omega, by omega⟩, by simp [intOf]; omega⟩
                  · go_wp2
                    exact ⟨⟨j + 1, x1, x2, y1, y2, by go_num, by omega, HK, HC, by omega, by omega⟩, by simp [intOf]; omega⟩
                · obtain ⟨q0, q1, q2, q3⟩ := obY_cells Q9
                  clear z0 z1 z2 z3 z4 f2
                  have HK5 := HK
                  have HC5 := HC
                  go_wp2
                  clear q0 q1 q2 q3 P9 Q9 HK HC hj hlt
                  go_loopw [91] (fun jv wr => ∃ (j : Nat) (x1 x2 y1 y2 : Int), jv = .int .u8 (j : Int) ∧ (j : Int) ≤ s3 ∧ Hid (KpS (fun k => k = w1.heap.size) w1 wr) ∧ Hid (wr.heap[w1.heap.size]? = some (objBx (x1, x2, y1, y2, BI))) ∧ (X1 ≤ x1 ∧ x1 ≤ x2 ∧ x2 ≤ X2) ∧ (Y1 ≤ y1 ∧ y1 ≤ y2 ∧ y2 ≤ Y2)) (fun jv _ => s3.toNat - (intOf jv).toNat)
                  case atStart => exact ⟨0, x1, x2, y1, y2, rfl, by omega, HK5, HC5, by omega, by omega⟩
                  case round =>
                    obtain ⟨j, x1, x2, y1, y2, rfl, hj, HK, HC, hxx, hyy⟩ := hrel
                    have P9 := blkK HK.out HP1.out (by omega)
                    have Q9 := blkK HK.out HQ1.out (by omega)
                    obtain ⟨z0, z1, z2, z3, z4⟩ := objBx_cells HC.out
                    have f3 := frzBx HC.out 3
                    by_cases hlt : (j : Int) < s3
                    · by_cases hc : y1 < y2
                      · go_wp2
                        have S1 := heap_setCell_same wr w1.heap.size 3 _ _ (Value.int .i64 (y2 - 1)) HC.out
                        exact ⟨⟨j + 1, x1, x2, y1, y2 - 1, by go_num, by omega, Lib.hid (HK.out.set (a := ⟨w1.heap.size, 3, none⟩) _ (.inl rfl)), Lib.hid S1, by omega, by omega⟩, by simp [intOf]; omega⟩
                      · go_wp2
                        exact ⟨⟨j + 1, x1, x2, y1, y2, by go_num, by omega, HK, HC, by omega, by omega⟩, by simp [intOf]; omega⟩
                    · obtain ⟨q0, q1, q2, q3⟩ := obY_cells Q9
                      clear z0 z1 z2 z3 z4 f3
                      have HK6 := HK
                      have HC6 := HC
                      clear q0 q1 q2 q3 Q9
                      have hpc := (Array.getElem?_eq_some_iff.1 HC.out).1
                      have HT9 := Lib.hid (HT.out.kept HK.out (fun k h1 h2 => by omega))
                      have BK : Below w1.heap.size w1 wr := HK.out.toBelow (Nat.le_refl _) (fun k h => Nat.le_of_eq h.symm)
                      have B9 := HB1.out.trans (BK.mono HB1.out.size)
                      obtain ⟨Pn, hPn⟩ : ∃ Pn : Int → Bool, ∀ m, Pn m = l.any fun p => p.2.2 == m && inB x1 x2 y1 y2 p := ⟨_, fun _ => rfl⟩
                      have HN : Hid (hasB l x1 x2 y1 y2 = (hasB l X1 X2 Y1 Y2).filter Pn) := Lib.hid (by
                        rw [show Pn = fun m => l.any fun p => p.2.2 == m && inB x1 x2 y1 y2 p from funext hPn]
                        exact hasN_within HU.out (fun p _ h => by simp only [inB, decide_eq_true_eq] at h ⊢; omega))
                      have HPN := Lib.hid hPn
                      clear hPn
                      obtain ⟨y0, y1', y2', y3, y4⟩ := objBx_cells P9
                      have HCC := Lib.hid HC.out
                      clear HK3 HK4 HK5 HK6 HC3 HC4 HC5 HC6 HK2 HC2 HK HC P9 HP1 HQ1 HT BK
                      go_wp2_with fail
                      refine (tReport HT9.out X1 X2 Y1 Y2 BI).mono ?_
                      rintro e w3 ⟨v3, c3, rfl, -, hown3, hb3⟩
                      obtain ⟨a3, k3, rfl, -, -, hr3⟩ := Rd.of_owns hown3
                      have C3 := (hb3.block _ hpc).trans HCC.out
                      have HC3 := Lib.hid C3
                      have T3 := Lib.hid (HT9.out.below hb3 HT9.out.hi_le)
                      have R3 := Lib.hid hr3
                      have B3 := B9.trans (hb3.mono B9.size)
                      obtain ⟨z0, z1, z2, z3, z4⟩ := objBx_cells C3
                      clear y0 y1' y2' y3 y4 HCC HT9 hr3 hown3 hb3 B9 C3
                      go_wp2_with fail
                      have c4 := tReport T3.out x1 x2 y1 y2 BI
                      rw [HN.out] at c4
                      refine c4.mono ?_
                      rintro e w4 ⟨v4, q4, rfl, -, hown4, hb4⟩
                      obtain ⟨a4, k4, rfl, -, -, hr4⟩ := Rd.of_owns hown4
                      have hpl4 := (Array.getElem?_eq_some_iff.1 HC3.out).1
                      have C4 := (hb4.block _ hpl4).trans HC3.out
                      have HC4 := Lib.hid C4
                      have hpl5 := (Array.getElem?_eq_some_iff.1 C4).1
                      have R3' := Lib.hid (R3.out.below hb4)
                      have R4 := Lib.hid hr4
                      have B4 := B3.trans (hb4.mono B3.size)
                      have HL := Lib.hid (HR.out.below B4)
                      have HB4 := Lib.hid B4
                      have hWl : (hasB l X1 X2 Y1 Y2).length ≤ 100 := by rw [hasB_len]; exact Nat.le_trans (List.length_filter_le _ _) hlen
                      clear c4 z0 z1 z2 z3 z4 HC3 T3 R3 B3 hr4 hown4 hb4 HN C4 B4
                      generalize hasB l X1 X2 Y1 Y2 = W at *
                      go_wp2
                      go_loopw [14, 117] (fun kv iv wr => ∃ i : Nat, iv = .int .i64 i ∧ i ≤ W.length ∧ kv = .int .i64 (((W.take i).filter Pn).length : Nat) ∧ Below w4.heap.size w4 wr) (fun _ iv _ => W.length - (intOf iv).toNat)
                      case atStart => exact ⟨0, rfl, Nat.zero_le _, by simp, Below.refl _ _⟩
                      case round =>
                        obtain ⟨i, rfl, hi, rfl, hb⟩ := hrel
                        by_cases hlt : i < W.length
                        · obtain ⟨b5, off5, ea5, hbl5, hcs5⟩ := (R3'.out.below hb).get (by omega)
                          have x0 := hcs5 i hlt
                          have FM := Lib.hid (filt_more Pn hlt)
                          have FA := Lib.hid (fun h => filt_at Pn hlt h)
                          have hkk : ((W.take i).filter Pn).length ≤ i := Nat.le_trans (List.length_filter_le _ _) (by rw [List.length_take]; omega)
                          have EA := Lib.hid ea5
                          have hkl2 : (i : Int) < (W.length : Int) := by omega
                          clear hcs5 ea5
                          generalize hm : W[i] = m at *
                          clear hm
                          generalize ((W.take i).filter Pn).length = kk at *
                          obtain rfl := EA.out
                          clear EA
                          have hsr := hb.size
                          obtain ⟨wo, ewo⟩ : ∃ wo : World, wo = wr := ⟨_, rfl⟩
                          subst ewo
                          go_wp2
                          go_loopw [17, 123] (fun bv jv wr => ∃ j : Nat, jv = .int .i64 j ∧ j ≤ l.length ∧ bv = .bool ((l.take j).any fun p => p.2.2 == m && inB x1 x2 y1 y2 p) ∧ Below wo.heap.size wo wr) (fun _ jv _ => l.length - (intOf jv).toNat)
                          case atStart => exact ⟨0, rfl, Nat.zero_le _, by simp, Below.refl _ _⟩
                          case round =>
                            obtain ⟨j, rfl, hj, rfl, hb8⟩ := hrel
                            have B8 := hb.trans (hb8.mono hb.size)
                            by_cases hjl : j < l.length
                            · obtain ⟨b6, off6, ea6, hbl6, hcs6⟩ := (HL.out.below B8).get (by omega)
                              have u0 := hcs6 j hjl 0 (by omega)
                              have u1 := hcs6 j hjl 1 (by omega)
                              have u2 := hcs6 j hjl 2 (by omega)
                              simp only [ePt, List.getElem?_cons_zero, List.getElem?_cons_succ, Nat.add_zero] at u0 u1 u2
                              have AM := Lib.hid (any_more hjl (fun p => p.2.2 == m && inB x1 x2 y1 y2 p))
                              have EA := Lib.hid ea6
                              have C8 := (B8.block _ hpl5).trans HC4.out
                              have hjl2 : (j : Int) < (l.length : Int) := by omega
                              have hs8 := hb8.size
                              clear hcs6 ea6 x0
                              generalize ((l.take j).any fun p => p.2.2 == m && inB x1 x2 y1 y2 p) = B0 at *
                              generalize l[j] = p at *
                              obtain ⟨px, py, pi⟩ := p
                              simp only at u0 u1 u2
                              obtain rfl := EA.out
                              clear EA
                              obtain ⟨z0, z1, z2, z3, z4⟩ := objBx_cells C8
                              have hcl8 := (Array.getElem?_eq_some_iff.1 C8).1
                              have hne8 : w1.heap.size ≠ wr.heap.size := by omega
                              have BA := hb8.alloc hs8 (.cells #[.int .i64 px, .int .i64 py, .int .u32 pi] 34)
                              clear C8 B8
                              cases B0
                              · rcases Bool.eq_false_or_eq_true (pi == m) with e0 | e0
                                · rcases inB_cases x1 x2 y1 y2 px py pi with ⟨hf, e1, e2, e3, e4⟩ | ⟨hf, e1⟩ | ⟨hf, e1, e2⟩ | ⟨hf, e1, e2, e3⟩ | ⟨hf, e1, e2, e3, e4⟩
                                  all_goals
                                    have AV : Hid (((l.take (j + 1)).any fun p => p.2.2 == m && inB x1 x2 y1 y2 p) = inB x1 x2 y1 y2 (px, py, pi)) := Lib.hid (by rw [AM.out]; simp only [e0, Bool.false_or, Bool.true_and])
                                    rw [hf] at AV
                                    clear AM hf
                                    go_wp2
                                    go_roundw
                                    case rel => first | exact ⟨j + 1, by go_num, by omega, by rw [AV.out], BA⟩ | ((repeat apply Exists.intro); exact ⟨⟨j + 1, by go_num, by omega, by rw [AV.out], BA⟩, rfl⟩)
                                    case measure => simp [intOf]; omega
                                · have AV : Hid (((l.take (j + 1)).any fun p => p.2.2 == m && inB x1 x2 y1 y2 p) = false) := Lib.hid (by rw [AM.out]; simp only [e0, Bool.false_or, Bool.false_and])
                                  clear AM
                                  go_wp2
                                  go_roundw
                                  case rel => first | exact ⟨j + 1, by go_num, by omega, by rw [AV.out], BA⟩ | ((repeat apply Exists.intro); exact ⟨⟨j + 1, by go_num, by omega, by rw [AV.out], BA⟩, rfl⟩)
                                  case measure => simp [intOf]; omega
                              · have AV : Hid (((l.take (j + 1)).any fun p => p.2.2 == m && inB x1 x2 y1 y2 p) = true) := Lib.hid (by rw [AM.out]; exact Bool.true_or _)
                                clear AM
                                go_wp2
                                go_roundw
                                case rel => first | exact ⟨j + 1, by go_num, by omega, by rw [AV.out], BA⟩ | ((repeat apply Exists.intro); exact ⟨⟨j + 1, by go_num, by omega, by rw [AV.out], BA⟩, rfl⟩)
                                case measure => simp [intOf]; omega
                            · obtain rfl : j = l.length := by omega
                              have hpm := HPN.out m
                              rw [List.take_length, ← hpm]
                              have B8s := B8.size
                              rcases Bool.eq_false_or_eq_true (Pn m) with hP | hP
                              · obtain ⟨hk, hke⟩ := FA.out hP
                                have hfm := FM.out.1 hP
                                obtain ⟨b7, off7, ea7, hbl7, hcs7⟩ := (R4.out.below B8).get (by omega)
                                have n0 := hcs7 _ hk
                                rw [hke] at n0
                                have EA := Lib.hid ea7
                                have HFM := Lib.hid hfm
                                have hk2 : (kk : Int) < ((W.filter Pn).length : Int) := by omega
                                have hk3 : ((kk : Int) == ((W.filter Pn).length : Int)) = false := by simp; omega
                                clear hcs7 ea7 hke hfm hpm x0 FA
                                obtain rfl := EA.out
                                clear EA
                                rw [hP]
                                go_wp2
                                go_roundw
                                case rel => first | exact ⟨i + 1, by go_num, by omega, by first | (rw [HFM.out]; done) | (rw [HFM.out]; go_num), B8⟩ | ((repeat apply Exists.intro); exact ⟨⟨i + 1, by go_num, by omega, by first | (rw [HFM.out]; done) | (rw [HFM.out]; go_num), B8⟩, rfl⟩)
                                case measure => simp [intOf]; omega
                              · have HFM := Lib.hid (FM.out.2 hP)
                                rw [hP]
                                clear hpm x0
                                go_wp2
                                go_roundw
                                case rel => first | exact ⟨i + 1, by go_num, by omega, by rw [HFM.out], B8⟩ | ((repeat apply Exists.intro); exact ⟨⟨i + 1, by go_num, by omega, by rw [HFM.out], B8⟩, rfl⟩)
                                case measure => simp [intOf]; omega
                        · obtain rfl : i = W.length := by omega
                          rw [List.take_length]
                          have BR := HB4.out.trans (hb.mono HB4.out.size)
                          go_wp2_with (go_at_call 20; refine (AW.out _).mono ?_; rintro e w9 ⟨rfl, hb9⟩)
                          go_ret
                          exact ⟨rfl, BR.trans (hb9.mono BR.size)⟩
    · have cb1 := Lib.hid (fun W (r : RdK ePt 3 W a l) => casc_build_bad a c l W r (by omega) hw hu)
      go_enter Tryz.func5, Tryz.ntmps5
      go_wp2_with fail
      have b0 : Below w.heap.size w ((w.alloc (.cells #[.int .i64 X1, .int .i64 X2, .int .i64 Y1, .int .i64 Y2, .int .u32 BI] 39)).alloc (.cells #[.int .u8 s0, .int .u8 s1, .int .u8 s2, .int .u8 s3] 47)) := ((Below.refl _ _).alloc (Nat.le_refl _) _).alloc (by simp) _
      refine (cb1.out _ (HR.out.below b0)).mono ?_
      rintro e w2 ⟨rfl, hb2⟩
      have B2 := b0.trans (hb2.mono b0.size)
      clear b0 hb2
      go_wp2_with (go_at_call 20; refine (AW.out _).mono ?_; rintro e w3 ⟨rfl, hb3⟩)
      go_ret
      exact ⟨rfl, B2.trans (hb3.mono B2.size)⟩
end Go.Proofs.YthplgcakhniidaaGreat
